import Derived.Test.YtccnkebkgegohaaGreatDoorG04
/-
  Given contracts of functions of the program, and laws for them, one behind the other.
-/
set_option linter.unusedVariables false
set_option linter.unusedSimpArgs false
set_option linter.unusedSectionVars false
section
namespace Go.Proofs.YtccnkebkgegohaaGreatDoor
open Go.RowKit Go.Rel
set_option maxRecDepth 100000
set_option maxHeartbeats 1000000 in
theorem Indep_err1 (blank : Sol) (v : Value) (a b : Ac) (w : World) (R : Int) (hne : (R == 0) = false)
  (h : ∀ w', Below w.heap.size w w' → Calls Tryz.prog 36 #[.agg #[.int .u64 (pl blank 0), .int .u64 (pl blank 1), .int .u64 (pl blank 2), .int .u64 (pl blank 3), .int .u64 (pl blank 4), .int .u64 (pl blank 5), .int .u64 (pl blank 6), .int .u64 (pl blank 7), v], .agg #[.int .u8 a.1, .int .i64 a.2.1, .int .u64 (pl a.2.2 0), .int .u64 (pl a.2.2 1), .int .u64 (pl a.2.2 2), .int .u64 (pl a.2.2 3), .int .u64 (pl a.2.2 4), .int .u64 (pl a.2.2 5), .int .u64 (pl a.2.2 6), .int .u64 (pl a.2.2 7)]] w' fun e w'' => e = .returned (.int .i64 R) ∧ Below w'.heap.size w' w'') :
  Calls Tryz.prog 32 #[.agg #[.int .u64 (pl blank 0), .int .u64 (pl blank 1), .int .u64 (pl blank 2), .int .u64 (pl blank 3), .int .u64 (pl blank 4), .int .u64 (pl blank 5), .int .u64 (pl blank 6), .int .u64 (pl blank 7), v], .agg #[.int .u8 a.1, .int .i64 a.2.1, .int .u64 (pl a.2.2 0), .int .u64 (pl a.2.2 1), .int .u64 (pl a.2.2 2), .int .u64 (pl a.2.2 3), .int .u64 (pl a.2.2 4), .int .u64 (pl a.2.2 5), .int .u64 (pl a.2.2 6), .int .u64 (pl a.2.2 7)], .agg #[.int .u8 b.1, .int .i64 b.2.1, .int .u64 (pl b.2.2 0), .int .u64 (pl b.2.2 1), .int .u64 (pl b.2.2 2), .int .u64 (pl b.2.2 3), .int .u64 (pl b.2.2 4), .int .u64 (pl b.2.2 5), .int .u64 (pl b.2.2 6), .int .u64 (pl b.2.2 7)]] w fun e w' => e = .returned (.tuple #[.bool false, .int .i64 R]) ∧ Below w.heap.size w w' := by
 have H := Lib.hid h; clear h
 have hne' : (R != 0) = true := by simp [bne, hne]
 go_enter Tryz.func32, Tryz.ntmps32
 go_wp2_with fail
 refine wp_loop_rounds 3 ?_
 rw [rounds_succ]
 go_wp2_with fail
 refine (H.out _ bel_by).mono ?_
 rintro e w1 ⟨rfl, hb⟩
 go_wp2_with fail
 go_ret2
 exact ⟨rfl, bel_by⟩
set_option maxHeartbeats 2000000 in
theorem Indep_err2 (blank : Sol) (v : Value) (a b : Ac) (w : World) (R : Int) (hne : (R == 0) = false)
  (h0 : ∀ w', Below w.heap.size w w' → Calls Tryz.prog 36 #[.agg #[.int .u64 (pl blank 0), .int .u64 (pl blank 1), .int .u64 (pl blank 2), .int .u64 (pl blank 3), .int .u64 (pl blank 4), .int .u64 (pl blank 5), .int .u64 (pl blank 6), .int .u64 (pl blank 7), v], .agg #[.int .u8 a.1, .int .i64 a.2.1, .int .u64 (pl a.2.2 0), .int .u64 (pl a.2.2 1), .int .u64 (pl a.2.2 2), .int .u64 (pl a.2.2 3), .int .u64 (pl a.2.2 4), .int .u64 (pl a.2.2 5), .int .u64 (pl a.2.2 6), .int .u64 (pl a.2.2 7)]] w' fun e w'' => e = .returned (.int .i64 0) ∧ Below w'.heap.size w' w'')
  (h : ∀ w', Below w.heap.size w w' → Calls Tryz.prog 36 #[.agg #[.int .u64 (pl blank 0), .int .u64 (pl blank 1), .int .u64 (pl blank 2), .int .u64 (pl blank 3), .int .u64 (pl blank 4), .int .u64 (pl blank 5), .int .u64 (pl blank 6), .int .u64 (pl blank 7), v], .agg #[.int .u8 b.1, .int .i64 b.2.1, .int .u64 (pl b.2.2 0), .int .u64 (pl b.2.2 1), .int .u64 (pl b.2.2 2), .int .u64 (pl b.2.2 3), .int .u64 (pl b.2.2 4), .int .u64 (pl b.2.2 5), .int .u64 (pl b.2.2 6), .int .u64 (pl b.2.2 7)]] w' fun e w'' => e = .returned (.int .i64 R) ∧ Below w'.heap.size w' w'') :
  Calls Tryz.prog 32 #[.agg #[.int .u64 (pl blank 0), .int .u64 (pl blank 1), .int .u64 (pl blank 2), .int .u64 (pl blank 3), .int .u64 (pl blank 4), .int .u64 (pl blank 5), .int .u64 (pl blank 6), .int .u64 (pl blank 7), v], .agg #[.int .u8 a.1, .int .i64 a.2.1, .int .u64 (pl a.2.2 0), .int .u64 (pl a.2.2 1), .int .u64 (pl a.2.2 2), .int .u64 (pl a.2.2 3), .int .u64 (pl a.2.2 4), .int .u64 (pl a.2.2 5), .int .u64 (pl a.2.2 6), .int .u64 (pl a.2.2 7)], .agg #[.int .u8 b.1, .int .i64 b.2.1, .int .u64 (pl b.2.2 0), .int .u64 (pl b.2.2 1), .int .u64 (pl b.2.2 2), .int .u64 (pl b.2.2 3), .int .u64 (pl b.2.2 4), .int .u64 (pl b.2.2 5), .int .u64 (pl b.2.2 6), .int .u64 (pl b.2.2 7)]] w fun e w' => e = .returned (.tuple #[.bool false, .int .i64 R]) ∧ Below w.heap.size w w' := by
 have H0 := Lib.hid h0; clear h0
 have H := Lib.hid h; clear h
 have hne' : (R != 0) = true := by simp [bne, hne]
 go_enter Tryz.func32, Tryz.ntmps32
 go_wp2_with fail
 refine wp_loop_rounds 3 ?_
 rw [rounds_succ]
 go_wp2_with fail
 refine (H0.out _ bel_by).mono ?_
 rintro e w1 ⟨rfl, hb⟩
 have hc := (bcell hb).1
 have hs := hb.size
 simp only [World.size_alloc] at hs
 have gww10 : w.heap.size < w1.heap.size := by omega
 have gww11 : w.heap.size + 1 < w1.heap.size := by omega
 have gww12 : w.heap.size + 1 + 1 < w1.heap.size := by omega
 have gww13 : w.heap.size + 1 + 1 + 1 < w1.heap.size := by omega
 go_wp2_with fail
 rw [rounds_succ]
 go_wp2_with fail
 refine (H.out _ bel_by).mono ?_
 rintro e w2 ⟨rfl, hb2⟩
 go_wp2_with fail
 go_ret2
 exact ⟨rfl, bel_by⟩
set_option maxHeartbeats 2000000 in
theorem Indep_ok (blank : Sol) (v : Value) (l : List Sol) (a b : Ac) (w : World) (H : SlS w v l) (hza : chkAc blank l a = 0) (hzb : chkAc blank l b = 0) :
  Calls Tryz.prog 32 #[.agg #[.int .u64 (pl blank 0), .int .u64 (pl blank 1), .int .u64 (pl blank 2), .int .u64 (pl blank 3), .int .u64 (pl blank 4), .int .u64 (pl blank 5), .int .u64 (pl blank 6), .int .u64 (pl blank 7), v], .agg #[.int .u8 a.1, .int .i64 a.2.1, .int .u64 (pl a.2.2 0), .int .u64 (pl a.2.2 1), .int .u64 (pl a.2.2 2), .int .u64 (pl a.2.2 3), .int .u64 (pl a.2.2 4), .int .u64 (pl a.2.2 5), .int .u64 (pl a.2.2 6), .int .u64 (pl a.2.2 7)], .agg #[.int .u8 b.1, .int .i64 b.2.1, .int .u64 (pl b.2.2 0), .int .u64 (pl b.2.2 1), .int .u64 (pl b.2.2 2), .int .u64 (pl b.2.2 3), .int .u64 (pl b.2.2 4), .int .u64 (pl b.2.2 5), .int .u64 (pl b.2.2 6), .int .u64 (pl b.2.2 7)]] w fun e w' => e = .returned (.tuple #[.bool (apartB l a b), .int .i64 0]) ∧ Below w.heap.size w w' := by
 obtain ⟨h8, ha⟩ := chkAc_ok hza
 obtain ⟨_, hb⟩ := chkAc_ok hzb
 have h0 := fun w' (hw : Below w.heap.size w w') => CheckAction_spec blank v l a w' (H.mono hw)
 have h1 := fun w' (hw : Below w.heap.size w w') => CheckAction_spec blank v l b w' (H.mono hw)
 have h2 := fun w' (hw : Below w.heap.size w w') => made_spec blank v l a w' (H.mono hw) h8
 have h3 := fun w' (hw : Below w.heap.size w w') => made_spec blank v l b w' (H.mono hw) h8
 have h4 := independent_spec (made l a) (made l b)
 rw [hza] at h0
 rw [hzb] at h1
 rw [ha] at h2
 rw [hb] at h3
 simp only [if_true] at h2 h3
 have e : (!meetsB (made l a).2.2 (made l b).2.2) = apartB l a b := rfl
 rw [e] at h4
 generalize apartB l a b = r at h4 ⊢
 generalize deedV (made l a) = d1 at h2 h4
 generalize deedV (made l b) = d2 at h3 h4
 have H0 := Lib.hid h0
 have H1 := Lib.hid h1
 have H2 := Lib.hid h2
 have H3 := Lib.hid h3
 have H4 := Lib.hid h4
 clear h0 h1 h2 h3 h4 e hza hzb h8 ha hb H
 go_enter Tryz.func32, Tryz.ntmps32
 go_wp2_with fail
 refine wp_loop_rounds 3 ?_
 rw [rounds_succ]
 go_wp2_with fail
 refine (H0.out _ bel_by).mono ?_
 rintro e w1 ⟨rfl, hb⟩
 have hc := (bcell hb).1
 have hs := hb.size
 simp only [World.size_alloc] at hs
 have gww10 : w.heap.size < w1.heap.size := by omega
 have gww11 : w.heap.size + 1 < w1.heap.size := by omega
 have gww12 : w.heap.size + 1 + 1 < w1.heap.size := by omega
 have gww13 : w.heap.size + 1 + 1 + 1 < w1.heap.size := by omega
 go_wp2_with fail
 rw [rounds_succ]
 go_wp2_with fail
 refine (H1.out _ bel_by).mono ?_
 rintro e w2 ⟨rfl, hb2⟩
 have hc2 := (bcell hb2).1
 have hs2 := hb2.size
 simp only [World.size_alloc] at hs2
 go_wp2_with fail
 rw [rounds_succ]
 go_wp2_with fail
 have hB : Below w.heap.size w w2 := bel_by
 have k0 : ∀ o, w2.cell? ⟨w.heap.size, o, none⟩ = (#[.int .u64 (pl blank 0), .int .u64 (pl blank 1), .int .u64 (pl blank 2), .int .u64 (pl blank 3), .int .u64 (pl blank 4), .int .u64 (pl blank 5), .int .u64 (pl blank 6), .int .u64 (pl blank 7), v] : Array Value)[o]? := fun o => by
  rw [hc2 _ _ (by simp; omega), World.cell?_alloc_past _ _ _ (by omega), hc _ _ (by simp <;> omega)]; simp [go_sem]
 have k1 : ∀ o, w2.cell? ⟨w.heap.size + 1, o, none⟩ = (#[.int .u8 a.1, .int .i64 a.2.1, .int .u64 (pl a.2.2 0), .int .u64 (pl a.2.2 1), .int .u64 (pl a.2.2 2), .int .u64 (pl a.2.2 3), .int .u64 (pl a.2.2 4), .int .u64 (pl a.2.2 5), .int .u64 (pl a.2.2 6), .int .u64 (pl a.2.2 7)] : Array Value)[o]? := fun o => by
  rw [hc2 _ _ (by simp; omega), World.cell?_alloc_past _ _ _ (by omega), hc _ _ (by simp <;> omega)]; simp [go_sem]
 have k2 : ∀ o, w2.cell? ⟨w.heap.size + 1 + 1, o, none⟩ = (#[.int .u8 b.1, .int .i64 b.2.1, .int .u64 (pl b.2.2 0), .int .u64 (pl b.2.2 1), .int .u64 (pl b.2.2 2), .int .u64 (pl b.2.2 3), .int .u64 (pl b.2.2 4), .int .u64 (pl b.2.2 5), .int .u64 (pl b.2.2 6), .int .u64 (pl b.2.2 7)] : Array Value)[o]? := fun o => by
  rw [hc2 _ _ (by simp; omega), World.cell?_alloc_past _ _ _ (by omega), hc _ _ (by simp <;> omega)]; simp [go_sem]
 have hz : w.heap.size + 1 + 1 < w2.heap.size := by omega
 clear hc hc2 hb hb2 hs hs2
 have hz0 : w.heap.size < w2.heap.size := by omega
 have hz1 : w.heap.size + 1 < w2.heap.size := by omega
 have HB := Lib.hid hB; clear hB
 refine wp_region_grow 9 [Is (.agg #[.int .u64 (pl blank 0), .int .u64 (pl blank 1), .int .u64 (pl blank 2), .int .u64 (pl blank 3), .int .u64 (pl blank 4), .int .u64 (pl blank 5), .int .u64 (pl blank 6), .int .u64 (pl blank 7), v]), Is (.agg #[.int .u8 a.1, .int .i64 a.2.1, .int .u64 (pl a.2.2 0), .int .u64 (pl a.2.2 1), .int .u64 (pl a.2.2 2), .int .u64 (pl a.2.2 3), .int .u64 (pl a.2.2 4), .int .u64 (pl a.2.2 5), .int .u64 (pl a.2.2 6), .int .u64 (pl a.2.2 7)]), Is d1, Is (.agg #[.int .u64 (pl blank 0), .int .u64 (pl blank 1), .int .u64 (pl blank 2), .int .u64 (pl blank 3), .int .u64 (pl blank 4), .int .u64 (pl blank 5), .int .u64 (pl blank 6), .int .u64 (pl blank 7), v]), Is (.agg #[.int .u8 b.1, .int .i64 b.2.1, .int .u64 (pl b.2.2 0), .int .u64 (pl b.2.2 1), .int .u64 (pl b.2.2 2), .int .u64 (pl b.2.2 3), .int .u64 (pl b.2.2 4), .int .u64 (pl b.2.2 5), .int .u64 (pl b.2.2 6), .int .u64 (pl b.2.2 7)]), Is d2, Is (.bool r), Is (.bool r), Is (.int .i64 0)] (by kernel_rfl) (by kernel_rfl) rfl ⟨fun _ _ _ h _ => h, fun _ _ _ h _ => h, fun _ _ _ h _ => h, fun _ _ _ h _ => h, fun _ _ _ h _ => h, fun _ _ _ h _ => h, fun _ _ _ h _ => h, fun _ _ _ h _ => h, fun _ _ _ h _ => h, trivial⟩ ?_
 simp only [List.take_succ_cons, List.take_zero, List.drop_succ_cons, List.drop_zero]
 iterate 2 (refine rel_cons ?_ (fun _ => ?_); · intro w1 hb hF; have hc := (Grows.cells hb).1; have hf := (Grows.cells hb).2; (try simp [facts, Is] at hF); go_simp; exact Grows.refl _)
 refine rel_cons ?_ (fun v2 => ?_)
 ·intro w1 hb hF; have hc := (Grows.cells hb).1; have hf := (Grows.cells hb).2; try simp [facts, Is] at hF
  go_simp
  refine (H2.out _ (bel_trans HB.out hb)).mono ?_
  rintro e w2 ⟨rfl, h2⟩
  exact ⟨rfl, h2⟩
 iterate 2 (refine rel_cons ?_ (fun _ => ?_); · intro w1 hb hF; have hc := (Grows.cells hb).1; have hf := (Grows.cells hb).2; (try simp [facts, Is] at hF); go_simp; exact Grows.refl _)
 refine rel_cons ?_ (fun v5 => ?_)
 ·intro w1 hb hF; have hc := (Grows.cells hb).1; have hf := (Grows.cells hb).2; try simp [facts, Is] at hF
  go_simp
  refine (H3.out _ (bel_trans HB.out hb)).mono ?_
  rintro e w2 ⟨rfl, h2⟩
  exact ⟨rfl, h2⟩
 refine rel_cons ?_ (fun v6 => ?_)
 ·intro w1 hb hF; have hc := (Grows.cells hb).1; have hf := (Grows.cells hb).2; try simp [facts, Is] at hF
  go_simp
  refine (H4.out _).mono ?_
  rintro e w2 ⟨rfl, h2⟩
  exact ⟨rfl, h2⟩
 iterate 2 (refine rel_cons ?_ (fun _ => ?_); · intro w1 hb hF; have hc := (Grows.cells hb).1; have hf := (Grows.cells hb).2; (try simp [facts, Is] at hF); go_simp; exact Grows.refl _)
 refine rel_nil ?_
 intro w1 hb hF
 simp [Is, Nat.forall_lt_succ_right] at hF
 simp only [Act.put, List.setIfInBounds_toArray, List.set_cons_succ, List.set_cons_zero, hF]
 clear hF
 refine wpList_nil ?_
 go_wp2_with fail
 go_ret2
 exact ⟨rfl, bel_trans HB.out hb⟩
end Go.Proofs.YtccnkebkgegohaaGreatDoor
end
section
namespace Go.Proofs.YtccnkebkgegohaaGreatDoor
open Go.RowKit Go.Rel
set_option maxRecDepth 100000
/-- what Independent returns -/
def indErr (blank : Sol) (l : List Sol) (a b : Ac) : Int := if chkAc blank l a = 0 then chkAc blank l b else chkAc blank l a
theorem Independent_spec (blank : Sol) (v : Value) (l : List Sol) (a b : Ac) (w : World) (H : SlS w v l) :
  Calls Tryz.prog 32 #[.agg #[.int .u64 (pl blank 0), .int .u64 (pl blank 1), .int .u64 (pl blank 2), .int .u64 (pl blank 3), .int .u64 (pl blank 4), .int .u64 (pl blank 5), .int .u64 (pl blank 6), .int .u64 (pl blank 7), v], .agg #[.int .u8 a.1, .int .i64 a.2.1, .int .u64 (pl a.2.2 0), .int .u64 (pl a.2.2 1), .int .u64 (pl a.2.2 2), .int .u64 (pl a.2.2 3), .int .u64 (pl a.2.2 4), .int .u64 (pl a.2.2 5), .int .u64 (pl a.2.2 6), .int .u64 (pl a.2.2 7)], .agg #[.int .u8 b.1, .int .i64 b.2.1, .int .u64 (pl b.2.2 0), .int .u64 (pl b.2.2 1), .int .u64 (pl b.2.2 2), .int .u64 (pl b.2.2 3), .int .u64 (pl b.2.2 4), .int .u64 (pl b.2.2 5), .int .u64 (pl b.2.2 6), .int .u64 (pl b.2.2 7)]] w fun e w' => e = .returned (.tuple #[.bool (decide (indErr blank l a b = 0) && apartB l a b), .int .i64 (indErr blank l a b)]) ∧ Below w.heap.size w w' := by
 unfold indErr
 by_cases h0 : chkAc blank l a = 0
 ·rw [if_pos h0]
  by_cases h1 : chkAc blank l b = 0
  ·rw [h1]; simpa using Indep_ok blank v l a b w H h0 h1
  ·have h36 := fun w' (hw : Below w.heap.size w w') => CheckAction_spec blank v l a w' (H.mono hw)
   rw [h0] at h36
   simpa [h1] using Indep_err2 blank v a b w _ (by rw [beq_eq_false_iff_ne]; exact h1) h36 (fun w' hw => CheckAction_spec blank v l b w' (H.mono hw))
 ·rw [if_neg h0]
  simpa [h0] using Indep_err1 blank v a b w _ (by rw [beq_eq_false_iff_ne]; exact h0) (fun w' hw => CheckAction_spec blank v l a w' (H.mono hw))
set_option maxHeartbeats 1000000 in
theorem refIndep_err1 (blank : Sol) (v : Value) (a b : Ac) (w : World) (R : Int) (hne : (R == 0) = false)
  (h : ∀ w', Below w.heap.size w w' → Calls Tryz.prog 37 #[.agg #[.int .u64 (pl blank 0), .int .u64 (pl blank 1), .int .u64 (pl blank 2), .int .u64 (pl blank 3), .int .u64 (pl blank 4), .int .u64 (pl blank 5), .int .u64 (pl blank 6), .int .u64 (pl blank 7), v], .agg #[.int .u8 a.1, .int .i64 a.2.1, .int .u64 (pl a.2.2 0), .int .u64 (pl a.2.2 1), .int .u64 (pl a.2.2 2), .int .u64 (pl a.2.2 3), .int .u64 (pl a.2.2 4), .int .u64 (pl a.2.2 5), .int .u64 (pl a.2.2 6), .int .u64 (pl a.2.2 7)]] w' fun e w'' => e = .returned (.int .i64 R) ∧ Below w'.heap.size w' w'') :
  Calls Tryz.prog 33 #[.agg #[.int .u64 (pl blank 0), .int .u64 (pl blank 1), .int .u64 (pl blank 2), .int .u64 (pl blank 3), .int .u64 (pl blank 4), .int .u64 (pl blank 5), .int .u64 (pl blank 6), .int .u64 (pl blank 7), v], .agg #[.int .u8 a.1, .int .i64 a.2.1, .int .u64 (pl a.2.2 0), .int .u64 (pl a.2.2 1), .int .u64 (pl a.2.2 2), .int .u64 (pl a.2.2 3), .int .u64 (pl a.2.2 4), .int .u64 (pl a.2.2 5), .int .u64 (pl a.2.2 6), .int .u64 (pl a.2.2 7)], .agg #[.int .u8 b.1, .int .i64 b.2.1, .int .u64 (pl b.2.2 0), .int .u64 (pl b.2.2 1), .int .u64 (pl b.2.2 2), .int .u64 (pl b.2.2 3), .int .u64 (pl b.2.2 4), .int .u64 (pl b.2.2 5), .int .u64 (pl b.2.2 6), .int .u64 (pl b.2.2 7)]] w fun e w' => e = .returned (.tuple #[.bool false, .int .i64 R]) ∧ Below w.heap.size w w' := by
 have H := Lib.hid h; clear h
 have hne' : (R != 0) = true := by simp [bne, hne]
 go_enter Tryz.func33, Tryz.ntmps33
 go_wp2_with fail
 refine (H.out _ bel_by).mono ?_
 rintro e w1 ⟨rfl, hb⟩
 go_wp2_with fail
 go_ret2
 exact ⟨rfl, bel_by⟩
set_option maxHeartbeats 1000000 in
theorem refIndep_two (blank : Sol) (v : Value) (a b : Ac) (w : World) (R : Int) (r : Bool) (T : Value) (hT : T = .tuple #[.bool (decide (R = 0) && r), .int .i64 R])
  (h : ∀ w', Below w.heap.size w w' → Calls Tryz.prog 37 #[.agg #[.int .u64 (pl blank 0), .int .u64 (pl blank 1), .int .u64 (pl blank 2), .int .u64 (pl blank 3), .int .u64 (pl blank 4), .int .u64 (pl blank 5), .int .u64 (pl blank 6), .int .u64 (pl blank 7), v], .agg #[.int .u8 a.1, .int .i64 a.2.1, .int .u64 (pl a.2.2 0), .int .u64 (pl a.2.2 1), .int .u64 (pl a.2.2 2), .int .u64 (pl a.2.2 3), .int .u64 (pl a.2.2 4), .int .u64 (pl a.2.2 5), .int .u64 (pl a.2.2 6), .int .u64 (pl a.2.2 7)]] w' fun e w'' => e = .returned (.int .i64 0) ∧ Below w'.heap.size w' w'')
  (h1 : ∀ w', Below w.heap.size w w' → Calls Tryz.prog 37 #[.agg #[.int .u64 (pl blank 0), .int .u64 (pl blank 1), .int .u64 (pl blank 2), .int .u64 (pl blank 3), .int .u64 (pl blank 4), .int .u64 (pl blank 5), .int .u64 (pl blank 6), .int .u64 (pl blank 7), v], .agg #[.int .u8 b.1, .int .i64 b.2.1, .int .u64 (pl b.2.2 0), .int .u64 (pl b.2.2 1), .int .u64 (pl b.2.2 2), .int .u64 (pl b.2.2 3), .int .u64 (pl b.2.2 4), .int .u64 (pl b.2.2 5), .int .u64 (pl b.2.2 6), .int .u64 (pl b.2.2 7)]] w' fun e w'' => e = .returned (.int .i64 R) ∧ Below w'.heap.size w' w'')
  (h2 : R = 0 → ∀ w', Below w.heap.size w w' → Calls Tryz.prog 102 #[.agg #[.int .u64 (pl blank 0), .int .u64 (pl blank 1), .int .u64 (pl blank 2), .int .u64 (pl blank 3), .int .u64 (pl blank 4), .int .u64 (pl blank 5), .int .u64 (pl blank 6), .int .u64 (pl blank 7), v], .agg #[.int .u8 a.1, .int .i64 a.2.1, .int .u64 (pl a.2.2 0), .int .u64 (pl a.2.2 1), .int .u64 (pl a.2.2 2), .int .u64 (pl a.2.2 3), .int .u64 (pl a.2.2 4), .int .u64 (pl a.2.2 5), .int .u64 (pl a.2.2 6), .int .u64 (pl a.2.2 7)], .agg #[.int .u8 b.1, .int .i64 b.2.1, .int .u64 (pl b.2.2 0), .int .u64 (pl b.2.2 1), .int .u64 (pl b.2.2 2), .int .u64 (pl b.2.2 3), .int .u64 (pl b.2.2 4), .int .u64 (pl b.2.2 5), .int .u64 (pl b.2.2 6), .int .u64 (pl b.2.2 7)]] w' fun e w'' => e = .returned (.bool r) ∧ Below w'.heap.size w' w'') :
  Calls Tryz.prog 33 #[.agg #[.int .u64 (pl blank 0), .int .u64 (pl blank 1), .int .u64 (pl blank 2), .int .u64 (pl blank 3), .int .u64 (pl blank 4), .int .u64 (pl blank 5), .int .u64 (pl blank 6), .int .u64 (pl blank 7), v], .agg #[.int .u8 a.1, .int .i64 a.2.1, .int .u64 (pl a.2.2 0), .int .u64 (pl a.2.2 1), .int .u64 (pl a.2.2 2), .int .u64 (pl a.2.2 3), .int .u64 (pl a.2.2 4), .int .u64 (pl a.2.2 5), .int .u64 (pl a.2.2 6), .int .u64 (pl a.2.2 7)], .agg #[.int .u8 b.1, .int .i64 b.2.1, .int .u64 (pl b.2.2 0), .int .u64 (pl b.2.2 1), .int .u64 (pl b.2.2 2), .int .u64 (pl b.2.2 3), .int .u64 (pl b.2.2 4), .int .u64 (pl b.2.2 5), .int .u64 (pl b.2.2 6), .int .u64 (pl b.2.2 7)]] w fun e w' => e = .returned T ∧ Below w.heap.size w w' := by
 have H := Lib.hid h; clear h
 have H1 := Lib.hid h1; clear h1
 by_cases h0 : R = 0
 ·subst h0
  have H2 := Lib.hid (h2 rfl); clear h2
  have HT := Lib.hid hT; clear hT
  go_enter Tryz.func33, Tryz.ntmps33
  go_wp2_with fail
  refine (H.out _ bel_by).mono ?_
  rintro e w1 ⟨rfl, hb⟩
  have hc := (bcell hb).1
  have hs := hb.size
  simp only [World.size_alloc] at hs
  have gww10 : w.heap.size < w1.heap.size := by omega
  have gww11 : w.heap.size + 1 < w1.heap.size := by omega
  have gww12 : w.heap.size + 1 + 1 < w1.heap.size := by omega
  clear hs
  go_wp2_with fail
  refine (H1.out _ bel_by).mono ?_
  rintro e w2 ⟨rfl, hb2⟩
  have hc2 := (bcell hb2).1
  go_wp2_with fail
  refine (H2.out _ bel_by).mono ?_
  rintro e w3 ⟨rfl, hb3⟩
  go_wp2_with fail
  go_ret2
  exact ⟨by rw [HT.out]; simp, bel_by⟩
 ·have hne : (R == 0) = false := by rw [beq_eq_false_iff_ne]; exact h0
  have hne' : (R != 0) = true := by simp [bne, hne]
  have HT : Hid (T = .tuple #[.bool false, .int .i64 R]) := by rw [hT]; simp [h0, Hid]
  clear hT h2 h0
  go_enter Tryz.func33, Tryz.ntmps33
  go_wp2_with fail
  refine (H.out _ bel_by).mono ?_
  rintro e w1 ⟨rfl, hb⟩
  have hc := (bcell hb).1
  have hs := hb.size
  simp only [World.size_alloc] at hs
  have gww10 : w.heap.size < w1.heap.size := by omega
  have gww11 : w.heap.size + 1 < w1.heap.size := by omega
  have gww12 : w.heap.size + 1 + 1 < w1.heap.size := by omega
  clear hs
  go_wp2_with fail
  refine (H1.out _ bel_by).mono ?_
  rintro e w2 ⟨rfl, hb2⟩
  go_wp2_with fail
  go_ret2
  exact ⟨by rw [HT.out]; rfl, bel_by⟩
theorem refIndependent_spec (blank : Sol) (v : Value) (l : List Sol) (a b : Ac) (w : World) (H : SlS w v l) :
  Calls Tryz.prog 33 #[.agg #[.int .u64 (pl blank 0), .int .u64 (pl blank 1), .int .u64 (pl blank 2), .int .u64 (pl blank 3), .int .u64 (pl blank 4), .int .u64 (pl blank 5), .int .u64 (pl blank 6), .int .u64 (pl blank 7), v], .agg #[.int .u8 a.1, .int .i64 a.2.1, .int .u64 (pl a.2.2 0), .int .u64 (pl a.2.2 1), .int .u64 (pl a.2.2 2), .int .u64 (pl a.2.2 3), .int .u64 (pl a.2.2 4), .int .u64 (pl a.2.2 5), .int .u64 (pl a.2.2 6), .int .u64 (pl a.2.2 7)], .agg #[.int .u8 b.1, .int .i64 b.2.1, .int .u64 (pl b.2.2 0), .int .u64 (pl b.2.2 1), .int .u64 (pl b.2.2 2), .int .u64 (pl b.2.2 3), .int .u64 (pl b.2.2 4), .int .u64 (pl b.2.2 5), .int .u64 (pl b.2.2 6), .int .u64 (pl b.2.2 7)]] w fun e w' => e = .returned (.tuple #[.bool (decide (indErr blank l a b = 0) && apartB l a b), .int .i64 (indErr blank l a b)]) ∧ Below w.heap.size w w' := by
 unfold indErr
 by_cases h0 : chkAc blank l a = 0
 ·rw [if_pos h0]
  have h37 := fun w' (hw : Below w.heap.size w w') => refCheckAction_spec blank v l a w' (H.mono hw)
  rw [h0] at h37
  exact refIndep_two blank v a b w _ (apartB l a b) _ rfl h37 (fun w' hw => refCheckAction_spec blank v l b w' (H.mono hw))
   (fun hz w' hw => refApart_spec blank v l a b w' (H.mono hw) (chkAc_ok h0).2 (chkAc_ok hz).2)
 ·rw [if_neg h0]
  simpa [h0] using refIndep_err1 blank v a b w _ (by rw [beq_eq_false_iff_ne]; exact h0) (fun w' hw => refCheckAction_spec blank v l a w' (H.mono hw))
end Go.Proofs.YtccnkebkgegohaaGreatDoor
end
section
namespace Go.Proofs.YtccnkebkgegohaaGreatDoor
open Go.RowKit Go.Rel
set_option maxRecDepth 100000
set_option maxHeartbeats 1000000 in
theorem check_ok (i : Nat) (w : World) : Calls Tryz.prog 143 #[.int .i64 i, .int .i64 0] w fun e w' => e = .returned (.tuple #[]) ∧ w' = w := by
 go_enter Tryz.func143, Tryz.ntmps143
 go_wp2_with fail
 go_end0
 exact ⟨rfl, rfl⟩
set_option maxHeartbeats 1000000 in
theorem check_bad (i : Nat) (R : Int) (hne' : (R != 0) = true) (w : World) : Calls Tryz.prog 143 #[.int .i64 i, .int .i64 R] w fun e w' => e = .panicked [{ v := .iface 172 (.agg #[.int .i64 i, .int .i64 R]), recovered := false }] ∧ w' = w := by
 go_enter Tryz.func143, Tryz.ntmps143
 go_wp2_with fail
 exact ⟨rfl, rfl, rfl⟩
theorem nil20 (W : World) : (binOp .eql 20 .nilIface .nilIface).run Tryz.prog W = .ok (.bool true) W := by kernel_rfl
theorem not_nil20 (u : TypeId) (v : Value) (W : World) : (binOp .eql 20 (.iface u v) .nilIface).run Tryz.prog W = .ok (.bool false) W := by kernel_rfl
theorem assert172 (v : Value) (W : World) : (Instr.typeAssert (.iface 172 v) 20 172 true).run Tryz.prog W = .ok (.tuple #[v, .bool true]) W := by kernel_rfl
set_option maxHeartbeats 1000000 in
theorem catch_idle (p q r : Value) (w : World) :
  CallsD Tryz.prog 142 #[p, q, r] .returning w fun e u' w' => e = .returned (.tuple #[]) ∧ u' = .returning ∧ w' = w := by
 have hn := nil20
 refine callsD_of_wpS Tryz.func142 rfl fun c₀ cs hu => ?_
 simp only [Tryz.ntmps142, List.size_toArray, List.length_cons, List.length_nil, Nat.reduceAdd, Nat.reduceSub, Array.replicate_succ, Array.replicate_zero, List.push_toArray, List.append_toArray, List.nil_append, List.cons_append]
 apply wpS_seq
 apply wpS_region
 simp [wpOpsS, go_sem, recoverD, hu, Exit.thenS]
 refine wpS_of_wp ?_
 go_wp2_with fail
 cases c₀
 simp_all [bodyPostS, results, Tryz.results142]
theorem inv_cons {P : Program} {ops : Array Oper} {R : World → World → Prop} {I : (Nat → Bool) → World → Prop} {w0 : World} {Q : Act → World → Prop} {o : Oper} {rest : List Oper} {φ : Value → World → Prop} {φs : List (Value → World → Prop)} {k : Nat} {a : Act} {F : Nat → World → Prop}
  (h1 : ∀ L w, At ops k L → R w0 w → I L w → factsI F o w → stepI P ops R (I (fun j => j == k || L j)) o a φ w) (h2 : ∀ v, wpInv P ops R I w0 Q rest φs (k + 1) (a.put o.dst v) (fun j w => if j = k then φ v w else F j w)) :
  wpInv P ops R I w0 Q (o :: rest) (φ :: φs) k a F := ⟨h1, h2⟩
theorem inv_nil {P : Program} {ops : Array Oper} {R : World → World → Prop} {I : (Nat → Bool) → World → Prop} {w0 : World} {Q : Act → World → Prop} {φs : List (Value → World → Prop)} {k : Nat} {a : Act} {F : Nat → World → Prop}
  (h : ∀ w, R w0 w → I (fun j => decide (j < k)) w → (∀ j, j < k → F j w) → Q a w) : wpInv P ops R I w0 Q [] φs k a F := h
theorem uponI_value {P : Program} {R : World → World → Prop} {J : World → Prop} {w w' : World} {φ : Value → World → Prop} {v : Value} : uponI P R J w φ (.ok (.value v) w') = (R w w' ∧ J w' ∧ φ v w') := rfl
theorem uponI_skip {P : Program} {R : World → World → Prop} {J : World → Prop} {w w' : World} {φ : Value → World → Prop} : uponI P R J w φ (.ok .skip w') = (R w w' ∧ J w' ∧ φ undef w') := rfl
theorem uponI_enter {P : Program} {R : World → World → Prop} {J : World → Prop} {w w' : World} {φ : Value → World → Prop} {f : FuncId} {args : Array Value} : uponI P R J w φ (.ok (.enter f args) w') = Calls P f args w' (fun e w'' => ∃ v, e = .returned v ∧ R w w'' ∧ J w'' ∧ φ v w'') := rfl
attribute [go_sem] stepI uponI_value uponI_skip uponI_enter
/-- the three results' cells, and which of them are written -/
def St3 (bt ba be N : Nat) (i : Int) (R : Int) (c4 c5 c6 : Bool) (w : World) : Prop :=
 w.cell? ⟨N, 0, none⟩ = some (.int .i64 i) ∧ w.cell? ⟨N, 1, none⟩ = some (.int .i64 R) ∧
 (∃ x, w.cell? ⟨bt, 0, none⟩ = some x ∧ (c4 = true → x = .pointer none)) ∧ (∃ x, w.cell? ⟨ba, 0, none⟩ = some x ∧ (c5 = true → x = .int .i64 i)) ∧ (∃ x, w.cell? ⟨be, 0, none⟩ = some x ∧ (c6 = true → x = .int .i64 R)) ∧
 w.frozen? ⟨bt, 0, none⟩ = false ∧ w.frozen? ⟨ba, 0, none⟩ = false ∧ w.frozen? ⟨be, 0, none⟩ = false
theorem cell_set_other {w : World} {a b : Nat} {o o' : Nat} {v : Value} (h : a ≠ b) : (w.setCell ⟨a, o, none⟩ v).cell? ⟨b, o', none⟩ = w.cell? ⟨b, o', none⟩ :=
 World.cell?_setCell_other _ _ _ _ (fun e => h (congrArg Addr.block e))
theorem cell_set_same {w : World} {a : Addr} {u v : Value} (h : w.cell? a = some u) : (w.setCell a v).cell? a = some v := World.cell?_setCell_same _ _ _ h
theorem St3.set4 {bt ba be N : Nat} {i R : Int} {c4 c5 c6 : Bool} {w : World} (h : St3 bt ba be N i R c4 c5 c6 w) (h1 : bt ≠ N) (h2 : bt ≠ ba) (h3 : bt ≠ be) : St3 bt ba be N i R true c5 c6 (w.setCell ⟨bt, 0, none⟩ (.pointer none)) := by
 obtain ⟨g0, g1, ⟨x, gx, _⟩, ⟨y, gy, hy⟩, ⟨z, gz, hz⟩, f1, f2, f3⟩ := h
 exact ⟨by rw [cell_set_other h1]; exact g0, by rw [cell_set_other h1]; exact g1, ⟨_, cell_set_same gx, fun _ => rfl⟩, ⟨y, by rw [cell_set_other h2]; exact gy, hy⟩, ⟨z, by rw [cell_set_other h3]; exact gz, hz⟩, by simpa using f1, by simpa using f2, by simpa using f3⟩
theorem St3.set5 {bt ba be N : Nat} {i R : Int} {c4 c5 c6 : Bool} {w : World} (h : St3 bt ba be N i R c4 c5 c6 w) (h1 : ba ≠ N) (h2 : ba ≠ bt) (h3 : ba ≠ be) : St3 bt ba be N i R c4 true c6 (w.setCell ⟨ba, 0, none⟩ (.int .i64 i)) := by
 obtain ⟨g0, g1, ⟨x, gx, hx⟩, ⟨y, gy, hy⟩, ⟨z, gz, hz⟩, f1, f2, f3⟩ := h
 exact ⟨by rw [cell_set_other h1]; exact g0, by rw [cell_set_other h1]; exact g1, ⟨x, by rw [cell_set_other h2]; exact gx, hx⟩, ⟨_, cell_set_same gy, fun _ => rfl⟩, ⟨z, by rw [cell_set_other h3]; exact gz, hz⟩, by simpa using f1, by simpa using f2, by simpa using f3⟩
theorem St3.set6 {bt ba be N : Nat} {i R : Int} {c4 c5 c6 : Bool} {w : World} (h : St3 bt ba be N i R c4 c5 c6 w) (h1 : be ≠ N) (h2 : be ≠ bt) (h3 : be ≠ ba) : St3 bt ba be N i R c4 c5 true (w.setCell ⟨be, 0, none⟩ (.int .i64 R)) := by
 obtain ⟨g0, g1, ⟨x, gx, hx⟩, ⟨y, gy, hy⟩, ⟨z, gz, hz⟩, f1, f2, f3⟩ := h
 exact ⟨by rw [cell_set_other h1]; exact g0, by rw [cell_set_other h1]; exact g1, ⟨x, by rw [cell_set_other h2]; exact gx, hx⟩, ⟨y, by rw [cell_set_other h3]; exact gy, hy⟩, ⟨_, cell_set_same gz, fun _ => rfl⟩, by simpa using f1, by simpa using f2, by simpa using f3⟩
set_option maxHeartbeats 1000000 in
theorem catch_halt (bt ba be B : Nat) (i : Nat) (R : Int) (older : List PanicEntry) (w : World) (x0 x1 x2 : Value)
  (ht : w.cell? ⟨bt, 0, none⟩ = some x0) (ha : w.cell? ⟨ba, 0, none⟩ = some x1) (he : w.cell? ⟨be, 0, none⟩ = some x2)
  (ft : w.frozen? ⟨bt, 0, none⟩ = false) (fa : w.frozen? ⟨ba, 0, none⟩ = false) (fe : w.frozen? ⟨be, 0, none⟩ = false)
  (h1 : bt ≠ ba) (h2 : bt ≠ be) (h3 : ba ≠ be) (b1 : B ≤ bt) (b2 : B ≤ ba) (b3 : B ≤ be) (l1 : bt < w.heap.size) (l2 : ba < w.heap.size) (l3 : be < w.heap.size) :
  CallsD Tryz.prog 142 #[.pointer (some ⟨bt, 0, none⟩), .pointer (some ⟨ba, 0, none⟩), .pointer (some ⟨be, 0, none⟩)] (.panicking ({ v := .iface 172 (.agg #[.int .i64 i, .int .i64 R]), recovered := false } :: older)) w fun e u' w' =>
   e = .returned (.tuple #[]) ∧ u' = .panicking ({ v := .iface 172 (.agg #[.int .i64 i, .int .i64 R]), recovered := true } :: older) ∧
    w'.cell? ⟨bt, 0, none⟩ = some (.pointer none) ∧ w'.cell? ⟨ba, 0, none⟩ = some (.int .i64 i) ∧ w'.cell? ⟨be, 0, none⟩ = some (.int .i64 R) ∧ Below B w w' := by
 have hn := not_nil20 172
 have h172 := assert172
 refine callsD_of_wpS Tryz.func142 rfl fun c₀ cs hu => ?_
 simp only [Tryz.ntmps142, List.size_toArray, List.length_cons, List.length_nil, Nat.reduceAdd, Nat.reduceSub, Array.replicate_succ, Array.replicate_zero, List.push_toArray, List.append_toArray, List.nil_append, List.cons_append]
 apply wpS_seq
 apply wpS_region
 simp [wpOpsS, go_sem, recoverD, hu, Exit.thenS]
 refine wpS_of_wp ?_
 go_wp2_with fail
 refine wp_region_inv (Below B) (fun L => St3 bt ba be w.heap.size i R (L 4) (L 5) (L 6)) [Is (.pointer (some ⟨w.heap.size, 0, none⟩)), Is (.int .i64 i), Is (.pointer (some ⟨w.heap.size, 1, none⟩)), Is (.int .i64 R), Is undef, Is undef, Is undef] (by kernel_rfl) (by kernel_rfl) rfl (Below.refl B) (fun _ _ _ => Below.trans) (stable_mem ⟨fun _ _ _ h _ => h, fun _ _ _ h _ => h, fun _ _ _ h _ => h, fun _ _ _ h _ => h, fun _ _ _ h _ => h, fun _ _ _ h _ => h, fun _ _ _ h _ => h, trivial⟩) w (((Below.refl B w).alloc (by omega) _).drew) (by refine ⟨?_, ?_, ⟨x0, ?_, fun h => by cases h⟩, ⟨x1, ?_, fun h => by cases h⟩, ⟨x2, ?_, fun h => by cases h⟩, ?_, ?_, ?_⟩ <;> simp [go_sem, ht, ha, he, ft, fa, fe, l1, l2, l3]) ?_
 refine inv_cons ?_ (fun v0 => ?_)
 ·intro L w1 hat hb hI hF; try simp [factsI, Region.binds, Is] at hF
  go_simp
  exact Below.refl _ _
 refine inv_cons ?_ (fun v1 => ?_)
 ·intro L w1 hat hb hI hF; try simp [factsI, Region.binds, Is] at hF
  have c0 := hI.1
  go_simp
  exact Below.refl _ _
 refine inv_cons ?_ (fun v2 => ?_)
 ·intro L w1 hat hb hI hF; try simp [factsI, Region.binds, Is] at hF
  go_simp
  exact Below.refl _ _
 refine inv_cons ?_ (fun v3 => ?_)
 ·intro L w1 hat hb hI hF; try simp [factsI, Region.binds, Is] at hF
  have c0 := hI.2.1
  go_simp
  exact Below.refl _ _
 refine inv_cons ?_ (fun v4 => ?_)
 ·intro L w1 hat hb hI hF; try simp [factsI, Region.binds, Is] at hF
  have hs := hI.set4 (by omega) h1 h2
  have f1 := hI.2.2.2.2.2.1
  refine Exists.elim hI.2.2.1 (fun x hx => ?_)
  have c0 := hx.1
  clear hx
  have HS := Lib.hid hs
  clear hs hI
  go_simp
  exact ⟨(Below.refl _ _).setCell b1 _, HS.out⟩
 refine inv_cons ?_ (fun v5 => ?_)
 ·intro L w1 hat hb hI hF; try simp [factsI, Region.binds, Is] at hF
  have hs := hI.set5 (by omega) (Ne.symm h1) h3
  have f1 := hI.2.2.2.2.2.2.1
  refine Exists.elim hI.2.2.2.1 (fun x hx => ?_)
  have c0 := hx.1
  clear hx
  have HS := Lib.hid hs
  clear hs hI
  go_simp
  exact ⟨(Below.refl _ _).setCell b2 _, HS.out⟩
 refine inv_cons ?_ (fun v6 => ?_)
 ·intro L w1 hat hb hI hF; try simp [factsI, Region.binds, Is] at hF
  have hs := hI.set6 (by omega) (Ne.symm h2) (Ne.symm h3)
  have f1 := hI.2.2.2.2.2.2.2
  refine Exists.elim hI.2.2.2.2.1 (fun x hx => ?_)
  have c0 := hx.1
  clear hx
  have HS := Lib.hid hs
  clear hs hI
  go_simp
  exact ⟨(Below.refl _ _).setCell b3 _, HS.out⟩
 refine inv_nil ?_
 intro w1 hb hI hF
 simp [Is, Nat.forall_lt_succ_right] at hF
 simp only [Act.put, List.setIfInBounds_toArray, List.set_cons_succ, List.set_cons_zero, hF]
 clear hF
 obtain ⟨_, _, ⟨y0, g0, e0⟩, ⟨y1, g1, e1⟩, ⟨y2, g2, e2⟩, _, _, _⟩ := hI
 obtain rfl := e0 rfl
 obtain rfl := e1 rfl
 obtain rfl := e2 rfl
 have HG := Lib.hid (And.intro g0 (And.intro g1 g2)); clear g0 g1 g2 e0 e1 e2
 have HB := Lib.hid hb; clear hb
 go_wp2_with fail
 simp [bodyPostS, results, Tryz.results142, HG.out.1, HG.out.2.1, HG.out.2.2, HB.out]
end Go.Proofs.YtccnkebkgegohaaGreatDoor
end
section
namespace Go.Proofs.YtccnkebkgegohaaGreatDoor
open Go.RowKit Go.Rel
set_option maxRecDepth 100000
/-- a stand: the wood, the pieces on -/
abbrev Stn := Sol × Int
def refM (d : Deed) (s : Stn) : Int :=
 if d.1 = 1 then (if d.2.2 &&& s.1 == d.2.2 then 0 else 40)
 else if d.1 = 2 then (if (bits .and .u8 s.2 d.2.1 != 0) = true then 42 else if meetsB d.2.2 s.1 then 41 else 0)
 else (if (bits .and .u8 s.2 d.2.1 == 0) = true then 42 else if d.2.2 &&& s.1 == d.2.2 then 0 else 40)
def doneM (d : Deed) (s : Stn) : Stn :=
 if d.1 = 1 then (s.1 &&& ~~~d.2.2, s.2)
 else if d.1 = 2 then (s.1 ||| d.2.2, bits .or .u8 s.2 d.2.1)
 else (s.1 &&& ~~~d.2.2, bits .andNot .u8 s.2 d.2.1)
set_option maxHeartbeats 1000000 in
theorem refusedCut (c wd : Sol) (on : Int) (w : World) (R : Int) (hR : R = if c &&& wd == c then 0 else 40) :
  Calls Tryz.prog 272 #[.agg #[.int .u64 (pl c 0), .int .u64 (pl c 1), .int .u64 (pl c 2), .int .u64 (pl c 3), .int .u64 (pl c 4), .int .u64 (pl c 5), .int .u64 (pl c 6), .int .u64 (pl c 7)], .agg #[.int .u64 (pl wd 0), .int .u64 (pl wd 1), .int .u64 (pl wd 2), .int .u64 (pl wd 3), .int .u64 (pl wd 4), .int .u64 (pl wd 5), .int .u64 (pl wd 6), .int .u64 (pl wd 7), .int .u8 on]] w fun e w' => e = .returned (.int .i64 R) ∧ Below w.heap.size w w' := by
 have h1 := In_spec c wd
 generalize (c &&& wd == c) = r at h1 hR
 have H1 := Lib.hid h1; clear h1
 cases r with
 | true =>
  have HR := Lib.hid hR; clear hR
  go_enter Tryz.func272, Tryz.ntmps272
  go_wp2_with fail
  refine (H1.out _).mono ?_
  rintro e w1 ⟨rfl, hb⟩
  go_wp2_with fail
  go_ret
  exact ⟨ret_int (by rw [HR.out]; rfl), bel_by⟩
 | false =>
  have HR := Lib.hid hR; clear hR
  go_enter Tryz.func272, Tryz.ntmps272
  go_wp2_with fail
  refine (H1.out _).mono ?_
  rintro e w1 ⟨rfl, hb⟩
  go_wp2_with fail
  go_ret
  exact ⟨ret_int (by rw [HR.out]; rfl), bel_by⟩
set_option maxHeartbeats 1000000 in
theorem refusedFit (b : Int) (c wd : Sol) (on : Int) (w : World) (R : Int) (hR : R = if (bits .and .u8 on b != 0) = true then 42 else if meetsB c wd then 41 else 0) :
  Calls Tryz.prog 276 #[.agg #[.int .u8 b, .int .u64 (pl c 0), .int .u64 (pl c 1), .int .u64 (pl c 2), .int .u64 (pl c 3), .int .u64 (pl c 4), .int .u64 (pl c 5), .int .u64 (pl c 6), .int .u64 (pl c 7)], .agg #[.int .u64 (pl wd 0), .int .u64 (pl wd 1), .int .u64 (pl wd 2), .int .u64 (pl wd 3), .int .u64 (pl wd 4), .int .u64 (pl wd 5), .int .u64 (pl wd 6), .int .u64 (pl wd 7), .int .u8 on]] w fun e w' => e = .returned (.int .i64 R) ∧ Below w.heap.size w w' := by
 have h1 := meets_spec c wd
 generalize meetsB c wd = r at h1 hR
 have H1 := Lib.hid h1; clear h1
 cases hbit : (bits .and .u8 on b != 0) with
 | true =>
  rw [if_pos hbit] at hR
  have HR := Lib.hid hR; clear hR
  go_enter Tryz.func276, Tryz.ntmps276
  go_wp2_with fail
  go_ret
  exact ⟨ret_int HR.out.symm, bel_by⟩
 | false =>
  rw [if_neg (by rw [hbit]; simp)] at hR
  cases r with
  | true =>
   have HR := Lib.hid hR; clear hR
   go_enter Tryz.func276, Tryz.ntmps276
   go_wp2_with fail
   refine (H1.out _).mono ?_
   rintro e w1 ⟨rfl, hb⟩
   go_wp2_with fail
   go_ret
   exact ⟨ret_int (by rw [HR.out]; rfl), bel_by⟩
  | false =>
   have HR := Lib.hid hR; clear hR
   go_enter Tryz.func276, Tryz.ntmps276
   go_wp2_with fail
   refine (H1.out _).mono ?_
   rintro e w1 ⟨rfl, hb⟩
   go_wp2_with fail
   go_ret
   exact ⟨ret_int (by rw [HR.out]; rfl), bel_by⟩
set_option maxHeartbeats 1000000 in
theorem refusedTake (b : Int) (c wd : Sol) (on : Int) (w : World) (R : Int) (hR : R = if (bits .and .u8 on b == 0) = true then 42 else if c &&& wd == c then 0 else 40) :
  Calls Tryz.prog 277 #[.agg #[.int .u8 b, .int .u64 (pl c 0), .int .u64 (pl c 1), .int .u64 (pl c 2), .int .u64 (pl c 3), .int .u64 (pl c 4), .int .u64 (pl c 5), .int .u64 (pl c 6), .int .u64 (pl c 7)], .agg #[.int .u64 (pl wd 0), .int .u64 (pl wd 1), .int .u64 (pl wd 2), .int .u64 (pl wd 3), .int .u64 (pl wd 4), .int .u64 (pl wd 5), .int .u64 (pl wd 6), .int .u64 (pl wd 7), .int .u8 on]] w fun e w' => e = .returned (.int .i64 R) ∧ Below w.heap.size w w' := by
 have h1 := In_spec c wd
 generalize (c &&& wd == c) = r at h1 hR
 have H1 := Lib.hid h1; clear h1
 cases hbit : (bits .and .u8 on b == 0) with
 | true =>
  rw [if_pos hbit] at hR
  have HR := Lib.hid hR; clear hR
  go_enter Tryz.func277, Tryz.ntmps277
  go_wp2_with fail
  go_ret
  exact ⟨ret_int HR.out.symm, bel_by⟩
 | false =>
  rw [if_neg (by rw [hbit]; simp)] at hR
  cases r with
  | true =>
   have HR := Lib.hid hR; clear hR
   go_enter Tryz.func277, Tryz.ntmps277
   go_wp2_with fail
   refine (H1.out _).mono ?_
   rintro e w1 ⟨rfl, hb⟩
   go_wp2_with fail
   go_ret
   exact ⟨ret_int (by rw [HR.out]; rfl), bel_by⟩
  | false =>
   have HR := Lib.hid hR; clear hR
   go_enter Tryz.func277, Tryz.ntmps277
   go_wp2_with fail
   refine (H1.out _).mono ?_
   rintro e w1 ⟨rfl, hb⟩
   go_wp2_with fail
   go_ret
   exact ⟨ret_int (by rw [HR.out]; rfl), bel_by⟩
end Go.Proofs.YtccnkebkgegohaaGreatDoor
end
