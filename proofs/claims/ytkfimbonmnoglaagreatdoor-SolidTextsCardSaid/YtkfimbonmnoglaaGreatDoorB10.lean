import Derived.Test.YtkfimbonmnoglaaGreatDoorB09
import Derived.Deep.Cut
/-
  Given contracts of functions of the program, and laws for them, one behind the other.
-/
set_option linter.unusedVariables false
set_option linter.unusedSimpArgs false
set_option linter.unusedSectionVars false
section
namespace Go.Proofs.YtkfimbonmnoglaaGreatDoor
open Go.RowKit Go.Rel Go.Draw Go.Solid
set_option maxRecDepth 100000
set_option maxHeartbeats 4000000 in
theorem placed_by (s : Sol) {t : Nat} (ht : t < 24) {x y z er : Int} {Y : Sol} (w : World) (hT : Tab w)
  (hR : ∀ W, Calls Tryz.prog 88 #[.agg #[.int .i64 (t : Int), .int .i64 x, .int .i64 y, .int .i64 z]] W fun e w' => e = .returned (.bool true) ∧ Below W.heap.size W w')
  (hM : ∀ W, Tab W → Calls Tryz.prog 73 #[solV (imgS (turnC t) s), .int .i64 x, .int .i64 y, .int .i64 z] W fun e w' => e = .returned (.tuple #[solV Y, .int .i64 er]) ∧ Below W.heap.size W w') :
  Calls Tryz.prog 24 #[solV s, .agg #[.int .i64 (t : Int), .int .i64 x, .int .i64 y, .int .i64 z]] w fun e w' => e = .returned (.tuple #[solV Y, .int .i64 er]) ∧ Below w.heap.size w w' := by
 obtain ⟨S2, hS2⟩ : ∃ S2, S2 = imgS (turnC t) s := ⟨_, rfl⟩
 have HS : Hid (∀ W, Tab W → Calls Tryz.prog 97 #[solV s, .int .i64 (t : Int)] W fun e w' => e = .returned (solV S2) ∧ Below W.heap.size W w') := Lib.hid (fun W h => by rw [hS2]; exact spun_spec s ht W h)
 rw [← hS2] at hM
 have HR := Lib.hid hR; have HM := Lib.hid hM; have HT := Lib.hid hT
 clear hR hM hT hS2
 go_enter Tryz.func24, Tryz.ntmps24
 go_wp2_with fail
 refine (HR.out _).mono ?_
 rintro e w1 ⟨rfl, hb1⟩
 have hbw : Below w.heap.size w w1 := bel_trans (by repeat (first | with_reducible exact bel_refl _ | with_reducible assumption | with_reducible refine bel_drewN ?_ _ | with_reducible refine bel_drew ?_ | with_reducible refine bel_alloc ?_ _ | with_reducible refine bel_row ?_ ?_ _ | with_reducible refine bel_set ?_ ?_ _ | refine bel_trans ?_ (by with_reducible assumption) | (simp; done) | (simp; omega))) hb1
 have B0 : Blk w1 w.heap.size #[.int .u64 (pl s 0), .int .u64 (pl s 1), .int .u64 (pl s 2), .int .u64 (pl s 3), .int .u64 (pl s 4), .int .u64 (pl s 5), .int .u64 (pl s 6), .int .u64 (pl s 7)] 26 := Blk.grow (by repeat (first | with_reducible assumption | (refine Blk.at _ _ ?_; (simp; done)) | with_reducible refine Blk.alloc ?_ _ | with_reducible refine Blk.drew ?_ | with_reducible refine Blk.rowS ?_ _ | with_reducible refine Blk.rowO ?_ _ (by simp))) hb1
 have B1 : Blk w1 (w.heap.size + 1) #[.int .i64 (t : Int), .int .i64 x, .int .i64 y, .int .i64 z] 23 := Blk.grow (by repeat (first | with_reducible assumption | (refine Blk.at _ _ ?_; (simp; done)) | with_reducible refine Blk.alloc ?_ _ | with_reducible refine Blk.drew ?_ | with_reducible refine Blk.rowS ?_ _ | with_reducible refine Blk.rowO ?_ _ (by simp))) hb1
 have B2 : Blk w1 (w.heap.size + 1 + 1) #[.int .u64 0, .int .u64 0, .int .u64 0, .int .u64 0, .int .u64 0, .int .u64 0, .int .u64 0, .int .u64 0] 26 := Blk.grow (by repeat (first | with_reducible assumption | (refine Blk.at _ _ ?_; (simp; done)) | with_reducible refine Blk.alloc ?_ _ | with_reducible refine Blk.drew ?_ | with_reducible refine Blk.rowS ?_ _ | with_reducible refine Blk.rowO ?_ _ (by simp))) hb1
 have c0 := B0.cell; have l0 := B0.lt; have c1 := B1.cell; have l1 := B1.lt
 have HB := Lib.hid (And.intro B2 (And.intro hbw (HT.out.grow hbw)))
 clear B0 B1 B2 hb1 hbw
 go_wp2_with fail
 refine wp_region_grow 13 [Is (solV s), Is (.pointer (some ⟨w.heap.size + 1, 0, none⟩)), Is (.int .i64 (t : Int)), Is (solV S2), Is (.pointer (some ⟨w.heap.size + 1, 1, none⟩)), Is (.int .i64 x), Is (.pointer (some ⟨w.heap.size + 1, 2, none⟩)), Is (.int .i64 y), Is (.pointer (some ⟨w.heap.size + 1, 3, none⟩)), Is (.int .i64 z), Is (.tuple #[solV Y, .int .i64 er]), Is (solV Y), Is (.int .i64 er)] (by kernel_rfl) (by kernel_rfl) rfl ⟨fun _ _ _ h _ => h, fun _ _ _ h _ => h, fun _ _ _ h _ => h, fun _ _ _ h _ => h, fun _ _ _ h _ => h, fun _ _ _ h _ => h, fun _ _ _ h _ => h, fun _ _ _ h _ => h, fun _ _ _ h _ => h, fun _ _ _ h _ => h, fun _ _ _ h _ => h, fun _ _ _ h _ => h, fun _ _ _ h _ => h, trivial⟩ ?_
 simp only [List.take_succ_cons, List.take_zero, List.drop_succ_cons, List.drop_zero]
 iterate 3 (refine rel_cons ?_ (fun _ => ?_); · intro w1 hb hF; have hc := (Grows.cells hb).1; have hf := (Grows.cells hb).2; (try simp [facts, Is] at hF); go_simp; exact Grows.refl _)
 refine rel_cons ?_ (fun v3 => ?_)
 ·intro w1 hb hF; have hc := (Grows.cells hb).1; have hf := (Grows.cells hb).2; try simp [facts, Is] at hF
  have hT2 := HB.out.2.2.grow (show Below _ _ _ from hb)
  go_simp
  refine (HS.out _ hT2).mono ?_
  rintro e w3 ⟨rfl, hb3⟩
  exact ⟨rfl, hb3⟩
 iterate 6 (refine rel_cons ?_ (fun _ => ?_); · intro w1 hb hF; have hc := (Grows.cells hb).1; have hf := (Grows.cells hb).2; (try simp [facts, Is] at hF); go_simp; exact Grows.refl _)
 refine rel_cons ?_ (fun v10 => ?_)
 ·intro w1 hb hF; have hc := (Grows.cells hb).1; have hf := (Grows.cells hb).2; try simp [facts, Is] at hF
  have hT2 := HB.out.2.2.grow (show Below _ _ _ from hb)
  go_simp
  refine (HM.out _ hT2).mono ?_
  rintro e w3 ⟨rfl, hb3⟩
  exact ⟨rfl, hb3⟩
 iterate 2 (refine rel_cons ?_ (fun _ => ?_); · intro w1 hb hF; have hc := (Grows.cells hb).1; have hf := (Grows.cells hb).2; (try simp [facts, Is] at hF); go_simp; exact Grows.refl _)
 refine rel_nil ?_
 intro w1 hb hF
 simp [Is, Nat.forall_lt_succ_right] at hF
 simp only [Act.put, List.setIfInBounds_toArray, List.set_cons_succ, List.set_cons_zero, hF]
 clear hF
 have hb0 : Below _ _ w1 := hb
 have B2 := HB.out.1.grow hb0
 have hbw := bel_trans HB.out.2.1 hb0
 have r2 := B2.row; have l2 := B2.lt
 have cF := (B2.rowS #[.int .u64 (pl Y 0), .int .u64 (pl Y 1), .int .u64 (pl Y 2), .int .u64 (pl Y 3), .int .u64 (pl Y 4), .int .u64 (pl Y 5), .int .u64 (pl Y 6), .int .u64 (pl Y 7)]).cell
 have hb5 := bel_row hbw (g := w.heap.size + 1 + 1) (by omega) #[.int .u64 (pl Y 0), .int .u64 (pl Y 1), .int .u64 (pl Y 2), .int .u64 (pl Y 3), .int .u64 (pl Y 4), .int .u64 (pl Y 5), .int .u64 (pl Y 6), .int .u64 (pl Y 7)]
 clear hb hb0 c0 c1
 rw [← B2.rw]
 go_wp2_with fail
 exact bodyPost_ret (v := .tuple #[solV Y, .int .i64 er]) (by simp [results, Tryz.results24, go_sem, cF]) rfl ⟨rfl, hb5⟩
end Go.Proofs.YtkfimbonmnoglaaGreatDoor
end
