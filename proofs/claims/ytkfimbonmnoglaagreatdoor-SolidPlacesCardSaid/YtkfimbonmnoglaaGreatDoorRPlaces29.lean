import Derived.Test.YtkfimbonmnoglaaGreatDoorRPlaces28
import Derived.Deep.Cut
/-
  Given contracts of functions of the program, and laws for them, one behind the other.
-/
set_option linter.unusedVariables false
set_option linter.unusedSimpArgs false
set_option linter.unusedSectionVars false
section
namespace Go.Proofs.YtkfimbonmnoglaaGreatDoor
open Go.RowKit Go.Rel Go.Draw Go.Solid
set_option maxRecDepth 100000
set_option maxHeartbeats 4000000 in
theorem inGrid_spec (c : Cl) (w : World) : Calls Tryz.prog 126 #[clV c] w fun e w' => e = .returned (.bool (inG c)) ∧ Below w.heap.size w w' := by
 obtain ⟨x, y, z⟩ := c
 obtain ⟨R, hR⟩ : ∃ R, R = inG (x, y, z) := ⟨_, rfl⟩
 rw [← hR]
 have hx : inG (x, y, z) = ((decide (0 ≤ x) && decide (x ≤ 7)) && (decide (0 ≤ y) && decide (y ≤ 7)) && (decide (0 ≤ z) && decide (z ≤ 7))) := rfl
 rw [hx] at hR
 clear hx
 have HR := Lib.hid hR
 clear hR
 go_enter Tryz.func126, Tryz.ntmps126
 go_wp2_with fail
 all_goals (go_ret; exact ⟨ret_bool (by rw [HR.out]; first | (simp [*]; done) | (simp [*]; omega)), (by repeat (first | with_reducible exact bel_refl _ | with_reducible assumption | with_reducible refine bel_drewN ?_ _ | with_reducible refine bel_drew ?_ | with_reducible refine bel_alloc ?_ _ | with_reducible refine bel_row ?_ ?_ _ | with_reducible refine bel_set ?_ ?_ _ | refine bel_trans ?_ (by with_reducible assumption) | (simp; done) | (simp; omega)))⟩)
theorem shlN {X Y : Nat} (h : 8 * Y + X < 64) : IntKind.u64.wrap (8 * (Y : Int) + X) = ((8 * Y + X : Nat) : Int) := by
 unfold IntKind.wrap; simp [IntKind.signed, IntKind.bits]; omega
set_option maxHeartbeats 4000000 in
theorem refHas_spec (s : Sol) (c : Cl) (w : World) : Calls Tryz.prog 80 #[solV s, clV c] w fun e w' => e = .returned (.bool (hasS s c)) ∧ Below w.heap.size w w' := by
 have HI := Lib.hid (fun W => inGrid_spec c W)
 have hbw : Below w.heap.size w ((w.alloc (.cells #[.int .u64 (pl s 0), .int .u64 (pl s 1), .int .u64 (pl s 2), .int .u64 (pl s 3), .int .u64 (pl s 4), .int .u64 (pl s 5), .int .u64 (pl s 6), .int .u64 (pl s 7)] 26)).alloc (.cells #[.int .i64 c.1, .int .i64 c.2.1, .int .i64 c.2.2] 60)) := (by repeat (first | with_reducible exact bel_refl _ | with_reducible assumption | with_reducible refine bel_drewN ?_ _ | with_reducible refine bel_drew ?_ | with_reducible refine bel_alloc ?_ _ | with_reducible refine bel_row ?_ ?_ _ | with_reducible refine bel_set ?_ ?_ _ | refine bel_trans ?_ (by with_reducible assumption) | (simp; done) | (simp; omega)))
 have HW := Lib.hid hbw; clear hbw
 cases hc : inG c with
 | false =>
  have e0 : hasS s c = false := hasS_out hc
  rw [e0]
  rw [hc] at HI
  clear hc e0
  go_enter Tryz.func80, Tryz.ntmps80
  go_wp2_with fail
  refine wp_region_grow 18 [Is (clV c), Is (.bool false), Is (.bool false), Is undef, Is undef, Is undef, Is undef, Is undef, Is undef, Is undef, Is undef, Is undef, Is undef, Is undef, Is undef, Is undef, Is undef, Is (.bool false)] (by kernel_rfl) (by kernel_rfl) rfl ⟨fun _ _ _ h _ => h, fun _ _ _ h _ => h, fun _ _ _ h _ => h, fun _ _ _ h _ => h, fun _ _ _ h _ => h, fun _ _ _ h _ => h, fun _ _ _ h _ => h, fun _ _ _ h _ => h, fun _ _ _ h _ => h, fun _ _ _ h _ => h, fun _ _ _ h _ => h, fun _ _ _ h _ => h, fun _ _ _ h _ => h, fun _ _ _ h _ => h, fun _ _ _ h _ => h, fun _ _ _ h _ => h, fun _ _ _ h _ => h, fun _ _ _ h _ => h, trivial⟩ ?_
  simp only [List.take_succ_cons, List.take_zero, List.drop_succ_cons, List.drop_zero]
  refine rel_cons ?_ (fun v0 => ?_)
  ·intro w1 hb hF; have hc := (Grows.cells hb).1; have hf := (Grows.cells hb).2; try simp [facts, Is] at hF
   go_simp
   exact Grows.refl _
  refine rel_cons ?_ (fun v1 => ?_)
  ·intro w1 hb hF; have hc := (Grows.cells hb).1; have hf := (Grows.cells hb).2; try simp [facts, Is] at hF
   go_simp
   refine (HI.out _).mono ?_
   rintro e w2 ⟨rfl, hb2⟩
   exact ⟨rfl, hb2⟩
  iterate 16 (refine rel_cons ?_ (fun _ => ?_); · intro w1 hb hF; have hc := (Grows.cells hb).1; have hf := (Grows.cells hb).2; (try simp [facts, Is] at hF); go_simp; (try exact Grows.refl _))
  refine rel_nil ?_
  intro w1 hb hF
  simp [Is, Nat.forall_lt_succ_right] at hF
  simp only [Act.put, List.setIfInBounds_toArray, List.set_cons_succ, List.set_cons_zero, hF]
  clear hF
  have hb' := Lib.hid (bel_trans HW.out hb)
  clear hb
  go_wp2_with fail
  go_ret
  exact ⟨rfl, hb'.out⟩
 | true =>
  have hG := inG_iff.1 hc
  have hpl := has_plane (s := s) hc
  obtain ⟨x, y, z⟩ := c
  simp only at hG
  obtain ⟨X, rfl⟩ : ∃ X : Nat, x = X := ⟨x.toNat, by omega⟩
  obtain ⟨Y, rfl⟩ : ∃ X : Nat, y = X := ⟨y.toNat, by omega⟩
  obtain ⟨Z, rfl⟩ : ∃ X : Nat, z = X := ⟨z.toNat, by omega⟩
  have hn : 8 * Y + X < 64 := by omega
  have hZ : (Z : Int) < 8 := by omega
  have hZ8 : Z < 8 := by omega
  have x1 := shlN hn
  have x2 : IntKind.u64.wrap ((2 : Int) ^ (8 * (Y : Int) + (X : Int)).toNat) = uI (1#64 <<< (8 * Y + X)) := by rw [show (8 * (Y : Int) + (X : Int)).toNat = 8 * Y + X by omega]; exact bitP_val hn
  have x3 : IntKind.i64.wrap (8 * (Y : Int)) = 8 * (Y : Int) := IntWalk.i64_in _ ⟨by omega, by omega⟩
  have x4 : IntKind.i64.wrap (8 * (Y : Int) + X) = 8 * (Y : Int) + X := IntWalk.i64_in _ ⟨by omega, by omega⟩
  rw [hc] at HI
  have HPL := Lib.hid hpl
  clear hc hG hpl
  have ea : bits .and .u64 (pl s Z) (uI (1#64 <<< (8 * Y + X))) = uI (plv s Z &&& 1#64 <<< (8 * Y + X)) := by rw [pl_uI]; exact bits_and_u _ _
  obtain ⟨R, hR⟩ : ∃ R, R = hasS s ((X : Int), (Y : Int), (Z : Int)) := ⟨_, rfl⟩
  have en : (uI (plv s Z &&& 1#64 <<< (8 * Y + X)) != 0) = R := by
   rw [bne_u0, hR, ← HPL.out]
   unfold bitP
   rw [show (8 * (Y : Int) + (X : Int)).toNat = 8 * Y + X by omega]; rfl
  rw [← hR]
  clear hR HPL
  go_enter Tryz.func80, Tryz.ntmps80
  go_wp2_with fail
  refine wp_region_grow 18 [Is (.agg #[.int .i64 (X : Int), .int .i64 (Y : Int), .int .i64 (Z : Int)]), Is (.bool true), Is (.bool true), Is (.pointer (some ⟨w.heap.size + 1, 2, none⟩)), Is (.int .i64 (Z : Int)), Is (.pointer (some ⟨w.heap.size, Z, none⟩)), Is (.int .u64 (pl s Z)), Is (.pointer (some ⟨w.heap.size + 1, 1, none⟩)), Is (.int .i64 (Y : Int)), Is (.int .i64 (8 * (Y : Int))), Is (.pointer (some ⟨w.heap.size + 1, 0, none⟩)), Is (.int .i64 (X : Int)), Is (.int .i64 (8 * (Y : Int) + X)), Is (.int .u64 ((8 * Y + X : Nat) : Int)), Is (.int .u64 (uI (1#64 <<< (8 * Y + X)))), Is (.int .u64 (uI (plv s Z &&& 1#64 <<< (8 * Y + X)))), Is (.bool R), Is (.bool R)] (by kernel_rfl) (by kernel_rfl) rfl ⟨fun _ _ _ h _ => h, fun _ _ _ h _ => h, fun _ _ _ h _ => h, fun _ _ _ h _ => h, fun _ _ _ h _ => h, fun _ _ _ h _ => h, fun _ _ _ h _ => h, fun _ _ _ h _ => h, fun _ _ _ h _ => h, fun _ _ _ h _ => h, fun _ _ _ h _ => h, fun _ _ _ h _ => h, fun _ _ _ h _ => h, fun _ _ _ h _ => h, fun _ _ _ h _ => h, fun _ _ _ h _ => h, fun _ _ _ h _ => h, fun _ _ _ h _ => h, trivial⟩ ?_
  simp only [List.take_succ_cons, List.take_zero, List.drop_succ_cons, List.drop_zero]
  refine rel_cons ?_ (fun v0 => ?_)
  ·intro w1 hb hF; have hc := (Grows.cells hb).1; have hf := (Grows.cells hb).2; try simp [facts, Is] at hF
   go_simp
   exact Grows.refl _
  refine rel_cons ?_ (fun v1 => ?_)
  ·intro w1 hb hF; have hc := (Grows.cells hb).1; have hf := (Grows.cells hb).2; try simp [facts, Is] at hF
   go_simp
   refine (HI.out _).mono ?_
   rintro e w2 ⟨rfl, hb2⟩
   exact ⟨rfl, hb2⟩
  iterate 4 (refine rel_cons ?_ (fun _ => ?_); · intro w1 hb hF; have hc := (Grows.cells hb).1; have hf := (Grows.cells hb).2; (try simp [facts, Is] at hF); go_simp; exact Grows.refl _)
  refine rel_cons ?_ (fun v6 => ?_)
  ·intro w1 hb hF; have hc := (Grows.cells hb).1; have hf := (Grows.cells hb).2; try simp [facts, Is] at hF
   have hz := hZ8
   go_simp
   exact ⟨Grows.refl _, getS s hz _⟩
  iterate 11 (refine rel_cons ?_ (fun _ => ?_); · intro w1 hb hF; have hc := (Grows.cells hb).1; have hf := (Grows.cells hb).2; (try simp [facts, Is] at hF); go_simp; exact Grows.refl _)
  refine rel_nil ?_
  intro w1 hb hF
  simp [Is, Nat.forall_lt_succ_right] at hF
  simp only [Act.put, List.setIfInBounds_toArray, List.set_cons_succ, List.set_cons_zero, hF]
  clear hF
  have hb0 : Below _ _ w1 := hb
  have hb1 := Lib.hid (bel_trans HW.out hb0)
  clear hb hb0
  go_wp2_with fail
  go_ret
  exact ⟨rfl, hb1.out⟩
end Go.Proofs.YtkfimbonmnoglaaGreatDoor
end
section
namespace Go.Proofs.YtkfimbonmnoglaaGreatDoor
open Go.RowKit Go.Rel Go.Draw Go.Solid
set_option maxRecDepth 100000
def withS (s : Sol) (c : Cl) : Sol := s ||| Go.Solid.one (bitN c)
set_option maxHeartbeats 4000000 in
theorem refWith_spec (s : Sol) (c : Cl) (hc : inG c = true) (w : World) : Calls Tryz.prog 127 #[solV s, clV c] w fun e w' => e = .returned (solV (withS s c)) ∧ Below w.heap.size w w' := by
 have hG := inG_iff.1 hc
 obtain ⟨x, y, z⟩ := c
 simp only at hG
 obtain ⟨X, rfl⟩ : ∃ X : Nat, x = X := ⟨x.toNat, by omega⟩
 obtain ⟨Y, rfl⟩ : ∃ X : Nat, y = X := ⟨y.toNat, by omega⟩
 obtain ⟨Z, rfl⟩ : ∃ X : Nat, z = X := ⟨z.toNat, by omega⟩
 have hn : 8 * Y + X < 64 := by omega
 have hZ : (Z : Int) < 8 := by omega
 have hZ8 : Z < 8 := by omega
 have x1 := shlN hn
 have x2 : IntKind.u64.wrap ((2 : Int) ^ (8 * (Y : Int) + (X : Int)).toNat) = uI (1#64 <<< (8 * Y + X)) := by rw [show (8 * (Y : Int) + (X : Int)).toNat = 8 * Y + X by omega]; exact bitP_val hn
 have x3 : IntKind.i64.wrap (8 * (Y : Int)) = 8 * (Y : Int) := IntWalk.i64_in _ ⟨by omega, by omega⟩
 have x4 : IntKind.i64.wrap (8 * (Y : Int) + X) = 8 * (Y : Int) + X := IntWalk.i64_in _ ⟨by omega, by omega⟩
 have eb : uI (1#64 <<< (8 * Y + X)) = uI (bitP ((X : Int), (Y : Int), (Z : Int))) := by
  unfold bitP
  rw [show (8 * (Y : Int) + (X : Int)).toNat = 8 * Y + X by omega]
 have eo := or_cell s hc (Z := Z) rfl
 rw [← eb] at eo
 have hcs := cell_set s hc (Z := Z) rfl
 obtain ⟨K, hK⟩ : ∃ K, K = withS s ((X : Int), (Y : Int), (Z : Int)) := ⟨_, rfl⟩
 have hK2 : s ||| Go.Solid.one (bitN ((X : Int), (Y : Int), (Z : Int))) = K := by rw [hK]; rfl
 rw [hK2] at eo hcs
 rw [← hK]
 have HCS := Lib.hid hcs
 clear hK hK2 hc hG eb hcs
 go_enter Tryz.func127, Tryz.ntmps127
 go_wp2_with fail
 obtain ⟨W0, hW0⟩ : ∃ W0, W0 = ((w.alloc (.cells #[.int .u64 (pl s 0), .int .u64 (pl s 1), .int .u64 (pl s 2), .int .u64 (pl s 3), .int .u64 (pl s 4), .int .u64 (pl s 5), .int .u64 (pl s 6), .int .u64 (pl s 7)] 26)).alloc (.cells #[.int .i64 (X : Int), .int .i64 (Y : Int), .int .i64 (Z : Int)] 60)).alloc (.cells #[.int .u64 0, .int .u64 0, .int .u64 0, .int .u64 0, .int .u64 0, .int .u64 0, .int .u64 0, .int .u64 0] 26) := ⟨_, rfl⟩
 have b1 : Blk W0 w.heap.size #[.int .u64 (pl s 0), .int .u64 (pl s 1), .int .u64 (pl s 2), .int .u64 (pl s 3), .int .u64 (pl s 4), .int .u64 (pl s 5), .int .u64 (pl s 6), .int .u64 (pl s 7)] 26 := by subst hW0; exact (by repeat (first | with_reducible assumption | (refine Blk.at _ _ ?_; (simp; done)) | with_reducible refine Blk.alloc ?_ _ | with_reducible refine Blk.drew ?_ | with_reducible refine Blk.rowS ?_ _ | with_reducible refine Blk.rowO ?_ _ (by simp)))
 have b2 : Blk W0 (w.heap.size + 1) #[.int .i64 (X : Int), .int .i64 (Y : Int), .int .i64 (Z : Int)] 60 := by subst hW0; exact (by repeat (first | with_reducible assumption | (refine Blk.at _ _ ?_; (simp; done)) | with_reducible refine Blk.alloc ?_ _ | with_reducible refine Blk.drew ?_ | with_reducible refine Blk.rowS ?_ _ | with_reducible refine Blk.rowO ?_ _ (by simp)))
 have b3 : Blk W0 (w.heap.size + 1 + 1) #[.int .u64 0, .int .u64 0, .int .u64 0, .int .u64 0, .int .u64 0, .int .u64 0, .int .u64 0, .int .u64 0] 26 := by subst hW0; exact Blk.at _ _ (by simp)
 have hbel : Below w.heap.size w W0 := by subst hW0; exact (by repeat (first | with_reducible exact bel_refl _ | with_reducible assumption | with_reducible refine bel_drewN ?_ _ | with_reducible refine bel_drew ?_ | with_reducible refine bel_alloc ?_ _ | with_reducible refine bel_row ?_ ?_ _ | with_reducible refine bel_set ?_ ?_ _ | refine bel_trans ?_ (by with_reducible assumption) | (simp; done) | (simp; omega)))
 rw [← hW0]
 clear hW0
 have HB := Lib.hid (And.intro b1 (And.intro b2 (And.intro b3 hbel)))
 have c1 := b1.cell; have l1 := b1.lt; have f1 := b1.free Z
 have c2 := b2.cell; have l2 := b2.lt
 have cz : W0.cell? ⟨w.heap.size, Z, none⟩ = some (.int .u64 (pl s Z)) := by rw [c1]; exact mixA_get (fun i => pl s i) hZ8
 clear b1 b2 b3 hbel c1
 refine Go.Rel.region_still_tail 16 (by kernel_rfl) (by kernel_rfl) ?_
 simp only [List.take_succ_cons, List.take_zero, List.drop_succ_cons, List.drop_zero]
 repeat still_step
 refine wpStill_nil ?_
 go_upto_region 2 with fail
 have hset : Blk (W0.setCell ⟨w.heap.size, Z, none⟩ (.int .u64 (pl K Z))).drew w.heap.size #[.int .u64 (pl K 0), .int .u64 (pl K 1), .int .u64 (pl K 2), .int .u64 (pl K 3), .int .u64 (pl K 4), .int .u64 (pl K 5), .int .u64 (pl K 6), .int .u64 (pl K 7)] 26 := by
  have := (HB.out.1.set Z (.int .u64 (pl K Z))).drew
  have h2 : (#[.int .u64 (pl s 0), .int .u64 (pl s 1), .int .u64 (pl s 2), .int .u64 (pl s 3), .int .u64 (pl s 4), .int .u64 (pl s 5), .int .u64 (pl s 6), .int .u64 (pl s 7)] : Array Value).setIfInBounds Z (.int .u64 (pl K Z)) = #[.int .u64 (pl K 0), .int .u64 (pl K 1), .int .u64 (pl K 2), .int .u64 (pl K 3), .int .u64 (pl K 4), .int .u64 (pl K 5), .int .u64 (pl K 6), .int .u64 (pl K 7)] := HCS.out
  rw [h2] at this
  exact this
 have HG := Lib.hid (gb_drew (gb_set (gb_refl W0 (some w.heap.size)) ⟨w.heap.size, Z, none⟩ rfl (.int .u64 (pl K Z))))
 obtain ⟨W1, hW1⟩ : ∃ x, x = (W0.setCell ⟨w.heap.size, Z, none⟩ (.int .u64 (pl K Z))).drew := ⟨_, rfl⟩
 rw [← hW1] at hset HG ⊢
 have B3 := HB.out.2.2.1.gb HG.out (by simp; omega)
 have cX := hset.cell; have lX := hset.lt
 have hb := gb_bel HB.out.2.2.2 HG.out (Nat.le_refl _)
 have r3 := B3.row; have l3 := B3.lt
 have cF := (B3.rowS #[.int .u64 (pl K 0), .int .u64 (pl K 1), .int .u64 (pl K 2), .int .u64 (pl K 3), .int .u64 (pl K 4), .int .u64 (pl K 5), .int .u64 (pl K 6), .int .u64 (pl K 7)]).cell
 rw [← B3.rw]
 clear B3 hset hW1 HB HG cz c2
 go_wp2_with fail
 exact bodyPost_ret (v := solV K) (by simp [results, Tryz.results127, go_sem, cF]) rfl ⟨rfl, bel_row hb (by omega) _⟩
end Go.Proofs.YtkfimbonmnoglaaGreatDoor
end
section
namespace Go.Proofs.YtkfimbonmnoglaaGreatDoor
open Go.RowKit Go.Rel Go.Draw Go.Solid
set_option maxRecDepth 100000
set_option maxHeartbeats 2000000 in
theorem refLess_spec (a b : Sol) (w : World) : Calls Tryz.prog 86 #[solV a, solV b] w fun e w' => e = .returned (solV (a &&& ~~~b)) ∧ Below w.heap.size w w' := by
 go_enter Tryz.func86, Tryz.ntmps86
 go_wp2_with fail
 obtain ⟨W0, hW0⟩ : ∃ W0, W0 = ((w.alloc (.cells #[.int .u64 (pl a 0), .int .u64 (pl a 1), .int .u64 (pl a 2), .int .u64 (pl a 3), .int .u64 (pl a 4), .int .u64 (pl a 5), .int .u64 (pl a 6), .int .u64 (pl a 7)] 26)).alloc (.cells #[.int .u64 (pl b 0), .int .u64 (pl b 1), .int .u64 (pl b 2), .int .u64 (pl b 3), .int .u64 (pl b 4), .int .u64 (pl b 5), .int .u64 (pl b 6), .int .u64 (pl b 7)] 26)).alloc (.cells #[.int .u64 0, .int .u64 0, .int .u64 0, .int .u64 0, .int .u64 0, .int .u64 0, .int .u64 0, .int .u64 0] 26) := ⟨_, rfl⟩
 have b1 : Blk W0 w.heap.size #[.int .u64 (pl a 0), .int .u64 (pl a 1), .int .u64 (pl a 2), .int .u64 (pl a 3), .int .u64 (pl a 4), .int .u64 (pl a 5), .int .u64 (pl a 6), .int .u64 (pl a 7)] 26 := by subst hW0; exact (by repeat (first | with_reducible assumption | (refine Blk.at _ _ ?_; (simp; done)) | with_reducible refine Blk.alloc ?_ _ | with_reducible refine Blk.drew ?_ | with_reducible refine Blk.rowS ?_ _ | with_reducible refine Blk.rowO ?_ _ (by simp)))
 have b2 : Blk W0 (w.heap.size + 1) #[.int .u64 (pl b 0), .int .u64 (pl b 1), .int .u64 (pl b 2), .int .u64 (pl b 3), .int .u64 (pl b 4), .int .u64 (pl b 5), .int .u64 (pl b 6), .int .u64 (pl b 7)] 26 := by subst hW0; exact (by repeat (first | with_reducible assumption | (refine Blk.at _ _ ?_; (simp; done)) | with_reducible refine Blk.alloc ?_ _ | with_reducible refine Blk.drew ?_ | with_reducible refine Blk.rowS ?_ _ | with_reducible refine Blk.rowO ?_ _ (by simp)))
 have b3 : Blk W0 (w.heap.size + 1 + 1) #[.int .u64 0, .int .u64 0, .int .u64 0, .int .u64 0, .int .u64 0, .int .u64 0, .int .u64 0, .int .u64 0] 26 := by subst hW0; exact Blk.at _ _ (by simp)
 have hbel : Below w.heap.size w W0 := by subst hW0; exact (by repeat (first | with_reducible exact bel_refl _ | with_reducible assumption | with_reducible refine bel_drewN ?_ _ | with_reducible refine bel_drew ?_ | with_reducible refine bel_alloc ?_ _ | with_reducible refine bel_row ?_ ?_ _ | with_reducible refine bel_set ?_ ?_ _ | refine bel_trans ?_ (by with_reducible assumption) | (simp; done) | (simp; omega)))
 rw [← hW0]
 clear hW0
 have HB := Lib.hid (And.intro b1 (And.intro b2 (And.intro b3 hbel))); clear b1 b2 b3 hbel
 go_loopw [5] (fun iv wx => ∃ z : Nat, z ≤ 8 ∧ iv = .int .i64 z ∧ Hid (Blk wx w.heap.size (mixZ a (a &&& ~~~b) z) 26 ∧ W0.grownBy wx (some w.heap.size))) (fun iv _ => 8 - (intOf iv).toNat)
 case atStart => exact ⟨0, by omega, rfl, Lib.hid ⟨HB.out.1, gb_refl _ _⟩⟩
 case round =>
  obtain ⟨z, hz, rfl, HM⟩ := hrel
  by_cases hz8 : z < 8
  ·obtain ⟨BX, hgx⟩ := HM.out
   have cz : wr.cell? ⟨w.heap.size, z, none⟩ = some (.int .u64 (pl a z)) := by rw [BX.cell, mixZ_get _ _ hz8]
   have B2 := HB.out.2.1.gb hgx (by simp)
   have sz : wr.cell? ⟨w.heap.size + 1, z, none⟩ = some (.int .u64 (pl b z)) := by rw [B2.cell]; exact mixA_get (fun i => pl b i) hz8
   have fz := BX.free z
   have lx := BX.lt
   have ls := B2.lt
   have eo := bits_andNot_pl a b z hz8
   have BXH := Lib.hid (And.intro BX hgx); clear BX hgx HM B2
   go_wp2_with fail
   refine Go.Rel.region_still_tail 9 (by kernel_rfl) (by kernel_rfl) ?_
   simp only [List.take_succ_cons, List.take_zero, List.drop_succ_cons, List.drop_zero]
   repeat still_step
   refine wpStill_nil ?_
   go_wp2_with fail
   go_roundw
   case rel =>
    refine ⟨z + 1, by omega, by go_num, Lib.hid ⟨?_, gb_set (gb_drew BXH.out.2) _ rfl _⟩⟩
    rw [← mixZ_set _ _ hz8]
    exact (BXH.out.1.drew).set z _
   case measure => simp [intOf]; omega
  ·obtain rfl : z = 8 := by omega
   have BX := HM.out.1
   rw [mixZ_end] at BX
   have cX := BX.cell
   have lX := BX.lt
   have B3 := HB.out.2.2.1.gb HM.out.2 (by simp; omega)
   have r3 := B3.row
   have hb := gb_bel HB.out.2.2.2 HM.out.2 (Nat.le_refl _)
   clear HM HB BX
   have cF := (B3.rowS #[.int .u64 (pl (a &&& ~~~b) 0), .int .u64 (pl (a &&& ~~~b) 1), .int .u64 (pl (a &&& ~~~b) 2), .int .u64 (pl (a &&& ~~~b) 3), .int .u64 (pl (a &&& ~~~b) 4), .int .u64 (pl (a &&& ~~~b) 5), .int .u64 (pl (a &&& ~~~b) 6), .int .u64 (pl (a &&& ~~~b) 7)]).cell
   rw [← B3.rw]
   clear B3
   go_wp2_with fail
   exact bodyPost_ret (v := solV (a &&& ~~~b)) (by simp [results, Tryz.results86, go_sem, cF]) rfl ⟨rfl, bel_row hb (by omega) _⟩
theorem subS_less (a b : Sol) : subS a b = (a &&& ~~~b == 0#512) := by
 rw [Bool.eq_iff_iff, subS_iff, beq_iff_eq]
 constructor
 ·intro h
  refine Classical.byContradiction fun hne => ?_
  obtain ⟨c, hc⟩ := has_some hne
  obtain ⟨h1, h2⟩ := (cut_has (a := a) (b := b)).1 hc
  rw [h c h1] at h2; cases h2
 ·intro h c hc
  cases hb : hasS b c with
  | true => rfl
  | false =>
   have : hasS (cutS a b) c = true := cut_has.2 ⟨hc, hb⟩
   unfold cutS at this
   rw [h] at this
   have h0 : hasS (0#512) c = false := has_zero c
   rw [h0] at this; exact this
set_option maxHeartbeats 2000000 in
theorem refIn_spec (a b : Sol) (w : World) : Calls Tryz.prog 87 #[solV a, solV b] w fun e w' => e = .returned (.bool (subS a b)) ∧ Below w.heap.size w w' := by
 have H := Lib.hid fun W => refLess_spec a b W
 have hs := subS_less a b
 obtain ⟨R, hR⟩ : ∃ R, R = subS a b := ⟨_, rfl⟩
 obtain ⟨D, hD⟩ : ∃ R, R = a &&& ~~~b := ⟨_, rfl⟩
 rw [← hR, ← hD] at hs
 rw [← hD] at H
 rw [← hR]
 have hs2 := hs.symm
 clear hs hR hD
 go_enter Tryz.func87, Tryz.ntmps87
 go_wp2_with fail
 refine (H.out _).mono ?_
 rintro e w2 ⟨rfl, hb⟩
 have hb2 := Lib.hid (bel_trans ((by repeat (first | with_reducible exact bel_refl _ | with_reducible assumption | with_reducible refine bel_drewN ?_ _ | with_reducible refine bel_drew ?_ | with_reducible refine bel_alloc ?_ _ | with_reducible refine bel_row ?_ ?_ _ | with_reducible refine bel_set ?_ ?_ _ | refine bel_trans ?_ (by with_reducible assumption) | (simp; done) | (simp; omega))) : Below w.heap.size w ((w.alloc (.cells #[.int .u64 (pl a 0), .int .u64 (pl a 1), .int .u64 (pl a 2), .int .u64 (pl a 3), .int .u64 (pl a 4), .int .u64 (pl a 5), .int .u64 (pl a 6), .int .u64 (pl a 7)] 26)).alloc (.cells #[.int .u64 (pl b 0), .int .u64 (pl b 1), .int .u64 (pl b 2), .int .u64 (pl b 3), .int .u64 (pl b 4), .int .u64 (pl b 5), .int .u64 (pl b 6), .int .u64 (pl b 7)] 26))) hb)
 clear hb
 go_wp2_with fail
 go_ret
 exact ⟨rfl, hb2.out⟩
end Go.Proofs.YtkfimbonmnoglaaGreatDoor
end
section
namespace Go.Proofs.YtkfimbonmnoglaaGreatDoor
open Go.RowKit Go.Rel Go.Draw Go.Solid
set_option maxRecDepth 100000
attribute [local irreducible] rcH rcY rcX
theorem cells512 (s : Sol) : (cellsS s).length ≤ 512 := cellsS_len s
set_option maxHeartbeats 8000000 in
theorem refCells_spec (s : Sol) (w : World) : Calls Tryz.prog 83 #[solV s] w fun e w' => ∃ u, e = .returned u ∧ OwnCl w' w.heap.size u (cellsS s) ∧ Below w.heap.size w w' := by
 obtain ⟨i0, hi, hz0, hz1, hz2⟩ := info_parts infoCell
 have HI0 := Lib.hid (And.intro hi (And.intro hz0 (And.intro hz1 hz2))); clear hi hz0 hz1 hz2
 have HS := Lib.hid (rc_all s)
 have HL := Lib.hid (cells512 s)
 have HH := Lib.hid fun c W => refHas_spec s c W
 obtain ⟨L, hL⟩ : ∃ L, L = cellsS s := ⟨_, rfl⟩
 rw [← hL] at HS HL ⊢
 clear hL
 go_enter Tryz.func83, Tryz.ntmps83
 go_wp2_with fail
 obtain ⟨W0, hW0⟩ : ∃ W0, W0 = w.alloc (.cells #[.int .u64 (pl s 0), .int .u64 (pl s 1), .int .u64 (pl s 2), .int .u64 (pl s 3), .int .u64 (pl s 4), .int .u64 (pl s 5), .int .u64 (pl s 6), .int .u64 (pl s 7)] 26) := ⟨_, rfl⟩
 have hb0 : Blk W0 w.heap.size #[.int .u64 (pl s 0), .int .u64 (pl s 1), .int .u64 (pl s 2), .int .u64 (pl s 3), .int .u64 (pl s 4), .int .u64 (pl s 5), .int .u64 (pl s 6), .int .u64 (pl s 7)] 26 ∧ Below w.heap.size w W0 := by rw [hW0]; exact ⟨Blk.new _ _ _, bel_alloc (bel_refl w) _⟩
 rw [← hW0]
 clear hW0
 have HB := Lib.hid hb0
 clear hb0
 go_loopw [3, 4] (fun uv zv wx => ∃ (z : Int) (pre : List Cl), 0 ≤ z ∧ zv = .int .i64 z ∧ Hid (pre ++ rcH s z = L ∧ OwnCl wx (w.heap.size + 1) uv pre ∧ Blk wx w.heap.size #[.int .u64 (pl s 0), .int .u64 (pl s 1), .int .u64 (pl s 2), .int .u64 (pl s 3), .int .u64 (pl s 4), .int .u64 (pl s 5), .int .u64 (pl s 6), .int .u64 (pl s 7)] 26 ∧ Below w.heap.size w wx)) (fun _ zv _ => (8 - intOf zv).toNat)
 case atStart => exact ⟨0, [], by omega, rfl, Lib.hid ⟨HS.out, World.ownsRow_nil _ _ _ _, HB.out.1, HB.out.2⟩⟩
 case round =>
  obtain ⟨z, pre, hz, rfl, HZ⟩ := hrel
  by_cases hz1 : z ≤ 7
  ·have HY0 := HZ.out.1
   rw [rcH_step s hz1] at HY0
   have HY1 := Lib.hid (And.intro HY0 HZ.out.2)
   have hz8 : z < 8 := by omega
   clear HY0 HZ
   go_wp2_with fail
   go_loopw [3, 5] (fun uv yv wx => ∃ (y : Int) (pre : List Cl), 0 ≤ y ∧ yv = .int .i64 y ∧ Hid (pre ++ rcY s z y = L ∧ OwnCl wx (w.heap.size + 1) uv pre ∧ Blk wx w.heap.size #[.int .u64 (pl s 0), .int .u64 (pl s 1), .int .u64 (pl s 2), .int .u64 (pl s 3), .int .u64 (pl s 4), .int .u64 (pl s 5), .int .u64 (pl s 6), .int .u64 (pl s 7)] 26 ∧ Below w.heap.size w wx)) (fun _ yv _ => (8 - intOf yv).toNat)
   case atStart => exact ⟨0, pre, by omega, rfl, HY1⟩
   case round =>
    clear HY1
    obtain ⟨y, pre, hy, rfl, HY⟩ := hrel
    by_cases hy1 : y ≤ 7
    ·have HX0 := HY.out.1
     rw [rcY_step s hy1] at HX0
     have HX1 := Lib.hid (And.intro HX0 HY.out.2)
     have hy8 : y < 8 := by omega
     clear HX0 HY
     go_wp2_with fail
     go_loopw [3, 6] (fun uv xv wx => ∃ (x : Int) (pre : List Cl), 0 ≤ x ∧ xv = .int .i64 x ∧ Hid (pre ++ rcX s z y x = L ∧ OwnCl wx (w.heap.size + 1) uv pre ∧ Blk wx w.heap.size #[.int .u64 (pl s 0), .int .u64 (pl s 1), .int .u64 (pl s 2), .int .u64 (pl s 3), .int .u64 (pl s 4), .int .u64 (pl s 5), .int .u64 (pl s 6), .int .u64 (pl s 7)] 26 ∧ Below w.heap.size w wx)) (fun _ xv _ => (8 - intOf xv).toNat)
     case atStart => exact ⟨0, pre, by omega, rfl, HX1⟩
     case round =>
      clear HX1
      obtain ⟨x, pre, hx, rfl, HX⟩ := hrel
      by_cases hx1 : x ≤ 7
      ·have hx8 : x < 8 := by omega
       have hst := rcX_step s (z := z) (y := y) hx1
       have HH1 := Lib.hid fun W => HH.out (x, y, z) W
       obtain ⟨q, hq⟩ : ∃ q, q = hasS s (x, y, z) := ⟨_, rfl⟩
       rw [← hq] at hst HH1
       clear hq
       have HQ := Lib.hid hst
       have hlen : pre.length ≤ 512 := by
        have h1 := HL.out
        rw [← HX.out.1, List.length_append] at h1; omega
       clear hst
       have cs := HX.out.2.2.1.cell; have ls := HX.out.2.2.1.lt
       go_wp2_with fail
       refine (HH1.out _).mono ?_
       rintro e w2 ⟨rfl, hb⟩
       clear cs ls
       have hAB : Below wr.heap.size wr w2 := bel_trans (bel_alloc (bel_refl wr) _) hb
       have c7 := ((Blk.new wr #[.int .i64 x, .int .i64 y, .int .i64 z] 60).grow hb).cell
       have l7 := ((Blk.new wr #[.int .i64 x, .int .i64 y, .int .i64 z] 60).grow hb).lt
       have hE := And.intro (own_gb HX.out.2.1 hAB) (And.intro (HX.out.2.2.1.grow hAB) (bel_trans HX.out.2.2.2 hAB))
       have HX0 := Lib.hid HX.out.1
       have HE := Lib.hid hE
       obtain ⟨wB, hwB⟩ : ∃ W, W = w2 := ⟨_, rfl⟩
       rw [← hwB] at HE c7 l7 ⊢
       have hsz := HE.out.2.2.size
       have lB := HE.out.2.1.lt
       have hlen2 := hlen
       clear hwB hb hAB hE HX
       cases q with
       | false =>
        have HE2 := Lib.hid ((HQ.out.trans (if_neg (by decide))) ▸ HX0.out)
        clear HQ HX0
        go_wp2_with fail
        go_roundw
        case rel => exact ⟨x + 1, pre, by omega, by go_num, Lib.hid ⟨HE2.out, HE.out⟩⟩
        case measure => simp [intOf]; omega
       | true =>
        have HE2 := Lib.hid ((HQ.out.trans (if_pos rfl)) ▸ HX0.out)
        clear HQ HX0
        go_wp2_with (first
         | (at_builtin; refine wpList_append_own _ rfl _ _ 71 rfl (w.heap.size + 1) 60 i0 _ 3 24 Tryz.underlying71 HI0.out.1 HI0.out.2.1 HI0.out.2.2.1 HI0.out.2.2.2 rfl (by decide) _ _ _ rfl (HE.out.1.alloc _) ⟨wB.heap.size, 0, none⟩ 1 1 (clL (x, y, z)) rfl rfl (blk_newsS (Blk.new wB _ 60)) (fun y hy => by simp [clL] at hy; rcases hy with rfl | rfl | rfl <;> rfl) (by unfold maxLen; omega) (by omega) (by simp; omega) ?_; intro v' w3 hown' hgrow3 hnil3))
        go_roundw
        case rel =>
         refine ⟨x + 1, pre ++ [(x, y, z)], by omega, by go_num, Lib.hid ⟨by rw [List.append_assoc]; exact HE2.out, ?_, ?_, ?_⟩⟩
         ·unfold OwnCl
          rw [List.length_append, List.map_append, List.flatten_append]
          simpa using hown'
         ·exact (HE.out.2.1.alloc _).gb hgrow3 (fun e => by have := (HE.out.1.lt _ e.symm).1; omega)
         ·exact HE.out.2.2.trans (((bel_alloc (bel_refl wB) _).mono hsz).grown hgrow3 (by simp; omega) (fun j hj => by have := (HE.out.1.lt j hj).1; omega))
        case measure => simp [intOf]; omega
      ·have HE := HX.out.1
       rw [rcX_end s (by omega)] at HE
       have HE1 := Lib.hid (And.intro HE HX.out.2)
       clear HE HX
       have hx9 : ¬ (x < 8) := by omega
       go_wp2_with fail
       go_roundw
       case rel => exact ⟨y + 1, pre, by omega, by go_num, HE1⟩
       case measure => simp [intOf]; omega
    ·have HE := HY.out.1
     rw [rcY_end s (by omega)] at HE
     have HE1 := Lib.hid (And.intro HE HY.out.2)
     have hy9 : ¬ (y < 8) := by omega
     clear HE HY
     go_wp2_with fail
     go_roundw
     case rel => exact ⟨z + 1, pre, by omega, by go_num, HE1⟩
     case measure => simp [intOf]; omega
  ·have HE := HZ.out.1
   rw [rcH_end s (by omega), List.append_nil] at HE
   have HE1 := Lib.hid (And.intro HE HZ.out.2)
   have hz9 : ¬ (z < 8) := by omega
   clear HE HZ
   go_wp2_with fail
   go_ret
   refine ⟨_, rfl, ?_, HE1.out.2.2.2⟩
   rw [← HE1.out.1]; exact own_weak HE1.out.2.1 (by omega)
end Go.Proofs.YtkfimbonmnoglaaGreatDoor
end
