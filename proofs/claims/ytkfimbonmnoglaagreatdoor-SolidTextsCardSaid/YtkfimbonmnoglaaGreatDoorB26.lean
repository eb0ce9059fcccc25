import Derived.Test.YtkfimbonmnoglaaGreatDoorB15
import Derived.Test.YtkfimbonmnoglaaGreatDoorB23
import Derived.Test.YtkfimbonmnoglaaGreatDoorB25
import Derived.Deep.Cut
/-
  Given contracts of functions of the program, and laws for them, one behind the other.
-/
set_option linter.unusedVariables false
set_option linter.unusedSimpArgs false
set_option linter.unusedSectionVars false
section
namespace Go.Proofs.YtkfimbonmnoglaaGreatDoor
open Go.RowKit Go.Rel Go.Draw Go.Solid
set_option maxRecDepth 100000
attribute [local go_sem] Oper.semAt_some
theorem place_row : (#[.int .u64 (pl (263174#512 : Sol) 0), .int .u64 (pl (263174#512 : Sol) 1), .int .u64 (pl (263174#512 : Sol) 2), .int .u64 (pl (263174#512 : Sol) 3), .int .u64 (pl (263174#512 : Sol) 4), .int .u64 (pl (263174#512 : Sol) 5), .int .u64 (pl (263174#512 : Sol) 6), .int .u64 (pl (263174#512 : Sol) 7)] : Array Value) = #[.int .u64 263174, .int .u64 0, .int .u64 0, .int .u64 0, .int .u64 0, .int .u64 0, .int .u64 0, .int .u64 0] := by kernel_rfl
theorem step_row : (#[.int .u64 (pl stepS 0), .int .u64 (pl stepS 1), .int .u64 (pl stepS 2), .int .u64 (pl stepS 3), .int .u64 (pl stepS 4), .int .u64 (pl stepS 5), .int .u64 (pl stepS 6), .int .u64 (pl stepS 7)] : Array Value) = #[.int .u64 1, .int .u64 512, .int .u64 0, .int .u64 0, .int .u64 0, .int .u64 0, .int .u64 0, .int .u64 0] := by kernel_rfl
theorem hook_V : solV hookS = .agg #[.int .u64 263, .int .u64 0, .int .u64 0, .int .u64 0, .int .u64 0, .int .u64 0, .int .u64 0, .int .u64 0] := congrArg Value.agg hook_row
theorem ring_V : solV ringS = .agg #[.int .u64 460039, .int .u64 0, .int .u64 0, .int .u64 0, .int .u64 0, .int .u64 0, .int .u64 0, .int .u64 0] := congrArg Value.agg ring_row
theorem place_V : solV (263174#512) = .agg #[.int .u64 263174, .int .u64 0, .int .u64 0, .int .u64 0, .int .u64 0, .int .u64 0, .int .u64 0, .int .u64 0] := congrArg Value.agg place_row
theorem step_V : solV stepS = .agg #[.int .u64 1, .int .u64 512, .int .u64 0, .int .u64 0, .int .u64 0, .int .u64 0, .int .u64 0, .int .u64 0] := congrArg Value.agg step_row
abbrev hookT : ByteArray := ⟨#[49, 48, 55]⟩
theorem hook_plane : ∀ k, 1 ≤ k → k < 8 → plN hookS k = 0 := by
 intro k h1 h2
 obtain rfl | rfl | rfl | rfl | rfl | rfl | rfl : k = 1 ∨ k = 2 ∨ k = 3 ∨ k = 4 ∨ k = 5 ∨ k = 6 ∨ k = 7 := by omega
 all_goals decide +kernel
theorem hook_hexV : hexV hookS 0 = .string hookT := by
 have e : plN hookS 0 = 263 := by decide +kernel
 unfold hexV
 rw [e]
 have e2 : (⟨(hexS 263).toArray⟩ : ByteArray) = hookT := by decide +kernel
 rw [e2]
theorem v_tun : tunS ringS = 1 := by
 unfold tunS
 rw [v_parts, v_cavs, v_eul]; rfl
theorem v_fm1 : (fitsMo ringS hookS).2 = true := by
 unfold fitsMo
 rw [if_neg (by decide +kernel)]
 have h := v_fit1
 cases e : fitsL ringS hookS with
 | nil => rw [e] at h; cases h
 | cons a l => rfl
theorem v_fm2 : fitsMo hookS ringS = ((0, (0, 0, 0)), false) := by
 unfold fitsMo
 rw [if_neg (by decide +kernel), v_fit2]; rfl
theorem v_same : (countS hookS == countS (263174#512) && canonS hookS == canonS (263174#512)) = true := by
 rw [v_canon]
 have : countS hookS = countS (263174#512) := by decide +kernel
 rw [this]; simp
theorem new_ints (W : World) (l : List Int) (T : TypeId) (hl : l.length ≤ 1000000) : Sl (W.alloc (.cells (l.map (Value.int .i64)).toArray T)) 1 (.slice (some ⟨W.heap.size, 0, none⟩) l.length l.length) (ints1 l) := by
 have hB := Blk.new W (l.map (Value.int .i64)).toArray T
 have hlen : (ints1 l).length = l.length := List.length_map _
 refine ⟨some ⟨W.heap.size, 0, none⟩, l.length, by rw [hlen], by rw [hlen]; exact Nat.le_refl _, by omega, .inr ⟨W.heap.size, 0, rfl, hB.lt, fun i j u hu => ?_⟩⟩
 rw [hB.cell]
 cases hi : l[i]? with
 | none => simp [hi] at hu
 | some x =>
  have h1 : (ints1 l)[i]? = some [.int .i64 x] := by simp [hi]
  rw [h1] at hu
  have hu2 : [Value.int .i64 x][j]? = some u := hu
  cases j with
  | zero =>
   have : u = .int .i64 x := by simpa using hu2.symm
   subst this
   simp [hi]
  | succ j => simp at hu2
theorem eq_ring (w : World) : (Op.equalIn 10000 26 (.agg #[.int .u64 460039, .int .u64 0, .int .u64 0, .int .u64 0, .int .u64 0, .int .u64 0, .int .u64 0, .int .u64 0]) (.agg #[.int .u64 460039, .int .u64 0, .int .u64 0, .int .u64 0, .int .u64 0, .int .u64 0, .int .u64 0, .int .u64 0])).run Tryz.prog w = .ok true w := (eqArr 26 (by kernel_rfl) 9998 _ _ _ _ _ _ _ _ _ _ _ _ _ _ _ _ w).trans (by simp)
theorem eq_place (w : World) : (Op.equalIn 10000 26 (.agg #[.int .u64 263174, .int .u64 0, .int .u64 0, .int .u64 0, .int .u64 0, .int .u64 0, .int .u64 0, .int .u64 0]) (.agg #[.int .u64 263174, .int .u64 0, .int .u64 0, .int .u64 0, .int .u64 0, .int .u64 0, .int .u64 0, .int .u64 0])).run Tryz.prog w = .ok true w := (eqArr 26 (by kernel_rfl) 9998 _ _ _ _ _ _ _ _ _ _ _ _ _ _ _ _ w).trans (by simp)
set_option maxHeartbeats 16000000 in
theorem carved_spec (w : World) (hT : Tab w) (m : Int) (hm : w.cell? ⟨2, 0, none⟩ = some (.int .i64 m)) : Calls Tryz.prog 25 #[] w fun e w' => e = .returned (.bool true) ∧ Below w.heap.size w w' := by
 have Hh : Hid (∀ W, Below w.heap.size w W → Calls Tryz.prog 98 #[] W fun e w' => e = .returned (.agg #[.int .u64 263, .int .u64 0, .int .u64 0, .int .u64 0, .int .u64 0, .int .u64 0, .int .u64 0, .int .u64 0]) ∧ Below W.heap.size W w') := Lib.hid fun W hb => by
  rw [← hook_V]; exact hook_spec W
 have Hr : Hid (∀ W, Below w.heap.size w W → Calls Tryz.prog 99 #[] W fun e w' => e = .returned (.agg #[.int .u64 460039, .int .u64 0, .int .u64 0, .int .u64 0, .int .u64 0, .int .u64 0, .int .u64 0, .int .u64 0]) ∧ Below W.heap.size W w') := Lib.hid fun W hb => by
  rw [← ring_V]; exact ring_spec W
 have Hpl : Hid (∀ W, Below w.heap.size w W → Calls Tryz.prog 24 #[.agg #[.int .u64 263, .int .u64 0, .int .u64 0, .int .u64 0, .int .u64 0, .int .u64 0, .int .u64 0, .int .u64 0], .agg #[.int .i64 1, .int .i64 (-5), .int .i64 0, .int .i64 0]] W fun e w' => e = .returned (.tuple #[.agg #[.int .u64 263174, .int .u64 0, .int .u64 0, .int .u64 0, .int .u64 0, .int .u64 0, .int .u64 0, .int .u64 0], .int .i64 0]) ∧ Below W.heap.size W w') := Lib.hid fun W hb => by
  have := placed_n hookS 1 (-5, 0, 0) W (hT.grow hb)
  rw [v_placed, hook_V, place_V] at this
  exact this
 have Hth : Hid (∀ W, Below w.heap.size w W → Calls Tryz.prog 20 #[.agg #[.int .i64 1, .int .i64 2, .int .i64 0, .int .i64 0], .agg #[.int .i64 1, .int .i64 0, .int .i64 0, .int .i64 0]] W fun e w' => e = .returned (.tuple #[.agg #[.int .i64 2, .int .i64 0, .int .i64 2, .int .i64 0], .int .i64 0]) ∧ Below W.heap.size W w') := Lib.hid fun W hb => by
  have := then_n (1, (2, 0, 0)) (1, (0, 0, 0)) W
  rw [v_then2] at this
  exact this
 have Hbk : Hid (∀ W, Below w.heap.size w W → Calls Tryz.prog 22 #[.agg #[.int .i64 1, .int .i64 2, .int .i64 0, .int .i64 0]] W fun e w' => e = .returned (.tuple #[.agg #[.int .i64 3, .int .i64 0, .int .i64 2, .int .i64 0], .int .i64 0]) ∧ Below W.heap.size W w') := Lib.hid fun W hb => by
  have := back_n (1, (2, 0, 0)) W
  rw [v_back] at this
  exact this
 have Hf1 : Hid (∀ W, Below w.heap.size w W → Calls Tryz.prog 51 #[.agg #[.int .u64 460039, .int .u64 0, .int .u64 0, .int .u64 0, .int .u64 0, .int .u64 0, .int .u64 0, .int .u64 0], .agg #[.int .u64 263, .int .u64 0, .int .u64 0, .int .u64 0, .int .u64 0, .int .u64 0, .int .u64 0, .int .u64 0]] W fun e w' => (∃ a b c d : Int, e = .returned (.tuple #[.agg #[.int .i64 a, .int .i64 b, .int .i64 c, .int .i64 d], .bool true])) ∧ Below W.heap.size W w') := Lib.hid fun W hb => by
  have := fits_n ringS hookS W (hT.grow hb)
  rw [ring_V, hook_V, v_fm1] at this
  exact this.mono fun e w' he => ⟨⟨_, _, _, _, he.1⟩, he.2⟩
 have Hf2 : Hid (∀ W, Below w.heap.size w W → Calls Tryz.prog 51 #[.agg #[.int .u64 263, .int .u64 0, .int .u64 0, .int .u64 0, .int .u64 0, .int .u64 0, .int .u64 0, .int .u64 0], .agg #[.int .u64 460039, .int .u64 0, .int .u64 0, .int .u64 0, .int .u64 0, .int .u64 0, .int .u64 0, .int .u64 0]] W fun e w' => e = .returned (.tuple #[.agg #[.int .i64 0, .int .i64 0, .int .i64 0, .int .i64 0], .bool false]) ∧ Below W.heap.size W w') := Lib.hid fun W hb => by
  have := fits_n hookS ringS W (hT.grow hb)
  rw [ring_V, hook_V, v_fm2] at this
  exact this
 have Hrd : Hid (∀ W, Below w.heap.size w W → Calls Tryz.prog 48 #[.string ringT] W fun e w' => e = .returned (.tuple #[.agg #[.int .u64 460039, .int .u64 0, .int .u64 0, .int .u64 0, .int .u64 0, .int .u64 0, .int .u64 0, .int .u64 0], .int .i64 0]) ∧ Below W.heap.size W w') := Lib.hid fun W hb => by
  have := read_ring W (hT.grow hb) m ((hb.cell (p := ⟨2, 0, none⟩) (block_lt_of_cell hm)).trans hm)
  rw [ring_V] at this
  exact this
 have Hsy : Hid (∀ W, Below w.heap.size w W → Calls Tryz.prog 31 #[.agg #[.int .u64 460039, .int .u64 0, .int .u64 0, .int .u64 0, .int .u64 0, .int .u64 0, .int .u64 0, .int .u64 0]] W fun e w' => (∃ u, e = .returned u ∧ Sl w' 1 u (ints1 [0, 1, 2, 3, 8, 9, 10, 11])) ∧ Below W.heap.size W w') := Lib.hid fun W hb => by
  have := symmetries_spec ringS W (hT.grow hb)
  rw [ring_V, v_sym] at this
  exact this.mono fun e w' he => by
   obtain ⟨u, h1, h2, h3⟩ := he
   exact ⟨⟨u, h1, OwnI.sl h2⟩, h3⟩
 have Hwr : Hid (∀ W, Below w.heap.size w W → Calls Tryz.prog 47 #[.agg #[.int .u64 263, .int .u64 0, .int .u64 0, .int .u64 0, .int .u64 0, .int .u64 0, .int .u64 0, .int .u64 0]] W fun e w' => e = .returned (.string hookT) ∧ Below W.heap.size W w') := Lib.hid fun W hb => by
  have := solidWrite_one hookS hook_plane W (tab_15 (hT.grow hb))
  rw [hook_hexV, hook_row] at this
  exact this
 have Him : Hid (∀ W, Below w.heap.size w W → Calls Tryz.prog 34 #[.agg #[.int .u64 460039, .int .u64 0, .int .u64 0, .int .u64 0, .int .u64 0, .int .u64 0, .int .u64 0, .int .u64 0]] W fun e w' => (∃ p c, e = .returned (.slice p 3 c)) ∧ Below W.heap.size W w') := Lib.hid fun W hb => by
  have := images_spec ringS W (hT.grow hb)
  rw [ring_V] at this
  exact this.mono fun e w' he => by
   obtain ⟨u, h1, h2, h3⟩ := he
   obtain ⟨p, c, hv, _⟩ := h2
   rw [List.length_map, v_img] at hv
   exact ⟨⟨p, c, by rw [h1, hv]⟩, h3⟩
 have Heu : Hid (∀ W, Below w.heap.size w W → Calls Tryz.prog 41 #[.agg #[.int .u64 460039, .int .u64 0, .int .u64 0, .int .u64 0, .int .u64 0, .int .u64 0, .int .u64 0, .int .u64 0]] W fun e w' => e = .returned (.int .i64 0) ∧ Below W.heap.size W w') := Lib.hid fun W hb => by
  have := euler_spec ringS (hT.grow hb)
  rw [ring_V, v_eul] at this
  exact this
 have Htu : Hid (∀ W, Below w.heap.size w W → Calls Tryz.prog 43 #[.agg #[.int .u64 460039, .int .u64 0, .int .u64 0, .int .u64 0, .int .u64 0, .int .u64 0, .int .u64 0, .int .u64 0]] W fun e w' => e = .returned (.int .i64 1) ∧ Below W.heap.size W w') := Lib.hid fun W hb => by
  have := tunnels_spec ringS W (hT.grow hb)
  rw [ring_V, v_tun] at this
  exact this
 have Hsk : Hid (∀ W, Below w.heap.size w W → Calls Tryz.prog 45 #[.agg #[.int .u64 460039, .int .u64 0, .int .u64 0, .int .u64 0, .int .u64 0, .int .u64 0, .int .u64 0, .int .u64 0]] W fun e w' => e = .returned (.int .i64 32) ∧ Below W.heap.size W w') := Lib.hid fun W hb => by
  have := skin_spec ringS (hT.grow hb)
  rw [ring_V, v_skin] at this
  exact this
 have Hpa : Hid (∀ W, Below w.heap.size w W → Calls Tryz.prog 37 #[.agg #[.int .u64 1, .int .u64 512, .int .u64 0, .int .u64 0, .int .u64 0, .int .u64 0, .int .u64 0, .int .u64 0]] W fun e w' => (∃ p c, e = .returned (.slice p 1 c)) ∧ Below W.heap.size W w') := Lib.hid fun W hb => by
  have := parts_spec stepS W (hT.grow hb)
  rw [step_V] at this
  exact this.mono fun e w' he => by
   obtain ⟨⟨u, h1, h2⟩, h3⟩ := he
   obtain ⟨p, c, hv, _, _⟩ := own_shape' h2
   rw [v_parts2] at hv
   exact ⟨⟨p, c, by rw [h1, hv]⟩, h3⟩
 have Hsm : Hid (∀ W, Below w.heap.size w W → Calls Tryz.prog 28 #[.agg #[.int .u64 263, .int .u64 0, .int .u64 0, .int .u64 0, .int .u64 0, .int .u64 0, .int .u64 0, .int .u64 0], .agg #[.int .u64 263174, .int .u64 0, .int .u64 0, .int .u64 0, .int .u64 0, .int .u64 0, .int .u64 0, .int .u64 0]] W fun e w' => e = .returned (.bool true) ∧ Below W.heap.size W w') := Lib.hid fun W hb => by
  have := same_spec hookS (263174#512) W (hT.grow hb)
  rw [hook_V, place_V, v_same] at this
  exact this
 clear hT hm
 go_enter Tryz.func25, Tryz.ntmps25
 go_wp2_with fail
 refine (Hh.out _ (show Below w.heap.size w _ from (by repeat (first | with_reducible exact bel_refl _ | with_reducible assumption | with_reducible refine bel_drewN ?_ _ | with_reducible refine bel_drew ?_ | with_reducible refine bel_alloc ?_ _ | with_reducible refine bel_row ?_ ?_ _ | with_reducible refine bel_set ?_ ?_ _ | refine bel_trans ?_ (by with_reducible assumption) | (simp; done) | (simp; omega))))).mono ?_
 rintro e w1 ⟨rfl, hb⟩
 have HB1 : Hid (Below w.heap.size w w1) := Lib.hid (bel_trans (by repeat (first | with_reducible exact bel_refl _ | with_reducible assumption | with_reducible refine bel_drewN ?_ _ | with_reducible refine bel_drew ?_ | with_reducible refine bel_alloc ?_ _ | with_reducible refine bel_row ?_ ?_ _ | with_reducible refine bel_set ?_ ?_ _ | refine bel_trans ?_ (by with_reducible assumption) | (simp; done) | (simp; omega))) hb)
 clear hb
 go_wp2_with fail
 refine (Hpl.out _ HB1.out).mono ?_
 rintro e w2 ⟨rfl, hb⟩
 have HB2 : Hid (Below w.heap.size w w2) := Lib.hid (bel_trans HB1.out hb)
 clear hb
 go_wp2_with fail
 refine (Hth.out _ (bel_alloc HB2.out _)).mono ?_
 rintro e w3 ⟨rfl, hb⟩
 have HB3 : Hid (Below w.heap.size w w3 ∧ Blk w3 w2.heap.size (#[.int .u64 263174, .int .u64 0, .int .u64 0, .int .u64 0, .int .u64 0, .int .u64 0, .int .u64 0, .int .u64 0]) 26) := Lib.hid ⟨bel_trans (bel_alloc HB2.out _) hb, (Blk.new w2 _ _).grow hb⟩
 clear hb
 go_wp2_with fail
 refine (Hbk.out _ (bel_alloc HB3.out.1 _)).mono ?_
 rintro e w4 ⟨rfl, hb⟩
 have HB4 : Hid (Below w.heap.size w w4 ∧ Blk w4 w2.heap.size (#[.int .u64 263174, .int .u64 0, .int .u64 0, .int .u64 0, .int .u64 0, .int .u64 0, .int .u64 0, .int .u64 0]) 26 ∧ Blk w4 w3.heap.size (#[.int .i64 2, .int .i64 0, .int .i64 2, .int .i64 0]) 23) := Lib.hid ⟨bel_trans (bel_alloc HB3.out.1 _) hb, (HB3.out.2.alloc _).grow hb, (Blk.new w3 _ _).grow hb⟩
 clear hb
 go_wp2_with fail
 refine (Hr.out _ (bel_alloc HB4.out.1 _)).mono ?_
 rintro e w5 ⟨rfl, hb⟩
 have HB5 : Hid (Below w.heap.size w w5 ∧ Blk w5 w2.heap.size (#[.int .u64 263174, .int .u64 0, .int .u64 0, .int .u64 0, .int .u64 0, .int .u64 0, .int .u64 0, .int .u64 0]) 26 ∧ Blk w5 w3.heap.size (#[.int .i64 2, .int .i64 0, .int .i64 2, .int .i64 0]) 23 ∧ Blk w5 w4.heap.size (#[.int .i64 3, .int .i64 0, .int .i64 2, .int .i64 0]) 23) := Lib.hid ⟨bel_trans (bel_alloc HB4.out.1 _) hb, (HB4.out.2.1.alloc _).grow hb, (HB4.out.2.2.alloc _).grow hb, (Blk.new w4 _ _).grow hb⟩
 clear hb
 go_wp2_with fail
 refine (Hh.out _ HB5.out.1).mono ?_
 rintro e w6 ⟨rfl, hb⟩
 have HB6 : Hid (Below w.heap.size w w6 ∧ Blk w6 w2.heap.size (#[.int .u64 263174, .int .u64 0, .int .u64 0, .int .u64 0, .int .u64 0, .int .u64 0, .int .u64 0, .int .u64 0]) 26 ∧ Blk w6 w3.heap.size (#[.int .i64 2, .int .i64 0, .int .i64 2, .int .i64 0]) 23 ∧ Blk w6 w4.heap.size (#[.int .i64 3, .int .i64 0, .int .i64 2, .int .i64 0]) 23) := Lib.hid ⟨bel_trans HB5.out.1 hb, HB5.out.2.1.grow hb, HB5.out.2.2.1.grow hb, HB5.out.2.2.2.grow hb⟩
 clear hb
 go_wp2_with fail
 refine (Hf1.out _ HB6.out.1).mono ?_
 rintro e w7 ⟨⟨x1, x2, x3, x4, rfl⟩, hb⟩
 have HB7 : Hid (Below w.heap.size w w7 ∧ Blk w7 w2.heap.size (#[.int .u64 263174, .int .u64 0, .int .u64 0, .int .u64 0, .int .u64 0, .int .u64 0, .int .u64 0, .int .u64 0]) 26 ∧ Blk w7 w3.heap.size (#[.int .i64 2, .int .i64 0, .int .i64 2, .int .i64 0]) 23 ∧ Blk w7 w4.heap.size (#[.int .i64 3, .int .i64 0, .int .i64 2, .int .i64 0]) 23) := Lib.hid ⟨bel_trans HB6.out.1 hb, HB6.out.2.1.grow hb, HB6.out.2.2.1.grow hb, HB6.out.2.2.2.grow hb⟩
 clear hb
 go_wp2_with fail
 refine (Hh.out _ (bel_alloc HB7.out.1 _)).mono ?_
 rintro e w8 ⟨rfl, hb⟩
 have HB8 : Hid (Below w.heap.size w w8 ∧ Blk w8 w2.heap.size (#[.int .u64 263174, .int .u64 0, .int .u64 0, .int .u64 0, .int .u64 0, .int .u64 0, .int .u64 0, .int .u64 0]) 26 ∧ Blk w8 w3.heap.size (#[.int .i64 2, .int .i64 0, .int .i64 2, .int .i64 0]) 23 ∧ Blk w8 w4.heap.size (#[.int .i64 3, .int .i64 0, .int .i64 2, .int .i64 0]) 23 ∧ Blk w8 w7.heap.size (#[.int .i64 x1, .int .i64 x2, .int .i64 x3, .int .i64 x4]) 23) := Lib.hid ⟨bel_trans (bel_alloc HB7.out.1 _) hb, (HB7.out.2.1.alloc _).grow hb, (HB7.out.2.2.1.alloc _).grow hb, (HB7.out.2.2.2.alloc _).grow hb, (Blk.new w7 _ _).grow hb⟩
 clear hb
 go_wp2_with fail
 refine (Hr.out _ HB8.out.1).mono ?_
 rintro e w9 ⟨rfl, hb⟩
 have HB9 : Hid (Below w.heap.size w w9 ∧ Blk w9 w2.heap.size (#[.int .u64 263174, .int .u64 0, .int .u64 0, .int .u64 0, .int .u64 0, .int .u64 0, .int .u64 0, .int .u64 0]) 26 ∧ Blk w9 w3.heap.size (#[.int .i64 2, .int .i64 0, .int .i64 2, .int .i64 0]) 23 ∧ Blk w9 w4.heap.size (#[.int .i64 3, .int .i64 0, .int .i64 2, .int .i64 0]) 23 ∧ Blk w9 w7.heap.size (#[.int .i64 x1, .int .i64 x2, .int .i64 x3, .int .i64 x4]) 23) := Lib.hid ⟨bel_trans HB8.out.1 hb, HB8.out.2.1.grow hb, HB8.out.2.2.1.grow hb, HB8.out.2.2.2.1.grow hb, HB8.out.2.2.2.2.grow hb⟩
 clear hb
 go_wp2_with fail
 refine (Hf2.out _ HB9.out.1).mono ?_
 rintro e w10 ⟨rfl, hb⟩
 have HB10 : Hid (Below w.heap.size w w10 ∧ Blk w10 w2.heap.size (#[.int .u64 263174, .int .u64 0, .int .u64 0, .int .u64 0, .int .u64 0, .int .u64 0, .int .u64 0, .int .u64 0]) 26 ∧ Blk w10 w3.heap.size (#[.int .i64 2, .int .i64 0, .int .i64 2, .int .i64 0]) 23 ∧ Blk w10 w4.heap.size (#[.int .i64 3, .int .i64 0, .int .i64 2, .int .i64 0]) 23 ∧ Blk w10 w7.heap.size (#[.int .i64 x1, .int .i64 x2, .int .i64 x3, .int .i64 x4]) 23) := Lib.hid ⟨bel_trans HB9.out.1 hb, HB9.out.2.1.grow hb, HB9.out.2.2.1.grow hb, HB9.out.2.2.2.1.grow hb, HB9.out.2.2.2.2.grow hb⟩
 clear hb
 go_wp2_with fail
 refine (Hrd.out _ (bel_alloc HB10.out.1 _)).mono ?_
 rintro e w11 ⟨rfl, hb⟩
 have HB11 : Hid (Below w.heap.size w w11 ∧ Blk w11 w2.heap.size (#[.int .u64 263174, .int .u64 0, .int .u64 0, .int .u64 0, .int .u64 0, .int .u64 0, .int .u64 0, .int .u64 0]) 26 ∧ Blk w11 w3.heap.size (#[.int .i64 2, .int .i64 0, .int .i64 2, .int .i64 0]) 23 ∧ Blk w11 w4.heap.size (#[.int .i64 3, .int .i64 0, .int .i64 2, .int .i64 0]) 23 ∧ Blk w11 w7.heap.size (#[.int .i64 x1, .int .i64 x2, .int .i64 x3, .int .i64 x4]) 23 ∧ Blk w11 w10.heap.size (#[.int .i64 0, .int .i64 0, .int .i64 0, .int .i64 0]) 23) := Lib.hid ⟨bel_trans (bel_alloc HB10.out.1 _) hb, (HB10.out.2.1.alloc _).grow hb, (HB10.out.2.2.1.alloc _).grow hb, (HB10.out.2.2.2.1.alloc _).grow hb, (HB10.out.2.2.2.2.alloc _).grow hb, (Blk.new w10 _ _).grow hb⟩
 clear hb
 go_upto_region 7 with fail
 obtain ⟨wA, hwA⟩ : ∃ wA, wA = w11.alloc (.cells #[.int .u64 460039, .int .u64 0, .int .u64 0, .int .u64 0, .int .u64 0, .int .u64 0, .int .u64 0, .int .u64 0] 26) := ⟨_, rfl⟩
 have HA : Hid (Below w.heap.size w wA ∧ Blk wA w2.heap.size (#[.int .u64 263174, .int .u64 0, .int .u64 0, .int .u64 0, .int .u64 0, .int .u64 0, .int .u64 0, .int .u64 0]) 26 ∧ Blk wA w3.heap.size (#[.int .i64 2, .int .i64 0, .int .i64 2, .int .i64 0]) 23 ∧ Blk wA w4.heap.size (#[.int .i64 3, .int .i64 0, .int .i64 2, .int .i64 0]) 23 ∧ Blk wA w7.heap.size (#[.int .i64 x1, .int .i64 x2, .int .i64 x3, .int .i64 x4]) 23 ∧ Blk wA w10.heap.size (#[.int .i64 0, .int .i64 0, .int .i64 0, .int .i64 0]) 23 ∧ Blk wA w11.heap.size (#[.int .u64 460039, .int .u64 0, .int .u64 0, .int .u64 0, .int .u64 0, .int .u64 0, .int .u64 0, .int .u64 0]) 26) := Lib.hid (by rw [hwA]; exact ⟨(bel_alloc HB11.out.1 _), (HB11.out.2.1.alloc _), (HB11.out.2.2.1.alloc _), (HB11.out.2.2.2.1.alloc _), (HB11.out.2.2.2.2.1.alloc _), (HB11.out.2.2.2.2.2.alloc _), (Blk.new w11 _ _)⟩)
 rw [← hwA]
 clear hwA
 refine wp_region_val Grows (fun _ _ _ => True) [Is (.int .i64 0), Is (.bool false), Is (.bool false), Is (.int .i64 0), Is (.bool false), Is (.bool false), Is (.bool false), Is (.int .i64 0), Is (.bool false), Is (.bool false), Is (.bool false), Is (.int .i64 0), Is (.bool false), Is (.bool false), Is (.bool false), Is (.agg #[.int .u64 460039, .int .u64 0, .int .u64 0, .int .u64 0, .int .u64 0, .int .u64 0, .int .u64 0, .int .u64 0]), Is (.agg #[.int .u64 460039, .int .u64 0, .int .u64 0, .int .u64 0, .int .u64 0, .int .u64 0, .int .u64 0, .int .u64 0]), Is (.bool false), Is (.bool false), Is (.bool false), Is (.bool true), Is (.bool false), Is (.bool false), Is (.bool false), Is (.bool false), Is (.bool false)] (by kernel_rfl) (by kernel_rfl) rfl Grows.refl (fun _ _ _ => Grows.trans) (stable_mem ⟨fun _ _ _ h _ => h, fun _ _ _ h _ => h, fun _ _ _ h _ => h, fun _ _ _ h _ => h, fun _ _ _ h _ => h, fun _ _ _ h _ => h, fun _ _ _ h _ => h, fun _ _ _ h _ => h, fun _ _ _ h _ => h, fun _ _ _ h _ => h, fun _ _ _ h _ => h, fun _ _ _ h _ => h, fun _ _ _ h _ => h, fun _ _ _ h _ => h, fun _ _ _ h _ => h, fun _ _ _ h _ => h, fun _ _ _ h _ => h, fun _ _ _ h _ => h, fun _ _ _ h _ => h, fun _ _ _ h _ => h, fun _ _ _ h _ => h, fun _ _ _ h _ => h, fun _ _ _ h _ => h, fun _ _ _ h _ => h, fun _ _ _ h _ => h, fun _ _ _ h _ => h, trivial⟩) wA (Below.drew (Below.refl _ _)) trivial ?_
 refine val_cons ?_ (fun v0 => ?_)
 ·intro L vs w1 hvs hat hb hI hF; try simp [factsI, Region.binds, Is] at hF
  have hc := (Grows.cells hb).1
  clear hI
  go_simp
  try simp [upd]
  try first | exact Grows.refl _ | exact trivial | exact ⟨Grows.refl _, trivial⟩
 refine val_cons ?_ (fun v1 => ?_)
 ·intro L vs w1 hvs hat hb hI hF; try simp [factsI, Region.binds, Is] at hF
  have hc := (Grows.cells hb).1
  clear hI
  go_simp
  try simp [upd]
  try first | exact Grows.refl _ | exact trivial | exact ⟨Grows.refl _, trivial⟩
 refine val_cons ?_ (fun v2 => ?_)
 ·intro L vs w1 hvs hat hb hI hF; try simp [factsI, Region.binds, Is] at hF
  have hc := (Grows.cells hb).1
  clear hI
  go_simp
  try simp [upd]
  try first | exact Grows.refl _ | exact trivial | exact ⟨Grows.refl _, trivial⟩
 refine val_cons ?_ (fun v3 => ?_)
 ·intro L vs w1 hvs hat hb hI hF; try simp [factsI, Region.binds, Is] at hF
  have hc := (Grows.cells hb).1
  clear hI
  go_simp
  try simp [upd]
  try first | exact Grows.refl _ | exact trivial | exact ⟨Grows.refl _, trivial⟩
 refine val_cons ?_ (fun v4 => ?_)
 ·intro L vs w1 hvs hat hb hI hF; try simp [factsI, Region.binds, Is] at hF
  have hc := (Grows.cells hb).1
  clear hI
  go_simp
  try simp [upd]
  try first | exact Grows.refl _ | exact trivial | exact ⟨Grows.refl _, trivial⟩
 refine val_cons ?_ (fun v5 => ?_)
 ·intro L vs w1 hvs hat hb hI hF; try simp [factsI, Region.binds, Is] at hF
  have hc := (Grows.cells hb).1
  clear hI
  go_simp
  try simp [upd]
  try first | exact Grows.refl _ | exact trivial | exact ⟨Grows.refl _, trivial⟩
 refine val_cons ?_ (fun v6 => ?_)
 ·intro L vs w1 hvs hat hb hI hF; try simp [factsI, Region.binds, Is] at hF
  have hc := (Grows.cells hb).1
  clear hI
  go_simp
  try simp [upd]
  try first | exact Grows.refl _ | exact trivial | exact ⟨Grows.refl _, trivial⟩
 refine val_cons ?_ (fun v7 => ?_)
 ·intro L vs w1 hvs hat hb hI hF; try simp [factsI, Region.binds, Is] at hF
  have hc := (Grows.cells hb).1
  clear hI
  go_simp
  try simp [upd]
  try first | exact Grows.refl _ | exact trivial | exact ⟨Grows.refl _, trivial⟩
 refine val_cons ?_ (fun v8 => ?_)
 ·intro L vs w1 hvs hat hb hI hF; try simp [factsI, Region.binds, Is] at hF
  have hc := (Grows.cells hb).1
  clear hI
  go_simp
  try simp [upd]
  try first | exact Grows.refl _ | exact trivial | exact ⟨Grows.refl _, trivial⟩
 refine val_cons ?_ (fun v9 => ?_)
 ·intro L vs w1 hvs hat hb hI hF; try simp [factsI, Region.binds, Is] at hF
  have hc := (Grows.cells hb).1
  clear hI
  go_simp
  try simp [upd]
  try first | exact Grows.refl _ | exact trivial | exact ⟨Grows.refl _, trivial⟩
 refine val_cons ?_ (fun v10 => ?_)
 ·intro L vs w1 hvs hat hb hI hF; try simp [factsI, Region.binds, Is] at hF
  have hc := (Grows.cells hb).1
  clear hI
  go_simp
  try simp [upd]
  try first | exact Grows.refl _ | exact trivial | exact ⟨Grows.refl _, trivial⟩
 refine val_cons ?_ (fun v11 => ?_)
 ·intro L vs w1 hvs hat hb hI hF; try simp [factsI, Region.binds, Is] at hF
  have hc := (Grows.cells hb).1
  clear hI
  go_simp
  try simp [upd]
  try first | exact Grows.refl _ | exact trivial | exact ⟨Grows.refl _, trivial⟩
 refine val_cons ?_ (fun v12 => ?_)
 ·intro L vs w1 hvs hat hb hI hF; try simp [factsI, Region.binds, Is] at hF
  have hc := (Grows.cells hb).1
  clear hI
  go_simp
  try simp [upd]
  try first | exact Grows.refl _ | exact trivial | exact ⟨Grows.refl _, trivial⟩
 refine val_cons ?_ (fun v13 => ?_)
 ·intro L vs w1 hvs hat hb hI hF; try simp [factsI, Region.binds, Is] at hF
  have hc := (Grows.cells hb).1
  clear hI
  go_simp
  try simp [upd]
  try first | exact Grows.refl _ | exact trivial | exact ⟨Grows.refl _, trivial⟩
 refine val_cons ?_ (fun v14 => ?_)
 ·intro L vs w1 hvs hat hb hI hF; try simp [factsI, Region.binds, Is] at hF
  have hc := (Grows.cells hb).1
  clear hI
  go_simp
  try simp [upd]
  try first | exact Grows.refl _ | exact trivial | exact ⟨Grows.refl _, trivial⟩
 refine val_cons ?_ (fun v15 => ?_)
 ·intro L vs w1 hvs hat hb hI hF; try simp [factsI, Region.binds, Is] at hF
  have D := (HA.out.2.2.2.2.2.2).grow (show Below _ _ _ from hb); have cD := D.cell; have lD := D.lt; clear D
  go_simp
  first | exact Grows.refl _ | exact ⟨Grows.refl _, trivial⟩
 refine val_cons ?_ (fun v16 => ?_)
 ·intro L vs w1 hvs hat hb hI hF; try simp [factsI, Region.binds, Is] at hF
  have hbw := bel_trans HA.out.1 (show Below wA.heap.size wA w1 from hb)
  go_simp
  refine (Hr.out _ hbw).mono ?_
  rintro e w3 ⟨rfl, hb3⟩
  exact ⟨rfl, hb3⟩
 refine val_cons ?_ (fun v17 => ?_)
 ·intro L vs w1 hvs hat hb hI hF; try simp [factsI, Region.binds, Is] at hF
  have eqr := eq_ring
  go_simp
  first | exact Grows.refl _ | exact ⟨Grows.refl _, trivial⟩
 refine val_cons ?_ (fun v18 => ?_)
 ·intro L vs w1 hvs hat hb hI hF; try simp [factsI, Region.binds, Is] at hF
  have hc := (Grows.cells hb).1
  clear hI
  go_simp
  try simp [upd]
  try first | exact Grows.refl _ | exact trivial | exact ⟨Grows.refl _, trivial⟩
 refine val_cons ?_ (fun v19 => ?_)
 ·intro L vs w1 hvs hat hb hI hF; try simp [factsI, Region.binds, Is] at hF
  have hc := (Grows.cells hb).1
  clear hI
  go_simp
  try simp [upd]
  try first | exact Grows.refl _ | exact trivial | exact ⟨Grows.refl _, trivial⟩
 refine val_cons ?_ (fun v20 => ?_)
 ·intro L vs w1 hvs hat hb hI hF; try simp [factsI, Region.binds, Is] at hF
  have hc := (Grows.cells hb).1
  clear hI
  go_simp
  try simp [upd]
  try first | exact Grows.refl _ | exact trivial | exact ⟨Grows.refl _, trivial⟩
 refine val_cons ?_ (fun v21 => ?_)
 ·intro L vs w1 hvs hat hb hI hF; try simp [factsI, Region.binds, Is] at hF
  have hc := (Grows.cells hb).1
  clear hI
  go_simp
  try simp [upd]
  try first | exact Grows.refl _ | exact trivial | exact ⟨Grows.refl _, trivial⟩
 refine val_cons ?_ (fun v22 => ?_)
 ·intro L vs w1 hvs hat hb hI hF; try simp [factsI, Region.binds, Is] at hF
  have hc := (Grows.cells hb).1
  clear hI
  go_simp
  try simp [upd]
  try first | exact Grows.refl _ | exact trivial | exact ⟨Grows.refl _, trivial⟩
 refine val_cons ?_ (fun v23 => ?_)
 ·intro L vs w1 hvs hat hb hI hF; try simp [factsI, Region.binds, Is] at hF
  have hc := (Grows.cells hb).1
  clear hI
  go_simp
  try simp [upd]
  try first | exact Grows.refl _ | exact trivial | exact ⟨Grows.refl _, trivial⟩
 refine val_cons ?_ (fun v24 => ?_)
 ·intro L vs w1 hvs hat hb hI hF; try simp [factsI, Region.binds, Is] at hF
  have hc := (Grows.cells hb).1
  clear hI
  go_simp
  try simp [upd]
  try first | exact Grows.refl _ | exact trivial | exact ⟨Grows.refl _, trivial⟩
 refine val_cons ?_ (fun v25 => ?_)
 ·intro L vs w1 hvs hat hb hI hF; try simp [factsI, Region.binds, Is] at hF
  have hc := (Grows.cells hb).1
  clear hI
  go_simp
  try simp [upd]
  try first | exact Grows.refl _ | exact trivial | exact ⟨Grows.refl _, trivial⟩
 refine val_nil ?_
 intro vs w1 hvs hb hI hF
 simp [Is, Nat.forall_lt_succ_right] at hF
 simp only [Act.put, List.setIfInBounds_toArray, List.set_cons_succ, List.set_cons_zero, hF]
 clear hF
 obtain ⟨w12, hw12⟩ : ∃ w12, w12 = w1 := ⟨_, rfl⟩
 have hbA : Below wA.heap.size wA w12 := by rw [hw12]; exact hb
 have HB12 : Hid (Below w.heap.size w w12 ∧ Blk w12 w2.heap.size (#[.int .u64 263174, .int .u64 0, .int .u64 0, .int .u64 0, .int .u64 0, .int .u64 0, .int .u64 0, .int .u64 0]) 26 ∧ Blk w12 w3.heap.size (#[.int .i64 2, .int .i64 0, .int .i64 2, .int .i64 0]) 23 ∧ Blk w12 w4.heap.size (#[.int .i64 3, .int .i64 0, .int .i64 2, .int .i64 0]) 23 ∧ Blk w12 w7.heap.size (#[.int .i64 x1, .int .i64 x2, .int .i64 x3, .int .i64 x4]) 23 ∧ Blk w12 w10.heap.size (#[.int .i64 0, .int .i64 0, .int .i64 0, .int .i64 0]) 23 ∧ Blk w12 w11.heap.size (#[.int .u64 460039, .int .u64 0, .int .u64 0, .int .u64 0, .int .u64 0, .int .u64 0, .int .u64 0, .int .u64 0]) 26) := Lib.hid ⟨bel_trans HA.out.1 hbA, HA.out.2.1.grow hbA, HA.out.2.2.1.grow hbA, HA.out.2.2.2.1.grow hbA, HA.out.2.2.2.2.1.grow hbA, HA.out.2.2.2.2.2.1.grow hbA, HA.out.2.2.2.2.2.2.grow hbA⟩
 rw [← hw12]
 clear hb hbA hw12 hvs
 go_wp2_with fail
 refine (Hr.out _ HB12.out.1).mono ?_
 rintro e w13 ⟨rfl, hb⟩
 have HB13 : Hid (Below w.heap.size w w13 ∧ Blk w13 w2.heap.size (#[.int .u64 263174, .int .u64 0, .int .u64 0, .int .u64 0, .int .u64 0, .int .u64 0, .int .u64 0, .int .u64 0]) 26 ∧ Blk w13 w3.heap.size (#[.int .i64 2, .int .i64 0, .int .i64 2, .int .i64 0]) 23 ∧ Blk w13 w4.heap.size (#[.int .i64 3, .int .i64 0, .int .i64 2, .int .i64 0]) 23 ∧ Blk w13 w7.heap.size (#[.int .i64 x1, .int .i64 x2, .int .i64 x3, .int .i64 x4]) 23 ∧ Blk w13 w10.heap.size (#[.int .i64 0, .int .i64 0, .int .i64 0, .int .i64 0]) 23 ∧ Blk w13 w11.heap.size (#[.int .u64 460039, .int .u64 0, .int .u64 0, .int .u64 0, .int .u64 0, .int .u64 0, .int .u64 0, .int .u64 0]) 26) := Lib.hid ⟨bel_trans HB12.out.1 hb, HB12.out.2.1.grow hb, HB12.out.2.2.1.grow hb, HB12.out.2.2.2.1.grow hb, HB12.out.2.2.2.2.1.grow hb, HB12.out.2.2.2.2.2.1.grow hb, HB12.out.2.2.2.2.2.2.grow hb⟩
 clear hb
 go_wp2_with fail
 refine (Hsy.out _ HB13.out.1).mono ?_
 rintro e w14 ⟨⟨u, rfl, hu⟩, hb⟩
 have HB14 : Hid (Below w.heap.size w w14 ∧ Blk w14 w2.heap.size (#[.int .u64 263174, .int .u64 0, .int .u64 0, .int .u64 0, .int .u64 0, .int .u64 0, .int .u64 0, .int .u64 0]) 26 ∧ Blk w14 w3.heap.size (#[.int .i64 2, .int .i64 0, .int .i64 2, .int .i64 0]) 23 ∧ Blk w14 w4.heap.size (#[.int .i64 3, .int .i64 0, .int .i64 2, .int .i64 0]) 23 ∧ Blk w14 w7.heap.size (#[.int .i64 x1, .int .i64 x2, .int .i64 x3, .int .i64 x4]) 23 ∧ Blk w14 w10.heap.size (#[.int .i64 0, .int .i64 0, .int .i64 0, .int .i64 0]) 23 ∧ Blk w14 w11.heap.size (#[.int .u64 460039, .int .u64 0, .int .u64 0, .int .u64 0, .int .u64 0, .int .u64 0, .int .u64 0, .int .u64 0]) 26) := Lib.hid ⟨bel_trans HB13.out.1 hb, HB13.out.2.1.grow hb, HB13.out.2.2.1.grow hb, HB13.out.2.2.2.1.grow hb, HB13.out.2.2.2.2.1.grow hb, HB13.out.2.2.2.2.2.1.grow hb, HB13.out.2.2.2.2.2.2.grow hb⟩
 clear hb
 have HU := Lib.hid hu
 clear hu
 go_wp2_with fail
 refine (Hh.out _ HB14.out.1).mono ?_
 rintro e w15 ⟨rfl, hb⟩
 have HB15 : Hid (Below w.heap.size w w15 ∧ Blk w15 w2.heap.size (#[.int .u64 263174, .int .u64 0, .int .u64 0, .int .u64 0, .int .u64 0, .int .u64 0, .int .u64 0, .int .u64 0]) 26 ∧ Blk w15 w3.heap.size (#[.int .i64 2, .int .i64 0, .int .i64 2, .int .i64 0]) 23 ∧ Blk w15 w4.heap.size (#[.int .i64 3, .int .i64 0, .int .i64 2, .int .i64 0]) 23 ∧ Blk w15 w7.heap.size (#[.int .i64 x1, .int .i64 x2, .int .i64 x3, .int .i64 x4]) 23 ∧ Blk w15 w10.heap.size (#[.int .i64 0, .int .i64 0, .int .i64 0, .int .i64 0]) 23 ∧ Blk w15 w11.heap.size (#[.int .u64 460039, .int .u64 0, .int .u64 0, .int .u64 0, .int .u64 0, .int .u64 0, .int .u64 0, .int .u64 0]) 26) := Lib.hid ⟨bel_trans HB14.out.1 hb, HB14.out.2.1.grow hb, HB14.out.2.2.1.grow hb, HB14.out.2.2.2.1.grow hb, HB14.out.2.2.2.2.1.grow hb, HB14.out.2.2.2.2.2.1.grow hb, HB14.out.2.2.2.2.2.2.grow hb⟩
 have HU2 : Hid (Sl w15 1 u (ints1 [0, 1, 2, 3, 8, 9, 10, 11])) := Lib.hid (HU.out.mono hb)
 clear HU
 clear hb
 go_wp2_with fail
 refine (Hwr.out _ HB15.out.1).mono ?_
 rintro e w16 ⟨rfl, hb⟩
 have HB16 : Hid (Below w.heap.size w w16 ∧ Blk w16 w2.heap.size (#[.int .u64 263174, .int .u64 0, .int .u64 0, .int .u64 0, .int .u64 0, .int .u64 0, .int .u64 0, .int .u64 0]) 26 ∧ Blk w16 w3.heap.size (#[.int .i64 2, .int .i64 0, .int .i64 2, .int .i64 0]) 23 ∧ Blk w16 w4.heap.size (#[.int .i64 3, .int .i64 0, .int .i64 2, .int .i64 0]) 23 ∧ Blk w16 w7.heap.size (#[.int .i64 x1, .int .i64 x2, .int .i64 x3, .int .i64 x4]) 23 ∧ Blk w16 w10.heap.size (#[.int .i64 0, .int .i64 0, .int .i64 0, .int .i64 0]) 23 ∧ Blk w16 w11.heap.size (#[.int .u64 460039, .int .u64 0, .int .u64 0, .int .u64 0, .int .u64 0, .int .u64 0, .int .u64 0, .int .u64 0]) 26) := Lib.hid ⟨bel_trans HB15.out.1 hb, HB15.out.2.1.grow hb, HB15.out.2.2.1.grow hb, HB15.out.2.2.2.1.grow hb, HB15.out.2.2.2.2.1.grow hb, HB15.out.2.2.2.2.2.1.grow hb, HB15.out.2.2.2.2.2.2.grow hb⟩
 have HU3 : Hid (Sl w16 1 u (ints1 [0, 1, 2, 3, 8, 9, 10, 11])) := Lib.hid (HU2.out.mono hb)
 clear HU2
 clear hb
 have c1 := (HB16.out.2.1).cell; have l1 := (HB16.out.2.1).lt
 have c3 := (HB16.out.2.2.1).cell; have l3 := (HB16.out.2.2.1).lt
 have c5 := (HB16.out.2.2.2.1).cell; have l5 := (HB16.out.2.2.2.1).lt
 have eqp := eq_place
 go_wp2_with fail
 have HSI : Hid (∀ W, Below w.heap.size w W → W = w16.alloc (.cells #[.int .i64 0, .int .i64 1, .int .i64 2, .int .i64 3, .int .i64 8, .int .i64 9, .int .i64 10, .int .i64 11] 3) → Calls Tryz.prog 30 #[u, .slice (some ⟨w16.heap.size, 0, none⟩) 8 8] W fun e w' => e = .returned (.bool true) ∧ Below W.heap.size W w') := Lib.hid fun W _ hW => by
  subst hW
  have := same_ints (HU3.out.mono (bel_alloc (bel_refl w16) _)) (new_ints w16 [0, 1, 2, 3, 8, 9, 10, 11] 3 (by decide)) (by decide)
  rw [decide_eq_true rfl] at this
  exact this
 have HSJ : Hid (Calls Tryz.prog 30 #[u, .slice (some ⟨w16.heap.size, 0, none⟩) 8 8] (w16.alloc (.cells #[.int .i64 0, .int .i64 1, .int .i64 2, .int .i64 3, .int .i64 8, .int .i64 9, .int .i64 10, .int .i64 11] 3)) fun e w' => e = .returned (.bool true) ∧ Below (w16.alloc (.cells #[.int .i64 0, .int .i64 1, .int .i64 2, .int .i64 3, .int .i64 8, .int .i64 9, .int .i64 10, .int .i64 11] 3)).heap.size (w16.alloc (.cells #[.int .i64 0, .int .i64 1, .int .i64 2, .int .i64 3, .int .i64 8, .int .i64 9, .int .i64 10, .int .i64 11] 3)) w') := Lib.hid (HSI.out _ (bel_alloc HB16.out.1 _) rfl)
 clear c1 l1 c3 l3 c5 l5
 refine HSJ.out.mono ?_
 rintro e w17 ⟨rfl, hb⟩
 have HB17 : Hid (Below w.heap.size w w17 ∧ Blk w17 w2.heap.size (#[.int .u64 263174, .int .u64 0, .int .u64 0, .int .u64 0, .int .u64 0, .int .u64 0, .int .u64 0, .int .u64 0]) 26 ∧ Blk w17 w3.heap.size (#[.int .i64 2, .int .i64 0, .int .i64 2, .int .i64 0]) 23 ∧ Blk w17 w4.heap.size (#[.int .i64 3, .int .i64 0, .int .i64 2, .int .i64 0]) 23 ∧ Blk w17 w7.heap.size (#[.int .i64 x1, .int .i64 x2, .int .i64 x3, .int .i64 x4]) 23 ∧ Blk w17 w10.heap.size (#[.int .i64 0, .int .i64 0, .int .i64 0, .int .i64 0]) 23 ∧ Blk w17 w11.heap.size (#[.int .u64 460039, .int .u64 0, .int .u64 0, .int .u64 0, .int .u64 0, .int .u64 0, .int .u64 0, .int .u64 0]) 26 ∧ Blk w17 w16.heap.size (#[.int .i64 0, .int .i64 1, .int .i64 2, .int .i64 3, .int .i64 8, .int .i64 9, .int .i64 10, .int .i64 11]) 3) := Lib.hid ⟨bel_trans (bel_alloc HB16.out.1 _) hb, (HB16.out.2.1.alloc _).grow hb, (HB16.out.2.2.1.alloc _).grow hb, (HB16.out.2.2.2.1.alloc _).grow hb, (HB16.out.2.2.2.2.1.alloc _).grow hb, (HB16.out.2.2.2.2.2.1.alloc _).grow hb, (HB16.out.2.2.2.2.2.2.alloc _).grow hb, (Blk.new w16 _ _).grow hb⟩
 clear hb
 go_wp2_with fail
 refine (Hr.out _ HB17.out.1).mono ?_
 rintro e w18 ⟨rfl, hb⟩
 have HB18 : Hid (Below w.heap.size w w18 ∧ Blk w18 w2.heap.size (#[.int .u64 263174, .int .u64 0, .int .u64 0, .int .u64 0, .int .u64 0, .int .u64 0, .int .u64 0, .int .u64 0]) 26 ∧ Blk w18 w3.heap.size (#[.int .i64 2, .int .i64 0, .int .i64 2, .int .i64 0]) 23 ∧ Blk w18 w4.heap.size (#[.int .i64 3, .int .i64 0, .int .i64 2, .int .i64 0]) 23 ∧ Blk w18 w7.heap.size (#[.int .i64 x1, .int .i64 x2, .int .i64 x3, .int .i64 x4]) 23 ∧ Blk w18 w10.heap.size (#[.int .i64 0, .int .i64 0, .int .i64 0, .int .i64 0]) 23 ∧ Blk w18 w11.heap.size (#[.int .u64 460039, .int .u64 0, .int .u64 0, .int .u64 0, .int .u64 0, .int .u64 0, .int .u64 0, .int .u64 0]) 26 ∧ Blk w18 w16.heap.size (#[.int .i64 0, .int .i64 1, .int .i64 2, .int .i64 3, .int .i64 8, .int .i64 9, .int .i64 10, .int .i64 11]) 3) := Lib.hid ⟨bel_trans HB17.out.1 hb, HB17.out.2.1.grow hb, HB17.out.2.2.1.grow hb, HB17.out.2.2.2.1.grow hb, HB17.out.2.2.2.2.1.grow hb, HB17.out.2.2.2.2.2.1.grow hb, HB17.out.2.2.2.2.2.2.1.grow hb, HB17.out.2.2.2.2.2.2.2.grow hb⟩
 clear hb
 go_wp2_with fail
 refine (Him.out _ HB18.out.1).mono ?_
 rintro e w19 ⟨⟨p1, p2, rfl⟩, hb⟩
 have HB19 : Hid (Below w.heap.size w w19 ∧ Blk w19 w2.heap.size (#[.int .u64 263174, .int .u64 0, .int .u64 0, .int .u64 0, .int .u64 0, .int .u64 0, .int .u64 0, .int .u64 0]) 26 ∧ Blk w19 w3.heap.size (#[.int .i64 2, .int .i64 0, .int .i64 2, .int .i64 0]) 23 ∧ Blk w19 w4.heap.size (#[.int .i64 3, .int .i64 0, .int .i64 2, .int .i64 0]) 23 ∧ Blk w19 w7.heap.size (#[.int .i64 x1, .int .i64 x2, .int .i64 x3, .int .i64 x4]) 23 ∧ Blk w19 w10.heap.size (#[.int .i64 0, .int .i64 0, .int .i64 0, .int .i64 0]) 23 ∧ Blk w19 w11.heap.size (#[.int .u64 460039, .int .u64 0, .int .u64 0, .int .u64 0, .int .u64 0, .int .u64 0, .int .u64 0, .int .u64 0]) 26 ∧ Blk w19 w16.heap.size (#[.int .i64 0, .int .i64 1, .int .i64 2, .int .i64 3, .int .i64 8, .int .i64 9, .int .i64 10, .int .i64 11]) 3) := Lib.hid ⟨bel_trans HB18.out.1 hb, HB18.out.2.1.grow hb, HB18.out.2.2.1.grow hb, HB18.out.2.2.2.1.grow hb, HB18.out.2.2.2.2.1.grow hb, HB18.out.2.2.2.2.2.1.grow hb, HB18.out.2.2.2.2.2.2.1.grow hb, HB18.out.2.2.2.2.2.2.2.grow hb⟩
 clear hb
 go_wp2_with fail
 refine (Hr.out _ HB19.out.1).mono ?_
 rintro e w20 ⟨rfl, hb⟩
 have HB20 : Hid (Below w.heap.size w w20 ∧ Blk w20 w2.heap.size (#[.int .u64 263174, .int .u64 0, .int .u64 0, .int .u64 0, .int .u64 0, .int .u64 0, .int .u64 0, .int .u64 0]) 26 ∧ Blk w20 w3.heap.size (#[.int .i64 2, .int .i64 0, .int .i64 2, .int .i64 0]) 23 ∧ Blk w20 w4.heap.size (#[.int .i64 3, .int .i64 0, .int .i64 2, .int .i64 0]) 23 ∧ Blk w20 w7.heap.size (#[.int .i64 x1, .int .i64 x2, .int .i64 x3, .int .i64 x4]) 23 ∧ Blk w20 w10.heap.size (#[.int .i64 0, .int .i64 0, .int .i64 0, .int .i64 0]) 23 ∧ Blk w20 w11.heap.size (#[.int .u64 460039, .int .u64 0, .int .u64 0, .int .u64 0, .int .u64 0, .int .u64 0, .int .u64 0, .int .u64 0]) 26 ∧ Blk w20 w16.heap.size (#[.int .i64 0, .int .i64 1, .int .i64 2, .int .i64 3, .int .i64 8, .int .i64 9, .int .i64 10, .int .i64 11]) 3) := Lib.hid ⟨bel_trans HB19.out.1 hb, HB19.out.2.1.grow hb, HB19.out.2.2.1.grow hb, HB19.out.2.2.2.1.grow hb, HB19.out.2.2.2.2.1.grow hb, HB19.out.2.2.2.2.2.1.grow hb, HB19.out.2.2.2.2.2.2.1.grow hb, HB19.out.2.2.2.2.2.2.2.grow hb⟩
 clear hb
 go_wp2_with fail
 refine (Heu.out _ HB20.out.1).mono ?_
 rintro e w21 ⟨rfl, hb⟩
 have HB21 : Hid (Below w.heap.size w w21 ∧ Blk w21 w2.heap.size (#[.int .u64 263174, .int .u64 0, .int .u64 0, .int .u64 0, .int .u64 0, .int .u64 0, .int .u64 0, .int .u64 0]) 26 ∧ Blk w21 w3.heap.size (#[.int .i64 2, .int .i64 0, .int .i64 2, .int .i64 0]) 23 ∧ Blk w21 w4.heap.size (#[.int .i64 3, .int .i64 0, .int .i64 2, .int .i64 0]) 23 ∧ Blk w21 w7.heap.size (#[.int .i64 x1, .int .i64 x2, .int .i64 x3, .int .i64 x4]) 23 ∧ Blk w21 w10.heap.size (#[.int .i64 0, .int .i64 0, .int .i64 0, .int .i64 0]) 23 ∧ Blk w21 w11.heap.size (#[.int .u64 460039, .int .u64 0, .int .u64 0, .int .u64 0, .int .u64 0, .int .u64 0, .int .u64 0, .int .u64 0]) 26 ∧ Blk w21 w16.heap.size (#[.int .i64 0, .int .i64 1, .int .i64 2, .int .i64 3, .int .i64 8, .int .i64 9, .int .i64 10, .int .i64 11]) 3) := Lib.hid ⟨bel_trans HB20.out.1 hb, HB20.out.2.1.grow hb, HB20.out.2.2.1.grow hb, HB20.out.2.2.2.1.grow hb, HB20.out.2.2.2.2.1.grow hb, HB20.out.2.2.2.2.2.1.grow hb, HB20.out.2.2.2.2.2.2.1.grow hb, HB20.out.2.2.2.2.2.2.2.grow hb⟩
 clear hb
 go_wp2_with fail
 refine (Hr.out _ HB21.out.1).mono ?_
 rintro e w22 ⟨rfl, hb⟩
 have HB22 : Hid (Below w.heap.size w w22 ∧ Blk w22 w2.heap.size (#[.int .u64 263174, .int .u64 0, .int .u64 0, .int .u64 0, .int .u64 0, .int .u64 0, .int .u64 0, .int .u64 0]) 26 ∧ Blk w22 w3.heap.size (#[.int .i64 2, .int .i64 0, .int .i64 2, .int .i64 0]) 23 ∧ Blk w22 w4.heap.size (#[.int .i64 3, .int .i64 0, .int .i64 2, .int .i64 0]) 23 ∧ Blk w22 w7.heap.size (#[.int .i64 x1, .int .i64 x2, .int .i64 x3, .int .i64 x4]) 23 ∧ Blk w22 w10.heap.size (#[.int .i64 0, .int .i64 0, .int .i64 0, .int .i64 0]) 23 ∧ Blk w22 w11.heap.size (#[.int .u64 460039, .int .u64 0, .int .u64 0, .int .u64 0, .int .u64 0, .int .u64 0, .int .u64 0, .int .u64 0]) 26 ∧ Blk w22 w16.heap.size (#[.int .i64 0, .int .i64 1, .int .i64 2, .int .i64 3, .int .i64 8, .int .i64 9, .int .i64 10, .int .i64 11]) 3) := Lib.hid ⟨bel_trans HB21.out.1 hb, HB21.out.2.1.grow hb, HB21.out.2.2.1.grow hb, HB21.out.2.2.2.1.grow hb, HB21.out.2.2.2.2.1.grow hb, HB21.out.2.2.2.2.2.1.grow hb, HB21.out.2.2.2.2.2.2.1.grow hb, HB21.out.2.2.2.2.2.2.2.grow hb⟩
 clear hb
 go_wp2_with fail
 refine (Htu.out _ HB22.out.1).mono ?_
 rintro e w23 ⟨rfl, hb⟩
 have HB23 : Hid (Below w.heap.size w w23 ∧ Blk w23 w2.heap.size (#[.int .u64 263174, .int .u64 0, .int .u64 0, .int .u64 0, .int .u64 0, .int .u64 0, .int .u64 0, .int .u64 0]) 26 ∧ Blk w23 w3.heap.size (#[.int .i64 2, .int .i64 0, .int .i64 2, .int .i64 0]) 23 ∧ Blk w23 w4.heap.size (#[.int .i64 3, .int .i64 0, .int .i64 2, .int .i64 0]) 23 ∧ Blk w23 w7.heap.size (#[.int .i64 x1, .int .i64 x2, .int .i64 x3, .int .i64 x4]) 23 ∧ Blk w23 w10.heap.size (#[.int .i64 0, .int .i64 0, .int .i64 0, .int .i64 0]) 23 ∧ Blk w23 w11.heap.size (#[.int .u64 460039, .int .u64 0, .int .u64 0, .int .u64 0, .int .u64 0, .int .u64 0, .int .u64 0, .int .u64 0]) 26 ∧ Blk w23 w16.heap.size (#[.int .i64 0, .int .i64 1, .int .i64 2, .int .i64 3, .int .i64 8, .int .i64 9, .int .i64 10, .int .i64 11]) 3) := Lib.hid ⟨bel_trans HB22.out.1 hb, HB22.out.2.1.grow hb, HB22.out.2.2.1.grow hb, HB22.out.2.2.2.1.grow hb, HB22.out.2.2.2.2.1.grow hb, HB22.out.2.2.2.2.2.1.grow hb, HB22.out.2.2.2.2.2.2.1.grow hb, HB22.out.2.2.2.2.2.2.2.grow hb⟩
 clear hb
 go_wp2_with fail
 refine (Hr.out _ HB23.out.1).mono ?_
 rintro e w24 ⟨rfl, hb⟩
 have HB24 : Hid (Below w.heap.size w w24 ∧ Blk w24 w2.heap.size (#[.int .u64 263174, .int .u64 0, .int .u64 0, .int .u64 0, .int .u64 0, .int .u64 0, .int .u64 0, .int .u64 0]) 26 ∧ Blk w24 w3.heap.size (#[.int .i64 2, .int .i64 0, .int .i64 2, .int .i64 0]) 23 ∧ Blk w24 w4.heap.size (#[.int .i64 3, .int .i64 0, .int .i64 2, .int .i64 0]) 23 ∧ Blk w24 w7.heap.size (#[.int .i64 x1, .int .i64 x2, .int .i64 x3, .int .i64 x4]) 23 ∧ Blk w24 w10.heap.size (#[.int .i64 0, .int .i64 0, .int .i64 0, .int .i64 0]) 23 ∧ Blk w24 w11.heap.size (#[.int .u64 460039, .int .u64 0, .int .u64 0, .int .u64 0, .int .u64 0, .int .u64 0, .int .u64 0, .int .u64 0]) 26 ∧ Blk w24 w16.heap.size (#[.int .i64 0, .int .i64 1, .int .i64 2, .int .i64 3, .int .i64 8, .int .i64 9, .int .i64 10, .int .i64 11]) 3) := Lib.hid ⟨bel_trans HB23.out.1 hb, HB23.out.2.1.grow hb, HB23.out.2.2.1.grow hb, HB23.out.2.2.2.1.grow hb, HB23.out.2.2.2.2.1.grow hb, HB23.out.2.2.2.2.2.1.grow hb, HB23.out.2.2.2.2.2.2.1.grow hb, HB23.out.2.2.2.2.2.2.2.grow hb⟩
 clear hb
 go_wp2_with fail
 refine (Hsk.out _ HB24.out.1).mono ?_
 rintro e w25 ⟨rfl, hb⟩
 have HB25 : Hid (Below w.heap.size w w25 ∧ Blk w25 w2.heap.size (#[.int .u64 263174, .int .u64 0, .int .u64 0, .int .u64 0, .int .u64 0, .int .u64 0, .int .u64 0, .int .u64 0]) 26 ∧ Blk w25 w3.heap.size (#[.int .i64 2, .int .i64 0, .int .i64 2, .int .i64 0]) 23 ∧ Blk w25 w4.heap.size (#[.int .i64 3, .int .i64 0, .int .i64 2, .int .i64 0]) 23 ∧ Blk w25 w7.heap.size (#[.int .i64 x1, .int .i64 x2, .int .i64 x3, .int .i64 x4]) 23 ∧ Blk w25 w10.heap.size (#[.int .i64 0, .int .i64 0, .int .i64 0, .int .i64 0]) 23 ∧ Blk w25 w11.heap.size (#[.int .u64 460039, .int .u64 0, .int .u64 0, .int .u64 0, .int .u64 0, .int .u64 0, .int .u64 0, .int .u64 0]) 26 ∧ Blk w25 w16.heap.size (#[.int .i64 0, .int .i64 1, .int .i64 2, .int .i64 3, .int .i64 8, .int .i64 9, .int .i64 10, .int .i64 11]) 3) := Lib.hid ⟨bel_trans HB24.out.1 hb, HB24.out.2.1.grow hb, HB24.out.2.2.1.grow hb, HB24.out.2.2.2.1.grow hb, HB24.out.2.2.2.2.1.grow hb, HB24.out.2.2.2.2.2.1.grow hb, HB24.out.2.2.2.2.2.2.1.grow hb, HB24.out.2.2.2.2.2.2.2.grow hb⟩
 clear hb
 go_upto_region 12 with fail
 obtain ⟨wD, hwD⟩ : ∃ wD, wD = w25 := ⟨_, rfl⟩
 have HD : Hid (Below w.heap.size w wD ∧ Blk wD w2.heap.size (#[.int .u64 263174, .int .u64 0, .int .u64 0, .int .u64 0, .int .u64 0, .int .u64 0, .int .u64 0, .int .u64 0]) 26 ∧ Blk wD w3.heap.size (#[.int .i64 2, .int .i64 0, .int .i64 2, .int .i64 0]) 23 ∧ Blk wD w4.heap.size (#[.int .i64 3, .int .i64 0, .int .i64 2, .int .i64 0]) 23 ∧ Blk wD w7.heap.size (#[.int .i64 x1, .int .i64 x2, .int .i64 x3, .int .i64 x4]) 23 ∧ Blk wD w10.heap.size (#[.int .i64 0, .int .i64 0, .int .i64 0, .int .i64 0]) 23 ∧ Blk wD w11.heap.size (#[.int .u64 460039, .int .u64 0, .int .u64 0, .int .u64 0, .int .u64 0, .int .u64 0, .int .u64 0, .int .u64 0]) 26 ∧ Blk wD w16.heap.size (#[.int .i64 0, .int .i64 1, .int .i64 2, .int .i64 3, .int .i64 8, .int .i64 9, .int .i64 10, .int .i64 11]) 3) := Lib.hid (by rw [hwD]; exact HB25.out)
 rw [← hwD]
 clear hwD
 refine wp_region_val Grows (fun _ _ _ => True) [Is (.bool true), Is (.bool true), Is (.bool true), Is (.bool true), Is (.bool true), Is (.agg #[.int .u64 1, .int .u64 512, .int .u64 0, .int .u64 0, .int .u64 0, .int .u64 0, .int .u64 0, .int .u64 0]), IsLen 1, Is (.int .i64 1), Is (.bool true), Is (.bool true), Is (.bool true), Is (.agg #[.int .u64 263, .int .u64 0, .int .u64 0, .int .u64 0, .int .u64 0, .int .u64 0, .int .u64 0, .int .u64 0]), Is (.agg #[.int .u64 263174, .int .u64 0, .int .u64 0, .int .u64 0, .int .u64 0, .int .u64 0, .int .u64 0, .int .u64 0]), Is (.bool true), Is (.bool true), Is (.bool true)] (by kernel_rfl) (by kernel_rfl) rfl Grows.refl (fun _ _ _ => Grows.trans) (stable_mem ⟨fun _ _ _ h _ => h, fun _ _ _ h _ => h, fun _ _ _ h _ => h, fun _ _ _ h _ => h, fun _ _ _ h _ => h, fun _ _ _ h _ => h, fun _ _ _ h _ => h, fun _ _ _ h _ => h, fun _ _ _ h _ => h, fun _ _ _ h _ => h, fun _ _ _ h _ => h, fun _ _ _ h _ => h, fun _ _ _ h _ => h, fun _ _ _ h _ => h, fun _ _ _ h _ => h, fun _ _ _ h _ => h, trivial⟩) wD (Below.drew (Below.refl _ _)) trivial ?_
 refine val_cons ?_ (fun v0 => ?_)
 ·intro L vs w1 hvs hat hb hI hF; try simp [factsI, Region.binds, Is] at hF
  have hc := (Grows.cells hb).1
  clear hI
  go_simp
  try simp [upd]
  try first | exact Grows.refl _ | exact trivial | exact ⟨Grows.refl _, trivial⟩
 refine val_cons ?_ (fun v1 => ?_)
 ·intro L vs w1 hvs hat hb hI hF; try simp [factsI, Region.binds, Is] at hF
  have hc := (Grows.cells hb).1
  clear hI
  go_simp
  try simp [upd]
  try first | exact Grows.refl _ | exact trivial | exact ⟨Grows.refl _, trivial⟩
 refine val_cons ?_ (fun v2 => ?_)
 ·intro L vs w1 hvs hat hb hI hF; try simp [factsI, Region.binds, Is] at hF
  have hc := (Grows.cells hb).1
  clear hI
  go_simp
  try simp [upd]
  try first | exact Grows.refl _ | exact trivial | exact ⟨Grows.refl _, trivial⟩
 refine val_cons ?_ (fun v3 => ?_)
 ·intro L vs w1 hvs hat hb hI hF; try simp [factsI, Region.binds, Is] at hF
  have hc := (Grows.cells hb).1
  clear hI
  go_simp
  try simp [upd]
  try first | exact Grows.refl _ | exact trivial | exact ⟨Grows.refl _, trivial⟩
 refine val_cons ?_ (fun v4 => ?_)
 ·intro L vs w1 hvs hat hb hI hF; try simp [factsI, Region.binds, Is] at hF
  have hc := (Grows.cells hb).1
  clear hI
  go_simp
  try simp [upd]
  try first | exact Grows.refl _ | exact trivial | exact ⟨Grows.refl _, trivial⟩
 refine val_cons ?_ (fun v5 => ?_)
 ·intro L vs w1 hvs hat hb hI hF; try simp [factsI, Region.binds, Is] at hF
  have hc := (Grows.cells hb).1
  clear hI
  go_simp
  try simp [upd]
  try first | exact Grows.refl _ | exact trivial | exact ⟨Grows.refl _, trivial⟩
 refine val_cons ?_ (fun v6 => ?_)
 ·intro L vs w1 hvs hat hb hI hF; try simp [factsI, Region.binds, Is] at hF
  have hbw := bel_trans HD.out.1 (show Below wD.heap.size wD w1 from hb)
  go_simp
  refine (Hpa.out _ hbw).mono ?_
  rintro e w3 ⟨⟨p3, p4, rfl⟩, hb3⟩
  first | exact ⟨_, rfl, hb3, ⟨p3, p4, rfl⟩⟩ | exact ⟨_, rfl, hb3, trivial, ⟨p3, p4, rfl⟩⟩ | exact ⟨_, rfl, ⟨p3, p4, rfl⟩, hb3⟩
 refine val_cons ?_ (fun v7 => ?_)
 ·intro L vs w1 hvs hat hb hI hF; try simp [factsI, Region.binds, Is] at hF
  have hL : IsLen 1 v6 w1 := by first | exact hF | exact hF.1 | exact hF.2 | exact hF.1.1 | exact hF.1.2 | exact hF.2.1 | exact hF.2.2
  obtain ⟨p3, p4, hv⟩ := hL
  subst hv
  go_simp
  first | exact Grows.refl _ | exact ⟨Grows.refl _, trivial⟩
 refine val_cons ?_ (fun v8 => ?_)
 ·intro L vs w1 hvs hat hb hI hF; try simp [factsI, Region.binds, Is] at hF
  have hc := (Grows.cells hb).1
  clear hI
  go_simp
  try simp [upd]
  try first | exact Grows.refl _ | exact trivial | exact ⟨Grows.refl _, trivial⟩
 refine val_cons ?_ (fun v9 => ?_)
 ·intro L vs w1 hvs hat hb hI hF; try simp [factsI, Region.binds, Is] at hF
  have hc := (Grows.cells hb).1
  clear hI
  go_simp
  try simp [upd]
  try first | exact Grows.refl _ | exact trivial | exact ⟨Grows.refl _, trivial⟩
 refine val_cons ?_ (fun v10 => ?_)
 ·intro L vs w1 hvs hat hb hI hF; try simp [factsI, Region.binds, Is] at hF
  have hc := (Grows.cells hb).1
  clear hI
  go_simp
  try simp [upd]
  try first | exact Grows.refl _ | exact trivial | exact ⟨Grows.refl _, trivial⟩
 refine val_cons ?_ (fun v11 => ?_)
 ·intro L vs w1 hvs hat hb hI hF; try simp [factsI, Region.binds, Is] at hF
  have hbw := bel_trans HD.out.1 (show Below wD.heap.size wD w1 from hb)
  go_simp
  refine (Hh.out _ hbw).mono ?_
  rintro e w3 ⟨rfl, hb3⟩
  exact ⟨rfl, hb3⟩
 refine val_cons ?_ (fun v12 => ?_)
 ·intro L vs w1 hvs hat hb hI hF; try simp [factsI, Region.binds, Is] at hF
  have D := (HD.out.2.1).grow (show Below _ _ _ from hb); have cD := D.cell; have lD := D.lt; clear D
  go_simp
  first | exact Grows.refl _ | exact ⟨Grows.refl _, trivial⟩
 refine val_cons ?_ (fun v13 => ?_)
 ·intro L vs w1 hvs hat hb hI hF; try simp [factsI, Region.binds, Is] at hF
  have hbw := bel_trans HD.out.1 (show Below wD.heap.size wD w1 from hb)
  go_simp
  refine (Hsm.out _ hbw).mono ?_
  rintro e w3 ⟨rfl, hb3⟩
  exact ⟨rfl, hb3⟩
 refine val_cons ?_ (fun v14 => ?_)
 ·intro L vs w1 hvs hat hb hI hF; try simp [factsI, Region.binds, Is] at hF
  have hc := (Grows.cells hb).1
  clear hI
  go_simp
  try simp [upd]
  try first | exact Grows.refl _ | exact trivial | exact ⟨Grows.refl _, trivial⟩
 refine val_cons ?_ (fun v15 => ?_)
 ·intro L vs w1 hvs hat hb hI hF; try simp [factsI, Region.binds, Is] at hF
  have hc := (Grows.cells hb).1
  clear hI
  go_simp
  try simp [upd]
  try first | exact Grows.refl _ | exact trivial | exact ⟨Grows.refl _, trivial⟩
 refine val_nil ?_
 intro vs w1 hvs hb hI hF
 simp [Is, Nat.forall_lt_succ_right] at hF
 have e0 := hF.1.1.1.1.1.1.1.1.1.1.1.1.1.1.1
 have e1 := hF.1.1.1.1.1.1.1.1.1.1.1.1.1.1.2
 have e2 := hF.1.1.1.1.1.1.1.1.1.1.1.1.1.2
 have e3 := hF.1.1.1.1.1.1.1.1.1.1.1.1.2
 have e4 := hF.1.1.1.1.1.1.1.1.1.1.1.2
 have e5 := hF.1.1.1.1.1.1.1.1.1.1.2
 have e6 := hF.1.1.1.1.1.1.1.1.1.2
 have e7 := hF.1.1.1.1.1.1.1.1.2
 have e8 := hF.1.1.1.1.1.1.1.2
 have e9 := hF.1.1.1.1.1.1.2
 have e10 := hF.1.1.1.1.1.2
 have e11 := hF.1.1.1.1.2
 have e12 := hF.1.1.1.2
 have e13 := hF.1.1.2
 have e14 := hF.1.2
 have e15 := hF.2
 clear hF
 simp only [Act.put, List.setIfInBounds_toArray, List.set_cons_succ, List.set_cons_zero, e0, e1, e2, e3, e4, e5, e7, e8, e9, e10, e11, e12, e13, e14, e15]
 clear e0 e1 e2 e3 e4 e5 e7 e8 e9 e10 e11 e12 e13 e14 e15
 have hbw := Lib.hid (bel_trans HD.out.1 (show Below wD.heap.size wD w1 from hb))
 clear hb hvs
 go_wp2_with fail
 go_ret
 exact ⟨rfl, hbw.out⟩
end Go.Proofs.YtkfimbonmnoglaaGreatDoor
end
