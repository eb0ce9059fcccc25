import Derived.Test.YtkcpnhigekopaaaDoorG19
import Derived.Maps.OwnSet
import Derived.Maps.Views
import Derived.DeepKeys4
/-
  Given contracts of functions of the program, and laws for them, one behind the other.
-/
set_option linter.unusedVariables false
set_option linter.unusedSimpArgs false
set_option linter.unusedSectionVars false
section
namespace Go.Proofs.YtkcpnhigekopaaaDoor
open Go.RowKit Go.Rel Go.Draw
set_option maxRecDepth 100000
/-! worlds of which one block alone has turned -/
/-- the first z words of b, the others of a -/
def mixZ (a b : Sol) (z : Nat) : Array Value := mixA fun i => if i < z then pl b i else pl a i
theorem mixZ_get (a b : Sol) {z : Nat} (hz : z < 8) : (mixZ a b z)[z]? = some (.int .u64 (pl a z)) := by unfold mixZ; rw [mixA_get _ hz]; simp
theorem mixZ_set (a b : Sol) {z : Nat} (hz : z < 8) : (mixZ a b z).setIfInBounds z (.int .u64 (pl b z)) = mixZ a b (z + 1) := by
 unfold mixZ
 rw [mixA_set _ hz]
 refine mixA_eq fun i _ => ?_
 by_cases e : i = z
 ·subst e; simp
 ·simp only [e, if_false]
  by_cases h : i < z
  ·rw [if_pos h, if_pos (by omega)]
  ·rw [if_neg h, if_neg (by omega)]
theorem mixZ_start (a b : Sol) : mixZ a b 0 = #[.int .u64 (pl a 0), .int .u64 (pl a 1), .int .u64 (pl a 2), .int .u64 (pl a 3), .int .u64 (pl a 4), .int .u64 (pl a 5), .int .u64 (pl a 6), .int .u64 (pl a 7)] := rfl
theorem mixZ_end (a b : Sol) : mixZ a b 8 = #[.int .u64 (pl b 0), .int .u64 (pl b 1), .int .u64 (pl b 2), .int .u64 (pl b 3), .int .u64 (pl b 4), .int .u64 (pl b 5), .int .u64 (pl b 6), .int .u64 (pl b 7)] := by unfold mixZ; exact mixA_eq (g := fun i => pl b i) (fun i hi => by simp [hi])
theorem getS (s : Sol) {Z : Nat} (hZ : Z < 8) (h : Z < ([.int .u64 (pl s 0), .int .u64 (pl s 1), .int .u64 (pl s 2), .int .u64 (pl s 3), .int .u64 (pl s 4), .int .u64 (pl s 5), .int .u64 (pl s 6), .int .u64 (pl s 7)] : List Value).length) : ([.int .u64 (pl s 0), .int .u64 (pl s 1), .int .u64 (pl s 2), .int .u64 (pl s 3), .int .u64 (pl s 4), .int .u64 (pl s 5), .int .u64 (pl s 6), .int .u64 (pl s 7)] : List Value)[Z]'h = .int .u64 (pl s Z) := by
 obtain rfl | rfl | rfl | rfl | rfl | rfl | rfl | rfl : Z = 0 ∨ Z = 1 ∨ Z = 2 ∨ Z = 3 ∨ Z = 4 ∨ Z = 5 ∨ Z = 6 ∨ Z = 7 := by omega
 all_goals rfl
end Go.Proofs.YtkcpnhigekopaaaDoor
end
section
namespace Go.Proofs.YtkcpnhigekopaaaDoor
open Go.RowKit Go.Rel Go.Draw Go.Solid
set_option maxRecDepth 100000
/-! in, inside, bit of the program -/
abbrev clV (c : Go.Solid.Cl) : Value := .agg #[.int .i64 c.1, .int .i64 c.2.1, .int .i64 c.2.2]
theorem in_spec (n a b : Int) (w : World) : Calls Tryd.prog 17 #[.int .i64 n, .int .i64 a, .int .i64 b] w fun e w' => e = .returned (.bool (decide (a ≤ n) && decide (n ≤ b))) ∧ w' = w := by
 go_enter Tryd.func17, Tryd.ntmps17
 go_wp2_with fail
 all_goals (go_ret; exact ⟨ret_bool (by simp [*] <;> omega), rfl⟩)
theorem in7_spec (n : Int) (w : World) : Calls Tryd.prog 17 #[.int .i64 n, .int .i64 0, .int .i64 7] w fun e w' => e = .returned (.bool (in7 n)) ∧ w' = w := in_spec n 0 7 w
set_option maxHeartbeats 4000000 in
theorem inside_spec (c : Go.Solid.Cl) (w : World) : Calls Tryd.prog 31 #[clV c] w fun e w' => e = .returned (.bool (inG c)) ∧ Below w.heap.size w w' := by
 obtain ⟨x, y, z⟩ := c
 have hg : inG (x, y, z) = (in7 x && in7 y && in7 z) := rfl
 rw [hg]
 have HX := Lib.hid fun W => in7_spec x W
 have HY := Lib.hid fun W => in7_spec y W
 have HZ := Lib.hid fun W => in7_spec z W
 clear hg
 cases hx : in7 x with
 | false =>
  rw [hx] at HX
  clear hx
  go_enter Tryd.func31, Tryd.ntmps31
  go_wp2_with fail
  refine (HX.out _).mono ?_
  rintro e w1 ⟨rfl, rfl⟩
  go_wp2_with fail
  go_ret
  exact ⟨rfl, (by repeat (first | with_reducible exact bel_refl _ | with_reducible assumption | with_reducible refine bel_drewN ?_ _ | with_reducible refine bel_drew ?_ | with_reducible refine bel_alloc ?_ _ | with_reducible refine bel_row ?_ ?_ _ | with_reducible refine bel_set ?_ ?_ _ | refine bel_trans ?_ (by with_reducible assumption) | (simp; done) | (simp; omega)))⟩
 | true =>
  rw [hx] at HX
  clear hx
  cases hy : in7 y with
  | false =>
   rw [hy] at HY
   clear hy
   go_enter Tryd.func31, Tryd.ntmps31
   go_wp2_with fail
   refine (HX.out _).mono ?_
   rintro e w1 ⟨rfl, rfl⟩
   go_wp2_with fail
   refine (HY.out _).mono ?_
   rintro e w1 ⟨rfl, rfl⟩
   go_wp2_with fail
   go_ret
   exact ⟨rfl, (by repeat (first | with_reducible exact bel_refl _ | with_reducible assumption | with_reducible refine bel_drewN ?_ _ | with_reducible refine bel_drew ?_ | with_reducible refine bel_alloc ?_ _ | with_reducible refine bel_row ?_ ?_ _ | with_reducible refine bel_set ?_ ?_ _ | refine bel_trans ?_ (by with_reducible assumption) | (simp; done) | (simp; omega)))⟩
  | true =>
   rw [hy] at HY
   clear hy
   obtain ⟨b, hb⟩ : ∃ b, b = in7 z := ⟨_, rfl⟩
   rw [← hb] at HZ ⊢
   clear hb
   go_enter Tryd.func31, Tryd.ntmps31
   go_wp2_with fail
   refine (HX.out _).mono ?_
   rintro e w1 ⟨rfl, rfl⟩
   go_wp2_with fail
   refine (HY.out _).mono ?_
   rintro e w1 ⟨rfl, rfl⟩
   go_wp2_with fail
   refine (HZ.out _).mono ?_
   rintro e w1 ⟨rfl, rfl⟩
   go_wp2_with fail
   go_ret
   exact ⟨ret_bool (by simp), (by repeat (first | with_reducible exact bel_refl _ | with_reducible assumption | with_reducible refine bel_drewN ?_ _ | with_reducible refine bel_drew ?_ | with_reducible refine bel_alloc ?_ _ | with_reducible refine bel_row ?_ ?_ _ | with_reducible refine bel_set ?_ ?_ _ | refine bel_trans ?_ (by with_reducible assumption) | (simp; done) | (simp; omega)))⟩
/-- the bit of a cell, in its plane -/
def bitP (c : Go.Solid.Cl) : U := 1#64 <<< (8 * c.2.1 + c.1).toNat
theorem bitP_val {n : Nat} (h : n < 64) : IntKind.u64.wrap (2 ^ n : Int) = uI (1#64 <<< n) := by
 have := shl_u 1#64 n
 rw [show uI 1#64 = 1 from uI_one, Int.one_mul] at this
 rw [← this]
 congr 1
set_option maxHeartbeats 4000000 in
theorem bit_spec {c : Go.Solid.Cl} (h : inG c = true) (w : World) : Calls Tryd.prog 32 #[clV c] w fun e w' => e = .returned (.int .u64 (uI (bitP c))) ∧ Below w.heap.size w w' := by
 obtain ⟨x, y, z⟩ := c
 have hG := inG_iff.1 h
 simp only at hG
 obtain ⟨X, rfl⟩ : ∃ X : Nat, x = X := ⟨x.toNat, by omega⟩
 obtain ⟨Y, rfl⟩ : ∃ X : Nat, y = X := ⟨y.toNat, by omega⟩
 have hn : 8 * Y + X < 64 := by omega
 go_enter Tryd.func32, Tryd.ntmps32
 go_wp2_with fail
 go_ret
 refine ⟨?_, (by repeat (first | with_reducible exact bel_refl _ | with_reducible assumption | with_reducible refine bel_drewN ?_ _ | with_reducible refine bel_drew ?_ | with_reducible refine bel_alloc ?_ _ | with_reducible refine bel_row ?_ ?_ _ | with_reducible refine bel_set ?_ ?_ _ | refine bel_trans ?_ (by with_reducible assumption) | (simp; done) | (simp; omega)))⟩
 rw [bitP_val hn]
 unfold bitP
 rw [show (8 * (Y : Int) + (X : Int)).toNat = 8 * Y + X by omega]
 rfl
end Go.Proofs.YtkcpnhigekopaaaDoor
end
section
namespace Go.Proofs.YtkcpnhigekopaaaDoor
open Go.RowKit Go.Rel Go.Draw Go.Solid
set_option maxRecDepth 100000
attribute [local go_sem] Oper.semAt_some
/-! the cells of a solid, one after the other -/
theorem idxS0 (a0 a1 a2 a3 a4 a5 a6 a7 : Int) (w : World) : (Instr.index 29 (.agg #[.int .u64 a0, .int .u64 a1, .int .u64 a2, .int .u64 a3, .int .u64 a4, .int .u64 a5, .int .u64 a6, .int .u64 a7]) (.int .i64 0)).run Tryd.prog w = .ok (.int .u64 a0) w := by kernel_rfl
theorem idxS1 (a0 a1 a2 a3 a4 a5 a6 a7 : Int) (w : World) : (Instr.index 29 (.agg #[.int .u64 a0, .int .u64 a1, .int .u64 a2, .int .u64 a3, .int .u64 a4, .int .u64 a5, .int .u64 a6, .int .u64 a7]) (.int .i64 1)).run Tryd.prog w = .ok (.int .u64 a1) w := by kernel_rfl
theorem idxS2 (a0 a1 a2 a3 a4 a5 a6 a7 : Int) (w : World) : (Instr.index 29 (.agg #[.int .u64 a0, .int .u64 a1, .int .u64 a2, .int .u64 a3, .int .u64 a4, .int .u64 a5, .int .u64 a6, .int .u64 a7]) (.int .i64 2)).run Tryd.prog w = .ok (.int .u64 a2) w := by kernel_rfl
theorem idxS3 (a0 a1 a2 a3 a4 a5 a6 a7 : Int) (w : World) : (Instr.index 29 (.agg #[.int .u64 a0, .int .u64 a1, .int .u64 a2, .int .u64 a3, .int .u64 a4, .int .u64 a5, .int .u64 a6, .int .u64 a7]) (.int .i64 3)).run Tryd.prog w = .ok (.int .u64 a3) w := by kernel_rfl
theorem idxS4 (a0 a1 a2 a3 a4 a5 a6 a7 : Int) (w : World) : (Instr.index 29 (.agg #[.int .u64 a0, .int .u64 a1, .int .u64 a2, .int .u64 a3, .int .u64 a4, .int .u64 a5, .int .u64 a6, .int .u64 a7]) (.int .i64 4)).run Tryd.prog w = .ok (.int .u64 a4) w := by kernel_rfl
theorem idxS5 (a0 a1 a2 a3 a4 a5 a6 a7 : Int) (w : World) : (Instr.index 29 (.agg #[.int .u64 a0, .int .u64 a1, .int .u64 a2, .int .u64 a3, .int .u64 a4, .int .u64 a5, .int .u64 a6, .int .u64 a7]) (.int .i64 5)).run Tryd.prog w = .ok (.int .u64 a5) w := by kernel_rfl
theorem idxS6 (a0 a1 a2 a3 a4 a5 a6 a7 : Int) (w : World) : (Instr.index 29 (.agg #[.int .u64 a0, .int .u64 a1, .int .u64 a2, .int .u64 a3, .int .u64 a4, .int .u64 a5, .int .u64 a6, .int .u64 a7]) (.int .i64 6)).run Tryd.prog w = .ok (.int .u64 a6) w := by kernel_rfl
theorem idxS7 (a0 a1 a2 a3 a4 a5 a6 a7 : Int) (w : World) : (Instr.index 29 (.agg #[.int .u64 a0, .int .u64 a1, .int .u64 a2, .int .u64 a3, .int .u64 a4, .int .u64 a5, .int .u64 a6, .int .u64 a7]) (.int .i64 7)).run Tryd.prog w = .ok (.int .u64 a7) w := by kernel_rfl
theorem idxS (s : Sol) {k : Nat} (h : k < 8) (w : World) : (Instr.index 29 (.agg #[.int .u64 (pl s 0), .int .u64 (pl s 1), .int .u64 (pl s 2), .int .u64 (pl s 3), .int .u64 (pl s 4), .int .u64 (pl s 5), .int .u64 (pl s 6), .int .u64 (pl s 7)]) (.int .i64 (k : Int))).run Tryd.prog w = .ok (.int .u64 (uI (plv s k))) w := by
 rw [← pl_uI]
 obtain rfl | rfl | rfl | rfl | rfl | rfl | rfl | rfl : k = 0 ∨ k = 1 ∨ k = 2 ∨ k = 3 ∨ k = 4 ∨ k = 5 ∨ k = 6 ∨ k = 7 := by omega
 ·exact idxS0 _ _ _ _ _ _ _ _ w
 ·exact idxS1 _ _ _ _ _ _ _ _ w
 ·exact idxS2 _ _ _ _ _ _ _ _ w
 ·exact idxS3 _ _ _ _ _ _ _ _ w
 ·exact idxS4 _ _ _ _ _ _ _ _ w
 ·exact idxS5 _ _ _ _ _ _ _ _ w
 ·exact idxS6 _ _ _ _ _ _ _ _ w
 ·exact idxS7 _ _ _ _ _ _ _ _ w
theorem Tab.keep {w w' : World} {Wr : Nat → Prop} (h : Tab w) (hk : KeepsBut Wr w w') (hn : ¬ Wr 0) : Tab w' := fun k hk2 => by
 have e := hk.2 _ h.lt hn
 have := h k hk2
 unfold World.cell? at this ⊢
 rw [e]; exact this
theorem cellsS_from (s : Sol) : cellsS s = (cellsFrom s 8).map cellN := by
 unfold cellsS bitsS
 rw [cells_filter]
theorem cellN_low (z : Nat) {q : U} (h : q ≠ 0) : clV (cellN (64 * z + lowU q)) = .agg #[.int .i64 ((lowU q : Int) % 8), .int .i64 ((lowU q : Int) / 8), .int .i64 (z : Int)] := by
 have hk := (lowU_spec q h).1
 unfold clV cellN
 simp only
 rw [show (64 * z + lowU q) % 8 = lowU q % 8 by omega, show (64 * z + lowU q) / 8 % 8 = lowU q / 8 by omega, show (64 * z + lowU q) / 64 = z by omega]
 rfl
theorem cellsS_len (s : Sol) : (cellsS s).length ≤ 512 := by
 unfold cellsS bitsS
 rw [List.length_map]
 have := List.length_filter_le (fun n => s.getLsbD n) (List.range 512)
 simpa using this
theorem cells_spec (w : World) (s : Sol) : Calls Tryd.prog 30 #[solV s] w fun e w' => e = .returned (.func (.func 47) #[] #[.pointer (some ⟨w.heap.size, 0, none⟩)]) ∧ w' = w.alloc (.cells #[.int .u64 (pl s 0), .int .u64 (pl s 1), .int .u64 (pl s 2), .int .u64 (pl s 3), .int .u64 (pl s 4), .int .u64 (pl s 5), .int .u64 (pl s 6), .int .u64 (pl s 7)] 29) := by
 have hmf' := hmf
 go_enter Tryd.func30, Tryd.ntmps30
 go_wp2_with fail
 go_ret
 exact ⟨rfl, rfl⟩
abbrev GCl := { c : Go.Solid.Cl // inG c = true }
set_option maxHeartbeats 4000000 in
theorem cells1_in {n : Nat} (hn : 1 ≤ n) (lp : Nat) {Wr : Nat → Prop} {W : World} (s : Sol) {bs : Nat} (hbs : Blk W bs #[.int .u64 (pl s 0), .int .u64 (pl s 1), .int .u64 (pl s 2), .int .u64 (pl s 3), .int .u64 (pl s 4), .int .u64 (pl s 5), .int .u64 (pl s 6), .int .u64 (pl s 7)] 29) (hT : Tab W) (hnT : ¬ Wr 0)
  (J Jx : List GCl → World → Prop)
  (hY : ∀ pre y W1, J pre W1 → W.heap.size + 0 ≤ W1.heap.size → pre.length < (cellsS s).length → YieldAt Fence.wide (n - 1) Tryd.prog lp #[clV y.1] W1 fun e W' =>
   (e = .returned (.bool true) ∧ J (pre ++ [y]) W' ∧ KeepsBut Wr W1 W') ∨ (e = .returned (.bool false) ∧ Jx (pre ++ [y]) W')) (h0 : J [] W) :
  CallsIn Fence.wide n Tryd.prog 47 #[.func (.yield lp) #[] #[], .pointer (some ⟨bs, 0, none⟩)] W fun e W' => (∃ v, e = .returned v) ∧ ((∃ xs : List GCl, xs.map (·.1) = cellsS s ∧ J xs W') ∨ (∃ pre : List GCl, pre.map (·.1) <+: cellsS s ∧ Jx pre W')) := by
 refine callsIn_of_wp Tryd.func47 rfl trivial ?_ rfl
 simp only [Tryd.ntmps47, List.size_toArray, List.length_cons, List.length_nil, Nat.reduceAdd, Nat.reduceSub, Array.replicate_succ, Array.replicate_zero, List.push_toArray, List.append_toArray, List.nil_append, List.cons_append]
 have cp := hbs.cell
 have lp' := hbs.lt
 have r0 := hbs.row
 have HF := Lib.hid (And.intro hbs (And.intro hY (And.intro h0 hT))); clear hbs hY h0 hT
 gi_wp2_with fail
 clear cp lp' r0
 gi_loopw [7] (fun sv wx => ∃ (z : Nat) (pre : List GCl), z ≤ 8 ∧ sv = .int .i64 z ∧ Hid (pre.map (·.1) ++ (cellsFrom s (8 - z)).map cellN = cellsS s ∧ J pre wx ∧ Tab wx ∧ W.heap.size ≤ wx.heap.size)) (fun sv _ => 8 - (intOf sv).toNat)
 case atStart => exact ⟨0, [], by omega, rfl, Lib.hid ⟨by rw [cellsS_from]; rfl, HF.out.2.2.1, HF.out.2.2.2, Nat.le_refl _⟩⟩
 case round =>
  obtain ⟨z, pre, hz8, rfl, HI⟩ := hrel
  by_cases hlt : z < 8
  ·have hix := fun w => idxS s hlt w
   have hd8 : decide ((z : Int) < 8) = true := by simp; omega
   gi_wp2_with fail
   obtain ⟨wo, hwo⟩ : ∃ wo, wo = wr := ⟨_, rfl⟩
   subst hwo
   gi_loopw [4] (fun fv wx => ∃ (q : U) (pre : List GCl), fv = .int .u64 (uI q) ∧ Hid (pre.map (·.1) ++ ((planeL z q).map cellN ++ (cellsFrom s (8 - (z + 1))).map cellN) = cellsS s ∧ J pre wx ∧ Tab wx ∧ W.heap.size ≤ wx.heap.size)) (fun fv _ => cardU (BitVec.ofInt 64 (intOf fv)))
   case atStart => exact ⟨plv s z, pre, rfl, Lib.hid ⟨by rw [← HI.out.1, cellsFrom_succ s hlt, List.map_append], HI.out.2⟩⟩
   case round =>
    obtain ⟨q, pre2, rfl, HI2⟩ := hrel
    by_cases hq : q = 0
    ·have e0 : (uI q != 0) = false := by rw [bne_u0, hq]; rfl
     have HQ := Lib.hid hq; clear hq
     gi_wp2_with fail
     go_roundw
     case rel => exact ⟨z + 1, pre2, by omega, by go_num, Lib.hid ⟨by rw [← HI2.out.1, HQ.out, planeL_zero]; rfl, HI2.out.2⟩⟩
     case measure => simp [intOf]; omega
    ·have e0 : (uI q != 0) = true := by rw [bne_u0]; simpa using hq
     have ed := drop_u q
     have HQ := Lib.hid hq; clear hq
     have hlow := (lowU_spec q HQ.out).1
     gi_wp2_with fail
     refine ⟨trivial, (callsIn_wide.2 (tz64_spec q HQ.out _ HI2.out.2.2.1)).mono ?_⟩
     rintro e w1 ⟨rfl, hw1⟩
     have hw2 := hw1.symm
     subst hw2
     clear hw1
     have hg := cellN_in (n := 64 * z + lowU q) (by omega)
     have hpl : pre2.map (·.1) ++ (cellN (64 * z + lowU q) :: ((planeL z (q &&& (q - 1))).map cellN ++ (cellsFrom s (8 - (z + 1))).map cellN)) = cellsS s := by
      rw [← HI2.out.1, planeL_cons z HQ.out]; rfl
     obtain ⟨fn, tm, asg, bdy, hy, hR⟩ := HF.out.2.1 pre2 ⟨cellN (64 * z + lowU q), hg⟩ wr HI2.out.2.1 HI2.out.2.2.2 (by rw [← hpl, List.length_append, List.length_map]; simp)
     have HR := Lib.hid (And.intro hR hpl); clear hR hpl
     have hcl := cellN_low z HQ.out
     try dsimp only at hy
     rw [hcl] at hy
     have HC := Lib.hid hcl; clear hcl
     gi_wp2_with fail
     refine HR.out.1.mono ?_
     rintro e W4 (⟨rfl, hJ4, hk4⟩ | ⟨rfl, hJx4⟩)
     ·have hT4 : Tab W4 := HI2.out.2.2.1.keep hk4 hnT
      have HK4 := Lib.hid (And.intro hJ4 (And.intro hT4 (Nat.le_trans HI2.out.2.2.2 hk4.1))); clear hJ4 hk4 hT4 hy
      gi_wp2_with fail
      go_roundw
      case rel => exact ⟨q &&& (q - 1), pre2 ++ [⟨cellN (64 * z + lowU q), hg⟩], rfl, Lib.hid ⟨by rw [List.map_append, List.append_assoc]; exact HR.out.2, HK4.out⟩⟩
      case measure =>
       show cardU (BitVec.ofInt 64 (uI (q &&& (q - 1)))) < cardU (BitVec.ofInt 64 (uI q))
       rw [ofInt_uI, ofInt_uI]
       have := cardU_drop q HQ.out
       omega
     ·have HX := Lib.hid hJx4; clear hJx4
      gi_wp2_with fail
      refine bodyPost_ret (v := .tuple #[]) (by simp [results, Tryd.results47, go_sem]) rfl ⟨⟨_, rfl⟩, .inr ⟨pre2 ++ [⟨cellN (64 * z + lowU q), hg⟩], ?_, HX.out⟩⟩
      exact ⟨_, by rw [List.map_append, List.append_assoc]; exact HR.out.2⟩
  ·obtain rfl : z = 8 := by omega
   gi_wp2_with fail
   go_end0
   exact ⟨⟨_, rfl⟩, .inl ⟨pre, by simpa [cellsFrom] using HI.out.1, HI.out.2.1⟩⟩
theorem cells_seq {n : Nat} (hn : 1 ≤ n) {Wr : Nat → Prop} {W : World} (s : Sol) {bs : Nat} (hbs : Blk W bs #[.int .u64 (pl s 0), .int .u64 (pl s 1), .int .u64 (pl s 2), .int .u64 (pl s 3), .int .u64 (pl s 4), .int .u64 (pl s 5), .int .u64 (pl s 6), .int .u64 (pl s 7)] 29) (hT : Tab W) (hnT : ¬ Wr 0) :
  SeqC Fence.wide n Tryd.prog 47 #[.pointer (some ⟨bs, 0, none⟩)] (fun y : GCl => #[clV y.1]) Wr 0 (fun xs => xs.map (·.1) = cellsS s) (fun pre => pre.map (·.1) <+: cellsS s) (cellsS s).length W := by
 intro lp J Jx hJ hJx hwr hY h0
 exact cells1_in hn lp s hbs hT hnT J Jx hY h0
end Go.Proofs.YtkcpnhigekopaaaDoor
end
section
namespace Go.Proofs.YtkcpnhigekopaaaDoor
open Go.RowKit Go.Rel Go.Draw Go.Solid
set_option maxRecDepth 100000
/-! a cell set in the words of a solid -/
theorem plv_cell {z j k : Nat} (hz : z < 8) (hj : j < 64) (hk : k < 8) : plv (Go.Solid.one (64 * z + j)) k = if k = z then bit j else 0#64 := by
 apply BitVec.eq_of_getLsbD_eq
 intro i hi
 unfold plv
 rw [BitVec.getLsbD_extractLsb', Go.Solid.one_bit (by omega)]
 by_cases e : k = z
 ·subst e
  rw [if_pos rfl, bit_bit _ _ hj]
  simp [hi]
 ·rw [if_neg e]
  simp [show ¬ (64 * k + i = 64 * z + j) by omega]
theorem cellZ {c : Go.Solid.Cl} (h : inG c = true) : ∃ Z j : Nat, c.2.2 = (Z : Int) ∧ Z < 8 ∧ j < 64 ∧ bitN c = 64 * Z + j ∧ bitP c = bit j := by
 have hG := inG_iff.1 h
 refine ⟨c.2.2.toNat, (8 * c.2.1 + c.1).toNat, by omega, by omega, by omega, ?_, rfl⟩
 unfold bitN
 omega
theorem or_cell (T : Sol) {c : Go.Solid.Cl} (h : inG c = true) {Z : Nat} (hZ : c.2.2 = (Z : Int)) : bits .or .u64 (pl T Z) (uI (bitP c)) = pl (T ||| Go.Solid.one (bitN c)) Z := by
 obtain ⟨Z', j, h1, h2, h3, h4, h5⟩ := cellZ h
 obtain rfl : Z = Z' := by omega
 rw [pl_uI, pl_uI, bits_or_u, plv_or, h4, h5, plv_cell h2 h3 h2, if_pos rfl]
theorem cell_set (T : Sol) {c : Go.Solid.Cl} (h : inG c = true) {Z : Nat} (hZ : c.2.2 = (Z : Int)) : (mixA fun i => pl T i).setIfInBounds Z (.int .u64 (pl (T ||| Go.Solid.one (bitN c)) Z)) = mixA fun i => pl (T ||| Go.Solid.one (bitN c)) i := by
 obtain ⟨Z', j, h1, h2, h3, h4, h5⟩ := cellZ h
 obtain rfl : Z = Z' := by omega
 rw [mixA_set _ h2]
 refine mixA_eq fun i hi => ?_
 by_cases e : i = Z
 ·subst e; simp
 ·simp only [e, if_false]
  rw [pl_uI, pl_uI, plv_or, h4, plv_cell h2 h3 hi, if_neg e]
  congr 1
  simp
theorem getZ (T : Sol) {Z : Nat} (hZ : Z < 8) : (#[.int .u64 (pl T 0), .int .u64 (pl T 1), .int .u64 (pl T 2), .int .u64 (pl T 3), .int .u64 (pl T 4), .int .u64 (pl T 5), .int .u64 (pl T 6), .int .u64 (pl T 7)] : Array Value)[Z]? = some (.int .u64 (pl T Z)) := mixA_get (fun i => pl T i) hZ
end Go.Proofs.YtkcpnhigekopaaaDoor
end
