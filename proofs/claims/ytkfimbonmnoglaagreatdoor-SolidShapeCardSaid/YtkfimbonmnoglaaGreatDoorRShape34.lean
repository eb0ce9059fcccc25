import Derived.Test.YtkfimbonmnoglaaGreatDoorRShape31
import Derived.Deep.Cut
/-
  Given contracts of functions of the program, and laws for them, one behind the other.
-/
set_option linter.unusedVariables false
set_option linter.unusedSimpArgs false
set_option linter.unusedSectionVars false
section
namespace Go.Proofs.YtkfimbonmnoglaaGreatDoor
open Go.RowKit Go.Rel Go.Draw Go.Solid
set_option maxRecDepth 100000
theorem at8 {X : Nat} (h : X ≤ 8) : wrap64 ((X : Int) - 1) = (X : Int) - 1 := IntWalk.wrap64_in _ ⟨by omega, by omega⟩
theorem co_in3 {a b c : Int} (ha : -1 ≤ a ∧ a ≤ 8) (hb : -1 ≤ b ∧ b ≤ 8) (hc : -1 ≤ c ∧ c ≤ 8) : ∀ k, -1 ≤ co (a, b, c) k ∧ co (a, b, c) k ≤ 8 := fun k => by
 match k with
 | 0 => exact ha
 | 1 => exact hb
 | _ + 2 => exact hc
attribute [local irreducible] eulQ someB
set_option maxHeartbeats 64000000 in
theorem refEuler_spec (s : Sol) (w : World) : Calls Tryz.prog 42 #[solV s] w fun e w' => e = .returned (.int .i64 (eulerS s)) ∧ Below w.heap.size w w' := by
 have HSo := Lib.hid fun l h hl hh W => refSome_spec s l h hl hh W
 have HK := Lib.hid fun (x y z k : Nat) (hx : x ≤ 8) (hy : y ≤ 8) (hk : k < 8) => eulQ_kind s (x := x) (y := y) (z := z) (k := k) hx hy hk
 have HA := Lib.hid fun n => eulQ_abs s n
 have HE := Lib.hid (eulQ_end s)
 have H0 := Lib.hid (eulQ_zero s)
 obtain ⟨F, hF⟩ : ∃ F, F = eulQ s := ⟨_, rfl⟩
 rw [← hF] at HK HA HE H0
 obtain ⟨R, hR⟩ : ∃ R, R = eulerS s := ⟨_, rfl⟩
 rw [← hR] at HE ⊢
 clear hF hR
 go_enter Tryz.func42, Tryz.ntmps42
 go_wp2_with fail
 obtain ⟨W0, hW0⟩ : ∃ W0, W0 = w.alloc (.cells #[.int .u64 (pl s 0), .int .u64 (pl s 1), .int .u64 (pl s 2), .int .u64 (pl s 3), .int .u64 (pl s 4), .int .u64 (pl s 5), .int .u64 (pl s 6), .int .u64 (pl s 7)] 26) := ⟨_, rfl⟩
 have HB : Hid (Blk W0 w.heap.size #[.int .u64 (pl s 0), .int .u64 (pl s 1), .int .u64 (pl s 2), .int .u64 (pl s 3), .int .u64 (pl s 4), .int .u64 (pl s 5), .int .u64 (pl s 6), .int .u64 (pl s 7)] 26 ∧ Below w.heap.size w W0) := Lib.hid (by rw [hW0]; exact ⟨Blk.new _ _ _, (by repeat (first | with_reducible exact bel_refl _ | with_reducible assumption | with_reducible refine bel_drewN ?_ _ | with_reducible refine bel_drew ?_ | with_reducible refine bel_alloc ?_ _ | with_reducible refine bel_row ?_ ?_ _ | with_reducible refine bel_set ?_ ?_ _ | refine bel_trans ?_ (by with_reducible assumption) | (simp; done) | (simp; omega)))⟩)
 rw [← hW0]
 clear hW0
 go_loopw [3, 4] (fun sv zv wx => ∃ Z : Nat, Z ≤ 9 ∧ zv = .int .i64 Z ∧ sv = .int .i64 (F (648 * Z)) ∧ Hid (Blk wx w.heap.size #[.int .u64 (pl s 0), .int .u64 (pl s 1), .int .u64 (pl s 2), .int .u64 (pl s 3), .int .u64 (pl s 4), .int .u64 (pl s 5), .int .u64 (pl s 6), .int .u64 (pl s 7)] 26 ∧ Below w.heap.size w wx)) (fun _ zv _ => 9 - (intOf zv).toNat)
 case atStart => exact ⟨0, by omega, rfl, by rw [show 648 * 0 = 0 from rfl, H0.out], HB⟩
 case round =>
  clear HB
  obtain ⟨Z, hZ9, rfl, rfl, HZ⟩ := hrel
  by_cases hZ : Z ≤ 8
  ·have hZi : (Z : Int) ≤ 8 := by omega
   have hwZ := at8 hZ
   go_wp2_with fail
   go_loopw [3, 5] (fun sv yv wx => ∃ Y : Nat, Y ≤ 9 ∧ yv = .int .i64 Y ∧ sv = .int .i64 (F (648 * Z + 72 * Y)) ∧ Hid (Blk wx w.heap.size #[.int .u64 (pl s 0), .int .u64 (pl s 1), .int .u64 (pl s 2), .int .u64 (pl s 3), .int .u64 (pl s 4), .int .u64 (pl s 5), .int .u64 (pl s 6), .int .u64 (pl s 7)] 26 ∧ Below w.heap.size w wx)) (fun _ yv _ => 9 - (intOf yv).toNat)
   case atStart => exact ⟨0, by omega, rfl, by rw [Nat.mul_zero, Nat.add_zero], HZ⟩
   case round =>
    clear HZ
    obtain ⟨Y, hY9, rfl, rfl, HY0⟩ := hrel
    by_cases hY : Y ≤ 8
    ·have hYi : (Y : Int) ≤ 8 := by omega
     have hwY := at8 hY
     go_wp2_with fail
     go_loopw [3, 6] (fun sv xv wx => ∃ X : Nat, X ≤ 9 ∧ xv = .int .i64 X ∧ sv = .int .i64 (F (648 * Z + 72 * Y + 8 * X)) ∧ Hid (Blk wx w.heap.size #[.int .u64 (pl s 0), .int .u64 (pl s 1), .int .u64 (pl s 2), .int .u64 (pl s 3), .int .u64 (pl s 4), .int .u64 (pl s 5), .int .u64 (pl s 6), .int .u64 (pl s 7)] 26 ∧ Below w.heap.size w wx)) (fun _ xv _ => 9 - (intOf xv).toNat)
     case atStart => exact ⟨0, by omega, rfl, by rw [Nat.mul_zero, Nat.add_zero], HY0⟩
     case round =>
      clear HY0
      obtain ⟨X, hX9, rfl, rfl, HX0⟩ := hrel
      by_cases hX : X ≤ 8
      ·have hXi : (X : Int) ≤ 8 := by omega
       have hwX := at8 hX
       go_wp2_with fail
       go_loopw [3, 7] (fun sv kv wx => ∃ k : Nat, k ≤ 8 ∧ kv = .int .i64 k ∧ sv = .int .i64 (F (648 * Z + 72 * Y + 8 * X + k)) ∧ Hid (Blk wx w.heap.size #[.int .u64 (pl s 0), .int .u64 (pl s 1), .int .u64 (pl s 2), .int .u64 (pl s 3), .int .u64 (pl s 4), .int .u64 (pl s 5), .int .u64 (pl s 6), .int .u64 (pl s 7)] 26 ∧ Below w.heap.size w wx)) (fun _ kv _ => 8 - (intOf kv).toNat)
       case atStart => exact ⟨0, by omega, rfl, by rw [Nat.add_zero], HX0⟩
       case round =>
        clear HX0
        obtain ⟨k, hk8, rfl, rfl, HM⟩ := hrel
        by_cases hk : k < 8
        ·obtain rfl | rfl | rfl | rfl | rfl | rfl | rfl | rfl : k = 0 ∨ k = 1 ∨ k = 2 ∨ k = 3 ∨ k = 4 ∨ k = 5 ∨ k = 6 ∨ k = 7 := by omega
         ·have HKK := Lib.hid (HK.out X Y Z 0 hX hY (by omega))
          have hlow : lowK X Y Z (0 % 2) (0 / 2 % 2) (0 / 4) = (((X : Int) - 1), ((Y : Int) - 1), ((Z : Int) - 1)) := Prod.ext (by show (X : Int) - 1 + ((0 % 2 : Nat) : Int) = ((X : Int) - 1); omega) (Prod.ext (by show (Y : Int) - 1 + ((0 / 2 % 2 : Nat) : Int) = ((Y : Int) - 1); omega) (by show (Z : Int) - 1 + ((0 / 4 : Nat) : Int) = ((Z : Int) - 1); omega))
          rw [hlow] at HKK
          have HS1 := Lib.hid fun W => HSo.out (((X : Int) - 1), ((Y : Int) - 1), ((Z : Int) - 1)) ((X : Int), (Y : Int), (Z : Int)) (co_in3 ⟨by omega, by omega⟩ ⟨by omega, by omega⟩ ⟨by omega, by omega⟩) (co_in3 ⟨by omega, by omega⟩ ⟨by omega, by omega⟩ ⟨by omega, by omega⟩) W
          obtain ⟨q, hq⟩ : ∃ q, q = someB s (((X : Int) - 1), ((Y : Int) - 1), ((Z : Int) - 1)) ((X : Int), (Y : Int), (Z : Int)) := ⟨_, rfl⟩
          rw [← hq] at HKK HS1
          clear hlow hq
          go_upto_region 16 with fail
          obtain ⟨wA, hwA⟩ : ∃ x, x = wr.alloc (.cells #[.int .i64 ((X : Int) - 1), .int .i64 ((Y : Int) - 1), .int .i64 ((Z : Int) - 1)] 60) := ⟨_, rfl⟩
          obtain ⟨g8, hg8⟩ : ∃ x, x = wr.heap.size := ⟨_, rfl⟩
          have H8 : Hid (Blk wA g8 #[.int .i64 ((X : Int) - 1), .int .i64 ((Y : Int) - 1), .int .i64 ((Z : Int) - 1)] 60 ∧ Blk wA w.heap.size #[.int .u64 (pl s 0), .int .u64 (pl s 1), .int .u64 (pl s 2), .int .u64 (pl s 3), .int .u64 (pl s 4), .int .u64 (pl s 5), .int .u64 (pl s 6), .int .u64 (pl s 7)] 26 ∧ Below w.heap.size w wA ∧ w.heap.size < g8) := Lib.hid (by
           rw [hwA, hg8]
           exact ⟨Blk.new _ _ _, HM.out.1.alloc _, bel_alloc HM.out.2 _, HM.out.1.lt⟩)
          rw [← hwA, ← hg8]
          clear hwA hg8
          have c8 := H8.out.1.cell; have l8 := H8.out.1.lt
          have cs := H8.out.2.1.cell; have ls := H8.out.2.1.lt
          go_wp2_with fail
          clear c8 l8 cs ls
          refine (HS1.out _).mono ?_
          rintro e w4 ⟨rfl, hb⟩
          have HE4 := Lib.hid (And.intro (H8.out.2.1.grow hb) (bel_trans H8.out.2.2.1 hb))
          clear hb
          cases q with
          | false =>
           have HV : Hid (F (648 * Z + 72 * Y + 8 * X + 1) = F (648 * Z + 72 * Y + 8 * X)) := Lib.hid (HKK.out.trans (by simp))
           go_wp2_with fail
           go_roundw
           case rel => exact ⟨1, by omega, by go_num, by rw [HV.out], HE4⟩
           case measure => simp [intOf]
          | true =>
           have HV : Hid (F (648 * Z + 72 * Y + 8 * X + 1) = F (648 * Z + 72 * Y + 8 * X) + 1) := Lib.hid (HKK.out.trans (by simp <;> omega))
           have hab := HA.out (648 * Z + 72 * Y + 8 * X)
           have hwv : wrap64 (F (648 * Z + 72 * Y + 8 * X) + 1) = F (648 * Z + 72 * Y + 8 * X) + 1 := IntWalk.wrap64_in _ ⟨by omega, by omega⟩
           clear hab
           go_wp2_with fail
           go_roundw
           case rel => exact ⟨1, by omega, by go_num, by first | (rw [HV.out, hwv]; done) | (rw [HV.out]; done), HE4⟩
           case measure => simp [intOf]
         ·have HKK := Lib.hid (HK.out X Y Z 1 hX hY (by omega))
          have hlow : lowK X Y Z (1 % 2) (1 / 2 % 2) (1 / 4) = ((X : Int), ((Y : Int) - 1), ((Z : Int) - 1)) := Prod.ext (by show (X : Int) - 1 + ((1 % 2 : Nat) : Int) = (X : Int); omega) (Prod.ext (by show (Y : Int) - 1 + ((1 / 2 % 2 : Nat) : Int) = ((Y : Int) - 1); omega) (by show (Z : Int) - 1 + ((1 / 4 : Nat) : Int) = ((Z : Int) - 1); omega))
          rw [hlow] at HKK
          have HS1 := Lib.hid fun W => HSo.out ((X : Int), ((Y : Int) - 1), ((Z : Int) - 1)) ((X : Int), (Y : Int), (Z : Int)) (co_in3 ⟨by omega, by omega⟩ ⟨by omega, by omega⟩ ⟨by omega, by omega⟩) (co_in3 ⟨by omega, by omega⟩ ⟨by omega, by omega⟩ ⟨by omega, by omega⟩) W
          obtain ⟨q, hq⟩ : ∃ q, q = someB s ((X : Int), ((Y : Int) - 1), ((Z : Int) - 1)) ((X : Int), (Y : Int), (Z : Int)) := ⟨_, rfl⟩
          rw [← hq] at HKK HS1
          clear hlow hq
          go_upto_region 16 with fail
          obtain ⟨wA, hwA⟩ : ∃ x, x = wr.alloc (.cells #[.int .i64 ((X : Int) - 1), .int .i64 ((Y : Int) - 1), .int .i64 ((Z : Int) - 1)] 60) := ⟨_, rfl⟩
          obtain ⟨g8, hg8⟩ : ∃ x, x = wr.heap.size := ⟨_, rfl⟩
          have H8 : Hid (Blk wA g8 #[.int .i64 ((X : Int) - 1), .int .i64 ((Y : Int) - 1), .int .i64 ((Z : Int) - 1)] 60 ∧ Blk wA w.heap.size #[.int .u64 (pl s 0), .int .u64 (pl s 1), .int .u64 (pl s 2), .int .u64 (pl s 3), .int .u64 (pl s 4), .int .u64 (pl s 5), .int .u64 (pl s 6), .int .u64 (pl s 7)] 26 ∧ Below w.heap.size w wA ∧ w.heap.size < g8) := Lib.hid (by
           rw [hwA, hg8]
           exact ⟨Blk.new _ _ _, HM.out.1.alloc _, bel_alloc HM.out.2 _, HM.out.1.lt⟩)
          rw [← hwA, ← hg8]
          clear hwA hg8
          have c8 := H8.out.1.cell; have l8 := H8.out.1.lt; have f8 := H8.out.1.free 0
          go_upto_region 19 with fail
          clear c8 l8 f8
          obtain ⟨wA1, hwA⟩ : ∃ x, x = wA.setCell ⟨g8, 0, none⟩ (.int .i64 (X : Int)) := ⟨_, rfl⟩
          have H81 : Hid (Blk wA1 g8 #[.int .i64 (X : Int), .int .i64 ((Y : Int) - 1), .int .i64 ((Z : Int) - 1)] 60 ∧ Blk wA1 w.heap.size #[.int .u64 (pl s 0), .int .u64 (pl s 1), .int .u64 (pl s 2), .int .u64 (pl s 3), .int .u64 (pl s 4), .int .u64 (pl s 5), .int .u64 (pl s 6), .int .u64 (pl s 7)] 26 ∧ Below w.heap.size w wA1 ∧ w.heap.size < g8) := Lib.hid (by
           rw [hwA]
           have hgo := H8.out.2.2.2
           exact ⟨H8.out.1.set 0 _, H8.out.2.1.other (by simp only; omega) _, bel_set H8.out.2.2.1 (by simp only; omega) _, hgo⟩)
          rw [← hwA]
          clear hwA
          have c8 := H81.out.1.cell; have l8 := H81.out.1.lt
          have cs := H81.out.2.1.cell; have ls := H81.out.2.1.lt
          go_wp2_with fail
          clear c8 l8 cs ls
          refine (HS1.out _).mono ?_
          rintro e w4 ⟨rfl, hb⟩
          have HE4 := Lib.hid (And.intro (H81.out.2.1.grow hb) (bel_trans H81.out.2.2.1 hb))
          clear hb
          cases q with
          | false =>
           have HV : Hid (F (648 * Z + 72 * Y + 8 * X + 2) = F (648 * Z + 72 * Y + 8 * X + 1)) := Lib.hid (HKK.out.trans (by simp))
           go_wp2_with fail
           go_roundw
           case rel => exact ⟨2, by omega, by go_num, by rw [HV.out], HE4⟩
           case measure => simp [intOf]
          | true =>
           have HV : Hid (F (648 * Z + 72 * Y + 8 * X + 2) = F (648 * Z + 72 * Y + 8 * X + 1) - 1) := Lib.hid (HKK.out.trans (by simp <;> omega))
           have hab := HA.out (648 * Z + 72 * Y + 8 * X + 1)
           have hwv : wrap64 (F (648 * Z + 72 * Y + 8 * X + 1) - 1) = F (648 * Z + 72 * Y + 8 * X + 1) - 1 := IntWalk.wrap64_in _ ⟨by omega, by omega⟩
           clear hab
           go_wp2_with fail
           go_roundw
           case rel => exact ⟨2, by omega, by go_num, by first | (rw [HV.out, hwv]; done) | (rw [HV.out]; done), HE4⟩
           case measure => simp [intOf]
         ·have HKK := Lib.hid (HK.out X Y Z 2 hX hY (by omega))
          have hlow : lowK X Y Z (2 % 2) (2 / 2 % 2) (2 / 4) = (((X : Int) - 1), (Y : Int), ((Z : Int) - 1)) := Prod.ext (by show (X : Int) - 1 + ((2 % 2 : Nat) : Int) = ((X : Int) - 1); omega) (Prod.ext (by show (Y : Int) - 1 + ((2 / 2 % 2 : Nat) : Int) = (Y : Int); omega) (by show (Z : Int) - 1 + ((2 / 4 : Nat) : Int) = ((Z : Int) - 1); omega))
          rw [hlow] at HKK
          have HS1 := Lib.hid fun W => HSo.out (((X : Int) - 1), (Y : Int), ((Z : Int) - 1)) ((X : Int), (Y : Int), (Z : Int)) (co_in3 ⟨by omega, by omega⟩ ⟨by omega, by omega⟩ ⟨by omega, by omega⟩) (co_in3 ⟨by omega, by omega⟩ ⟨by omega, by omega⟩ ⟨by omega, by omega⟩) W
          obtain ⟨q, hq⟩ : ∃ q, q = someB s (((X : Int) - 1), (Y : Int), ((Z : Int) - 1)) ((X : Int), (Y : Int), (Z : Int)) := ⟨_, rfl⟩
          rw [← hq] at HKK HS1
          clear hlow hq
          go_upto_region 16 with fail
          obtain ⟨wA, hwA⟩ : ∃ x, x = wr.alloc (.cells #[.int .i64 ((X : Int) - 1), .int .i64 ((Y : Int) - 1), .int .i64 ((Z : Int) - 1)] 60) := ⟨_, rfl⟩
          obtain ⟨g8, hg8⟩ : ∃ x, x = wr.heap.size := ⟨_, rfl⟩
          have H8 : Hid (Blk wA g8 #[.int .i64 ((X : Int) - 1), .int .i64 ((Y : Int) - 1), .int .i64 ((Z : Int) - 1)] 60 ∧ Blk wA w.heap.size #[.int .u64 (pl s 0), .int .u64 (pl s 1), .int .u64 (pl s 2), .int .u64 (pl s 3), .int .u64 (pl s 4), .int .u64 (pl s 5), .int .u64 (pl s 6), .int .u64 (pl s 7)] 26 ∧ Below w.heap.size w wA ∧ w.heap.size < g8) := Lib.hid (by
           rw [hwA, hg8]
           exact ⟨Blk.new _ _ _, HM.out.1.alloc _, bel_alloc HM.out.2 _, HM.out.1.lt⟩)
          rw [← hwA, ← hg8]
          clear hwA hg8
          have c8 := H8.out.1.cell; have l8 := H8.out.1.lt; have f8 := H8.out.1.free 1
          go_upto_region 22 with fail
          clear c8 l8 f8
          obtain ⟨wA1, hwA⟩ : ∃ x, x = wA.setCell ⟨g8, 1, none⟩ (.int .i64 (Y : Int)) := ⟨_, rfl⟩
          have H81 : Hid (Blk wA1 g8 #[.int .i64 ((X : Int) - 1), .int .i64 (Y : Int), .int .i64 ((Z : Int) - 1)] 60 ∧ Blk wA1 w.heap.size #[.int .u64 (pl s 0), .int .u64 (pl s 1), .int .u64 (pl s 2), .int .u64 (pl s 3), .int .u64 (pl s 4), .int .u64 (pl s 5), .int .u64 (pl s 6), .int .u64 (pl s 7)] 26 ∧ Below w.heap.size w wA1 ∧ w.heap.size < g8) := Lib.hid (by
           rw [hwA]
           have hgo := H8.out.2.2.2
           exact ⟨H8.out.1.set 1 _, H8.out.2.1.other (by simp only; omega) _, bel_set H8.out.2.2.1 (by simp only; omega) _, hgo⟩)
          rw [← hwA]
          clear hwA
          have c8 := H81.out.1.cell; have l8 := H81.out.1.lt
          have cs := H81.out.2.1.cell; have ls := H81.out.2.1.lt
          go_wp2_with fail
          clear c8 l8 cs ls
          refine (HS1.out _).mono ?_
          rintro e w4 ⟨rfl, hb⟩
          have HE4 := Lib.hid (And.intro (H81.out.2.1.grow hb) (bel_trans H81.out.2.2.1 hb))
          clear hb
          cases q with
          | false =>
           have HV : Hid (F (648 * Z + 72 * Y + 8 * X + 3) = F (648 * Z + 72 * Y + 8 * X + 2)) := Lib.hid (HKK.out.trans (by simp))
           go_wp2_with fail
           go_roundw
           case rel => exact ⟨3, by omega, by go_num, by rw [HV.out], HE4⟩
           case measure => simp [intOf]
          | true =>
           have HV : Hid (F (648 * Z + 72 * Y + 8 * X + 3) = F (648 * Z + 72 * Y + 8 * X + 2) - 1) := Lib.hid (HKK.out.trans (by simp <;> omega))
           have hab := HA.out (648 * Z + 72 * Y + 8 * X + 2)
           have hwv : wrap64 (F (648 * Z + 72 * Y + 8 * X + 2) - 1) = F (648 * Z + 72 * Y + 8 * X + 2) - 1 := IntWalk.wrap64_in _ ⟨by omega, by omega⟩
           clear hab
           go_wp2_with fail
           go_roundw
           case rel => exact ⟨3, by omega, by go_num, by first | (rw [HV.out, hwv]; done) | (rw [HV.out]; done), HE4⟩
           case measure => simp [intOf]
         ·have HKK := Lib.hid (HK.out X Y Z 3 hX hY (by omega))
          have hlow : lowK X Y Z (3 % 2) (3 / 2 % 2) (3 / 4) = ((X : Int), (Y : Int), ((Z : Int) - 1)) := Prod.ext (by show (X : Int) - 1 + ((3 % 2 : Nat) : Int) = (X : Int); omega) (Prod.ext (by show (Y : Int) - 1 + ((3 / 2 % 2 : Nat) : Int) = (Y : Int); omega) (by show (Z : Int) - 1 + ((3 / 4 : Nat) : Int) = ((Z : Int) - 1); omega))
          rw [hlow] at HKK
          have HS1 := Lib.hid fun W => HSo.out ((X : Int), (Y : Int), ((Z : Int) - 1)) ((X : Int), (Y : Int), (Z : Int)) (co_in3 ⟨by omega, by omega⟩ ⟨by omega, by omega⟩ ⟨by omega, by omega⟩) (co_in3 ⟨by omega, by omega⟩ ⟨by omega, by omega⟩ ⟨by omega, by omega⟩) W
          obtain ⟨q, hq⟩ : ∃ q, q = someB s ((X : Int), (Y : Int), ((Z : Int) - 1)) ((X : Int), (Y : Int), (Z : Int)) := ⟨_, rfl⟩
          rw [← hq] at HKK HS1
          clear hlow hq
          go_upto_region 16 with fail
          obtain ⟨wA, hwA⟩ : ∃ x, x = wr.alloc (.cells #[.int .i64 ((X : Int) - 1), .int .i64 ((Y : Int) - 1), .int .i64 ((Z : Int) - 1)] 60) := ⟨_, rfl⟩
          obtain ⟨g8, hg8⟩ : ∃ x, x = wr.heap.size := ⟨_, rfl⟩
          have H8 : Hid (Blk wA g8 #[.int .i64 ((X : Int) - 1), .int .i64 ((Y : Int) - 1), .int .i64 ((Z : Int) - 1)] 60 ∧ Blk wA w.heap.size #[.int .u64 (pl s 0), .int .u64 (pl s 1), .int .u64 (pl s 2), .int .u64 (pl s 3), .int .u64 (pl s 4), .int .u64 (pl s 5), .int .u64 (pl s 6), .int .u64 (pl s 7)] 26 ∧ Below w.heap.size w wA ∧ w.heap.size < g8) := Lib.hid (by
           rw [hwA, hg8]
           exact ⟨Blk.new _ _ _, HM.out.1.alloc _, bel_alloc HM.out.2 _, HM.out.1.lt⟩)
          rw [← hwA, ← hg8]
          clear hwA hg8
          have c8 := H8.out.1.cell; have l8 := H8.out.1.lt; have f8 := H8.out.1.free 0
          go_upto_region 19 with fail
          clear c8 l8 f8
          obtain ⟨wA1, hwA⟩ : ∃ x, x = wA.setCell ⟨g8, 0, none⟩ (.int .i64 (X : Int)) := ⟨_, rfl⟩
          have H81 : Hid (Blk wA1 g8 #[.int .i64 (X : Int), .int .i64 ((Y : Int) - 1), .int .i64 ((Z : Int) - 1)] 60 ∧ Blk wA1 w.heap.size #[.int .u64 (pl s 0), .int .u64 (pl s 1), .int .u64 (pl s 2), .int .u64 (pl s 3), .int .u64 (pl s 4), .int .u64 (pl s 5), .int .u64 (pl s 6), .int .u64 (pl s 7)] 26 ∧ Below w.heap.size w wA1 ∧ w.heap.size < g8) := Lib.hid (by
           rw [hwA]
           have hgo := H8.out.2.2.2
           exact ⟨H8.out.1.set 0 _, H8.out.2.1.other (by simp only; omega) _, bel_set H8.out.2.2.1 (by simp only; omega) _, hgo⟩)
          rw [← hwA]
          clear hwA
          have c8 := H81.out.1.cell; have l8 := H81.out.1.lt; have f8 := H81.out.1.free 1
          go_upto_region 22 with fail
          clear c8 l8 f8
          obtain ⟨wA2, hwA⟩ : ∃ x, x = wA1.setCell ⟨g8, 1, none⟩ (.int .i64 (Y : Int)) := ⟨_, rfl⟩
          have H82 : Hid (Blk wA2 g8 #[.int .i64 (X : Int), .int .i64 (Y : Int), .int .i64 ((Z : Int) - 1)] 60 ∧ Blk wA2 w.heap.size #[.int .u64 (pl s 0), .int .u64 (pl s 1), .int .u64 (pl s 2), .int .u64 (pl s 3), .int .u64 (pl s 4), .int .u64 (pl s 5), .int .u64 (pl s 6), .int .u64 (pl s 7)] 26 ∧ Below w.heap.size w wA2 ∧ w.heap.size < g8) := Lib.hid (by
           rw [hwA]
           have hgo := H81.out.2.2.2
           exact ⟨H81.out.1.set 1 _, H81.out.2.1.other (by simp only; omega) _, bel_set H81.out.2.2.1 (by simp only; omega) _, hgo⟩)
          rw [← hwA]
          clear hwA
          have c8 := H82.out.1.cell; have l8 := H82.out.1.lt
          have cs := H82.out.2.1.cell; have ls := H82.out.2.1.lt
          go_wp2_with fail
          clear c8 l8 cs ls
          refine (HS1.out _).mono ?_
          rintro e w4 ⟨rfl, hb⟩
          have HE4 := Lib.hid (And.intro (H82.out.2.1.grow hb) (bel_trans H82.out.2.2.1 hb))
          clear hb
          cases q with
          | false =>
           have HV : Hid (F (648 * Z + 72 * Y + 8 * X + 4) = F (648 * Z + 72 * Y + 8 * X + 3)) := Lib.hid (HKK.out.trans (by simp))
           go_wp2_with fail
           go_roundw
           case rel => exact ⟨4, by omega, by go_num, by rw [HV.out], HE4⟩
           case measure => simp [intOf]
          | true =>
           have HV : Hid (F (648 * Z + 72 * Y + 8 * X + 4) = F (648 * Z + 72 * Y + 8 * X + 3) + 1) := Lib.hid (HKK.out.trans (by simp <;> omega))
           have hab := HA.out (648 * Z + 72 * Y + 8 * X + 3)
           have hwv : wrap64 (F (648 * Z + 72 * Y + 8 * X + 3) + 1) = F (648 * Z + 72 * Y + 8 * X + 3) + 1 := IntWalk.wrap64_in _ ⟨by omega, by omega⟩
           clear hab
           go_wp2_with fail
           go_roundw
           case rel => exact ⟨4, by omega, by go_num, by first | (rw [HV.out, hwv]; done) | (rw [HV.out]; done), HE4⟩
           case measure => simp [intOf]
         ·have HKK := Lib.hid (HK.out X Y Z 4 hX hY (by omega))
          have hlow : lowK X Y Z (4 % 2) (4 / 2 % 2) (4 / 4) = (((X : Int) - 1), ((Y : Int) - 1), (Z : Int)) := Prod.ext (by show (X : Int) - 1 + ((4 % 2 : Nat) : Int) = ((X : Int) - 1); omega) (Prod.ext (by show (Y : Int) - 1 + ((4 / 2 % 2 : Nat) : Int) = ((Y : Int) - 1); omega) (by show (Z : Int) - 1 + ((4 / 4 : Nat) : Int) = (Z : Int); omega))
          rw [hlow] at HKK
          have HS1 := Lib.hid fun W => HSo.out (((X : Int) - 1), ((Y : Int) - 1), (Z : Int)) ((X : Int), (Y : Int), (Z : Int)) (co_in3 ⟨by omega, by omega⟩ ⟨by omega, by omega⟩ ⟨by omega, by omega⟩) (co_in3 ⟨by omega, by omega⟩ ⟨by omega, by omega⟩ ⟨by omega, by omega⟩) W
          obtain ⟨q, hq⟩ : ∃ q, q = someB s (((X : Int) - 1), ((Y : Int) - 1), (Z : Int)) ((X : Int), (Y : Int), (Z : Int)) := ⟨_, rfl⟩
          rw [← hq] at HKK HS1
          clear hlow hq
          go_upto_region 16 with fail
          obtain ⟨wA, hwA⟩ : ∃ x, x = wr.alloc (.cells #[.int .i64 ((X : Int) - 1), .int .i64 ((Y : Int) - 1), .int .i64 ((Z : Int) - 1)] 60) := ⟨_, rfl⟩
          obtain ⟨g8, hg8⟩ : ∃ x, x = wr.heap.size := ⟨_, rfl⟩
          have H8 : Hid (Blk wA g8 #[.int .i64 ((X : Int) - 1), .int .i64 ((Y : Int) - 1), .int .i64 ((Z : Int) - 1)] 60 ∧ Blk wA w.heap.size #[.int .u64 (pl s 0), .int .u64 (pl s 1), .int .u64 (pl s 2), .int .u64 (pl s 3), .int .u64 (pl s 4), .int .u64 (pl s 5), .int .u64 (pl s 6), .int .u64 (pl s 7)] 26 ∧ Below w.heap.size w wA ∧ w.heap.size < g8) := Lib.hid (by
           rw [hwA, hg8]
           exact ⟨Blk.new _ _ _, HM.out.1.alloc _, bel_alloc HM.out.2 _, HM.out.1.lt⟩)
          rw [← hwA, ← hg8]
          clear hwA hg8
          have c8 := H8.out.1.cell; have l8 := H8.out.1.lt; have f8 := H8.out.1.free 2
          go_upto_region 25 with fail
          clear c8 l8 f8
          obtain ⟨wA1, hwA⟩ : ∃ x, x = wA.setCell ⟨g8, 2, none⟩ (.int .i64 (Z : Int)) := ⟨_, rfl⟩
          have H81 : Hid (Blk wA1 g8 #[.int .i64 ((X : Int) - 1), .int .i64 ((Y : Int) - 1), .int .i64 (Z : Int)] 60 ∧ Blk wA1 w.heap.size #[.int .u64 (pl s 0), .int .u64 (pl s 1), .int .u64 (pl s 2), .int .u64 (pl s 3), .int .u64 (pl s 4), .int .u64 (pl s 5), .int .u64 (pl s 6), .int .u64 (pl s 7)] 26 ∧ Below w.heap.size w wA1 ∧ w.heap.size < g8) := Lib.hid (by
           rw [hwA]
           have hgo := H8.out.2.2.2
           exact ⟨H8.out.1.set 2 _, H8.out.2.1.other (by simp only; omega) _, bel_set H8.out.2.2.1 (by simp only; omega) _, hgo⟩)
          rw [← hwA]
          clear hwA
          have c8 := H81.out.1.cell; have l8 := H81.out.1.lt
          have cs := H81.out.2.1.cell; have ls := H81.out.2.1.lt
          go_wp2_with fail
          clear c8 l8 cs ls
          refine (HS1.out _).mono ?_
          rintro e w4 ⟨rfl, hb⟩
          have HE4 := Lib.hid (And.intro (H81.out.2.1.grow hb) (bel_trans H81.out.2.2.1 hb))
          clear hb
          cases q with
          | false =>
           have HV : Hid (F (648 * Z + 72 * Y + 8 * X + 5) = F (648 * Z + 72 * Y + 8 * X + 4)) := Lib.hid (HKK.out.trans (by simp))
           go_wp2_with fail
           go_roundw
           case rel => exact ⟨5, by omega, by go_num, by rw [HV.out], HE4⟩
           case measure => simp [intOf]
          | true =>
           have HV : Hid (F (648 * Z + 72 * Y + 8 * X + 5) = F (648 * Z + 72 * Y + 8 * X + 4) - 1) := Lib.hid (HKK.out.trans (by simp <;> omega))
           have hab := HA.out (648 * Z + 72 * Y + 8 * X + 4)
           have hwv : wrap64 (F (648 * Z + 72 * Y + 8 * X + 4) - 1) = F (648 * Z + 72 * Y + 8 * X + 4) - 1 := IntWalk.wrap64_in _ ⟨by omega, by omega⟩
           clear hab
           go_wp2_with fail
           go_roundw
           case rel => exact ⟨5, by omega, by go_num, by first | (rw [HV.out, hwv]; done) | (rw [HV.out]; done), HE4⟩
           case measure => simp [intOf]
         ·have HKK := Lib.hid (HK.out X Y Z 5 hX hY (by omega))
          have hlow : lowK X Y Z (5 % 2) (5 / 2 % 2) (5 / 4) = ((X : Int), ((Y : Int) - 1), (Z : Int)) := Prod.ext (by show (X : Int) - 1 + ((5 % 2 : Nat) : Int) = (X : Int); omega) (Prod.ext (by show (Y : Int) - 1 + ((5 / 2 % 2 : Nat) : Int) = ((Y : Int) - 1); omega) (by show (Z : Int) - 1 + ((5 / 4 : Nat) : Int) = (Z : Int); omega))
          rw [hlow] at HKK
          have HS1 := Lib.hid fun W => HSo.out ((X : Int), ((Y : Int) - 1), (Z : Int)) ((X : Int), (Y : Int), (Z : Int)) (co_in3 ⟨by omega, by omega⟩ ⟨by omega, by omega⟩ ⟨by omega, by omega⟩) (co_in3 ⟨by omega, by omega⟩ ⟨by omega, by omega⟩ ⟨by omega, by omega⟩) W
          obtain ⟨q, hq⟩ : ∃ q, q = someB s ((X : Int), ((Y : Int) - 1), (Z : Int)) ((X : Int), (Y : Int), (Z : Int)) := ⟨_, rfl⟩
          rw [← hq] at HKK HS1
          clear hlow hq
          go_upto_region 16 with fail
          obtain ⟨wA, hwA⟩ : ∃ x, x = wr.alloc (.cells #[.int .i64 ((X : Int) - 1), .int .i64 ((Y : Int) - 1), .int .i64 ((Z : Int) - 1)] 60) := ⟨_, rfl⟩
          obtain ⟨g8, hg8⟩ : ∃ x, x = wr.heap.size := ⟨_, rfl⟩
          have H8 : Hid (Blk wA g8 #[.int .i64 ((X : Int) - 1), .int .i64 ((Y : Int) - 1), .int .i64 ((Z : Int) - 1)] 60 ∧ Blk wA w.heap.size #[.int .u64 (pl s 0), .int .u64 (pl s 1), .int .u64 (pl s 2), .int .u64 (pl s 3), .int .u64 (pl s 4), .int .u64 (pl s 5), .int .u64 (pl s 6), .int .u64 (pl s 7)] 26 ∧ Below w.heap.size w wA ∧ w.heap.size < g8) := Lib.hid (by
           rw [hwA, hg8]
           exact ⟨Blk.new _ _ _, HM.out.1.alloc _, bel_alloc HM.out.2 _, HM.out.1.lt⟩)
          rw [← hwA, ← hg8]
          clear hwA hg8
          have c8 := H8.out.1.cell; have l8 := H8.out.1.lt; have f8 := H8.out.1.free 0
          go_upto_region 19 with fail
          clear c8 l8 f8
          obtain ⟨wA1, hwA⟩ : ∃ x, x = wA.setCell ⟨g8, 0, none⟩ (.int .i64 (X : Int)) := ⟨_, rfl⟩
          have H81 : Hid (Blk wA1 g8 #[.int .i64 (X : Int), .int .i64 ((Y : Int) - 1), .int .i64 ((Z : Int) - 1)] 60 ∧ Blk wA1 w.heap.size #[.int .u64 (pl s 0), .int .u64 (pl s 1), .int .u64 (pl s 2), .int .u64 (pl s 3), .int .u64 (pl s 4), .int .u64 (pl s 5), .int .u64 (pl s 6), .int .u64 (pl s 7)] 26 ∧ Below w.heap.size w wA1 ∧ w.heap.size < g8) := Lib.hid (by
           rw [hwA]
           have hgo := H8.out.2.2.2
           exact ⟨H8.out.1.set 0 _, H8.out.2.1.other (by simp only; omega) _, bel_set H8.out.2.2.1 (by simp only; omega) _, hgo⟩)
          rw [← hwA]
          clear hwA
          have c8 := H81.out.1.cell; have l8 := H81.out.1.lt; have f8 := H81.out.1.free 2
          go_upto_region 25 with fail
          clear c8 l8 f8
          obtain ⟨wA2, hwA⟩ : ∃ x, x = wA1.setCell ⟨g8, 2, none⟩ (.int .i64 (Z : Int)) := ⟨_, rfl⟩
          have H82 : Hid (Blk wA2 g8 #[.int .i64 (X : Int), .int .i64 ((Y : Int) - 1), .int .i64 (Z : Int)] 60 ∧ Blk wA2 w.heap.size #[.int .u64 (pl s 0), .int .u64 (pl s 1), .int .u64 (pl s 2), .int .u64 (pl s 3), .int .u64 (pl s 4), .int .u64 (pl s 5), .int .u64 (pl s 6), .int .u64 (pl s 7)] 26 ∧ Below w.heap.size w wA2 ∧ w.heap.size < g8) := Lib.hid (by
           rw [hwA]
           have hgo := H81.out.2.2.2
           exact ⟨H81.out.1.set 2 _, H81.out.2.1.other (by simp only; omega) _, bel_set H81.out.2.2.1 (by simp only; omega) _, hgo⟩)
          rw [← hwA]
          clear hwA
          have c8 := H82.out.1.cell; have l8 := H82.out.1.lt
          have cs := H82.out.2.1.cell; have ls := H82.out.2.1.lt
          go_wp2_with fail
          clear c8 l8 cs ls
          refine (HS1.out _).mono ?_
          rintro e w4 ⟨rfl, hb⟩
          have HE4 := Lib.hid (And.intro (H82.out.2.1.grow hb) (bel_trans H82.out.2.2.1 hb))
          clear hb
          cases q with
          | false =>
           have HV : Hid (F (648 * Z + 72 * Y + 8 * X + 6) = F (648 * Z + 72 * Y + 8 * X + 5)) := Lib.hid (HKK.out.trans (by simp))
           go_wp2_with fail
           go_roundw
           case rel => exact ⟨6, by omega, by go_num, by rw [HV.out], HE4⟩
           case measure => simp [intOf]
          | true =>
           have HV : Hid (F (648 * Z + 72 * Y + 8 * X + 6) = F (648 * Z + 72 * Y + 8 * X + 5) + 1) := Lib.hid (HKK.out.trans (by simp <;> omega))
           have hab := HA.out (648 * Z + 72 * Y + 8 * X + 5)
           have hwv : wrap64 (F (648 * Z + 72 * Y + 8 * X + 5) + 1) = F (648 * Z + 72 * Y + 8 * X + 5) + 1 := IntWalk.wrap64_in _ ⟨by omega, by omega⟩
           clear hab
           go_wp2_with fail
           go_roundw
           case rel => exact ⟨6, by omega, by go_num, by first | (rw [HV.out, hwv]; done) | (rw [HV.out]; done), HE4⟩
           case measure => simp [intOf]
         ·have HKK := Lib.hid (HK.out X Y Z 6 hX hY (by omega))
          have hlow : lowK X Y Z (6 % 2) (6 / 2 % 2) (6 / 4) = (((X : Int) - 1), (Y : Int), (Z : Int)) := Prod.ext (by show (X : Int) - 1 + ((6 % 2 : Nat) : Int) = ((X : Int) - 1); omega) (Prod.ext (by show (Y : Int) - 1 + ((6 / 2 % 2 : Nat) : Int) = (Y : Int); omega) (by show (Z : Int) - 1 + ((6 / 4 : Nat) : Int) = (Z : Int); omega))
          rw [hlow] at HKK
          have HS1 := Lib.hid fun W => HSo.out (((X : Int) - 1), (Y : Int), (Z : Int)) ((X : Int), (Y : Int), (Z : Int)) (co_in3 ⟨by omega, by omega⟩ ⟨by omega, by omega⟩ ⟨by omega, by omega⟩) (co_in3 ⟨by omega, by omega⟩ ⟨by omega, by omega⟩ ⟨by omega, by omega⟩) W
          obtain ⟨q, hq⟩ : ∃ q, q = someB s (((X : Int) - 1), (Y : Int), (Z : Int)) ((X : Int), (Y : Int), (Z : Int)) := ⟨_, rfl⟩
          rw [← hq] at HKK HS1
          clear hlow hq
          go_upto_region 16 with fail
          obtain ⟨wA, hwA⟩ : ∃ x, x = wr.alloc (.cells #[.int .i64 ((X : Int) - 1), .int .i64 ((Y : Int) - 1), .int .i64 ((Z : Int) - 1)] 60) := ⟨_, rfl⟩
          obtain ⟨g8, hg8⟩ : ∃ x, x = wr.heap.size := ⟨_, rfl⟩
          have H8 : Hid (Blk wA g8 #[.int .i64 ((X : Int) - 1), .int .i64 ((Y : Int) - 1), .int .i64 ((Z : Int) - 1)] 60 ∧ Blk wA w.heap.size #[.int .u64 (pl s 0), .int .u64 (pl s 1), .int .u64 (pl s 2), .int .u64 (pl s 3), .int .u64 (pl s 4), .int .u64 (pl s 5), .int .u64 (pl s 6), .int .u64 (pl s 7)] 26 ∧ Below w.heap.size w wA ∧ w.heap.size < g8) := Lib.hid (by
           rw [hwA, hg8]
           exact ⟨Blk.new _ _ _, HM.out.1.alloc _, bel_alloc HM.out.2 _, HM.out.1.lt⟩)
          rw [← hwA, ← hg8]
          clear hwA hg8
          have c8 := H8.out.1.cell; have l8 := H8.out.1.lt; have f8 := H8.out.1.free 1
          go_upto_region 22 with fail
          clear c8 l8 f8
          obtain ⟨wA1, hwA⟩ : ∃ x, x = wA.setCell ⟨g8, 1, none⟩ (.int .i64 (Y : Int)) := ⟨_, rfl⟩
          have H81 : Hid (Blk wA1 g8 #[.int .i64 ((X : Int) - 1), .int .i64 (Y : Int), .int .i64 ((Z : Int) - 1)] 60 ∧ Blk wA1 w.heap.size #[.int .u64 (pl s 0), .int .u64 (pl s 1), .int .u64 (pl s 2), .int .u64 (pl s 3), .int .u64 (pl s 4), .int .u64 (pl s 5), .int .u64 (pl s 6), .int .u64 (pl s 7)] 26 ∧ Below w.heap.size w wA1 ∧ w.heap.size < g8) := Lib.hid (by
           rw [hwA]
           have hgo := H8.out.2.2.2
           exact ⟨H8.out.1.set 1 _, H8.out.2.1.other (by simp only; omega) _, bel_set H8.out.2.2.1 (by simp only; omega) _, hgo⟩)
          rw [← hwA]
          clear hwA
          have c8 := H81.out.1.cell; have l8 := H81.out.1.lt; have f8 := H81.out.1.free 2
          go_upto_region 25 with fail
          clear c8 l8 f8
          obtain ⟨wA2, hwA⟩ : ∃ x, x = wA1.setCell ⟨g8, 2, none⟩ (.int .i64 (Z : Int)) := ⟨_, rfl⟩
          have H82 : Hid (Blk wA2 g8 #[.int .i64 ((X : Int) - 1), .int .i64 (Y : Int), .int .i64 (Z : Int)] 60 ∧ Blk wA2 w.heap.size #[.int .u64 (pl s 0), .int .u64 (pl s 1), .int .u64 (pl s 2), .int .u64 (pl s 3), .int .u64 (pl s 4), .int .u64 (pl s 5), .int .u64 (pl s 6), .int .u64 (pl s 7)] 26 ∧ Below w.heap.size w wA2 ∧ w.heap.size < g8) := Lib.hid (by
           rw [hwA]
           have hgo := H81.out.2.2.2
           exact ⟨H81.out.1.set 2 _, H81.out.2.1.other (by simp only; omega) _, bel_set H81.out.2.2.1 (by simp only; omega) _, hgo⟩)
          rw [← hwA]
          clear hwA
          have c8 := H82.out.1.cell; have l8 := H82.out.1.lt
          have cs := H82.out.2.1.cell; have ls := H82.out.2.1.lt
          go_wp2_with fail
          clear c8 l8 cs ls
          refine (HS1.out _).mono ?_
          rintro e w4 ⟨rfl, hb⟩
          have HE4 := Lib.hid (And.intro (H82.out.2.1.grow hb) (bel_trans H82.out.2.2.1 hb))
          clear hb
          cases q with
          | false =>
           have HV : Hid (F (648 * Z + 72 * Y + 8 * X + 7) = F (648 * Z + 72 * Y + 8 * X + 6)) := Lib.hid (HKK.out.trans (by simp))
           go_wp2_with fail
           go_roundw
           case rel => exact ⟨7, by omega, by go_num, by rw [HV.out], HE4⟩
           case measure => simp [intOf]
          | true =>
           have HV : Hid (F (648 * Z + 72 * Y + 8 * X + 7) = F (648 * Z + 72 * Y + 8 * X + 6) + 1) := Lib.hid (HKK.out.trans (by simp <;> omega))
           have hab := HA.out (648 * Z + 72 * Y + 8 * X + 6)
           have hwv : wrap64 (F (648 * Z + 72 * Y + 8 * X + 6) + 1) = F (648 * Z + 72 * Y + 8 * X + 6) + 1 := IntWalk.wrap64_in _ ⟨by omega, by omega⟩
           clear hab
           go_wp2_with fail
           go_roundw
           case rel => exact ⟨7, by omega, by go_num, by first | (rw [HV.out, hwv]; done) | (rw [HV.out]; done), HE4⟩
           case measure => simp [intOf]
         ·have HKK := Lib.hid (HK.out X Y Z 7 hX hY (by omega))
          have hlow : lowK X Y Z (7 % 2) (7 / 2 % 2) (7 / 4) = ((X : Int), (Y : Int), (Z : Int)) := Prod.ext (by show (X : Int) - 1 + ((7 % 2 : Nat) : Int) = (X : Int); omega) (Prod.ext (by show (Y : Int) - 1 + ((7 / 2 % 2 : Nat) : Int) = (Y : Int); omega) (by show (Z : Int) - 1 + ((7 / 4 : Nat) : Int) = (Z : Int); omega))
          rw [hlow] at HKK
          have HS1 := Lib.hid fun W => HSo.out ((X : Int), (Y : Int), (Z : Int)) ((X : Int), (Y : Int), (Z : Int)) (co_in3 ⟨by omega, by omega⟩ ⟨by omega, by omega⟩ ⟨by omega, by omega⟩) (co_in3 ⟨by omega, by omega⟩ ⟨by omega, by omega⟩ ⟨by omega, by omega⟩) W
          obtain ⟨q, hq⟩ : ∃ q, q = someB s ((X : Int), (Y : Int), (Z : Int)) ((X : Int), (Y : Int), (Z : Int)) := ⟨_, rfl⟩
          rw [← hq] at HKK HS1
          clear hlow hq
          go_upto_region 16 with fail
          obtain ⟨wA, hwA⟩ : ∃ x, x = wr.alloc (.cells #[.int .i64 ((X : Int) - 1), .int .i64 ((Y : Int) - 1), .int .i64 ((Z : Int) - 1)] 60) := ⟨_, rfl⟩
          obtain ⟨g8, hg8⟩ : ∃ x, x = wr.heap.size := ⟨_, rfl⟩
          have H8 : Hid (Blk wA g8 #[.int .i64 ((X : Int) - 1), .int .i64 ((Y : Int) - 1), .int .i64 ((Z : Int) - 1)] 60 ∧ Blk wA w.heap.size #[.int .u64 (pl s 0), .int .u64 (pl s 1), .int .u64 (pl s 2), .int .u64 (pl s 3), .int .u64 (pl s 4), .int .u64 (pl s 5), .int .u64 (pl s 6), .int .u64 (pl s 7)] 26 ∧ Below w.heap.size w wA ∧ w.heap.size < g8) := Lib.hid (by
           rw [hwA, hg8]
           exact ⟨Blk.new _ _ _, HM.out.1.alloc _, bel_alloc HM.out.2 _, HM.out.1.lt⟩)
          rw [← hwA, ← hg8]
          clear hwA hg8
          have c8 := H8.out.1.cell; have l8 := H8.out.1.lt; have f8 := H8.out.1.free 0
          go_upto_region 19 with fail
          clear c8 l8 f8
          obtain ⟨wA1, hwA⟩ : ∃ x, x = wA.setCell ⟨g8, 0, none⟩ (.int .i64 (X : Int)) := ⟨_, rfl⟩
          have H81 : Hid (Blk wA1 g8 #[.int .i64 (X : Int), .int .i64 ((Y : Int) - 1), .int .i64 ((Z : Int) - 1)] 60 ∧ Blk wA1 w.heap.size #[.int .u64 (pl s 0), .int .u64 (pl s 1), .int .u64 (pl s 2), .int .u64 (pl s 3), .int .u64 (pl s 4), .int .u64 (pl s 5), .int .u64 (pl s 6), .int .u64 (pl s 7)] 26 ∧ Below w.heap.size w wA1 ∧ w.heap.size < g8) := Lib.hid (by
           rw [hwA]
           have hgo := H8.out.2.2.2
           exact ⟨H8.out.1.set 0 _, H8.out.2.1.other (by simp only; omega) _, bel_set H8.out.2.2.1 (by simp only; omega) _, hgo⟩)
          rw [← hwA]
          clear hwA
          have c8 := H81.out.1.cell; have l8 := H81.out.1.lt; have f8 := H81.out.1.free 1
          go_upto_region 22 with fail
          clear c8 l8 f8
          obtain ⟨wA2, hwA⟩ : ∃ x, x = wA1.setCell ⟨g8, 1, none⟩ (.int .i64 (Y : Int)) := ⟨_, rfl⟩
          have H82 : Hid (Blk wA2 g8 #[.int .i64 (X : Int), .int .i64 (Y : Int), .int .i64 ((Z : Int) - 1)] 60 ∧ Blk wA2 w.heap.size #[.int .u64 (pl s 0), .int .u64 (pl s 1), .int .u64 (pl s 2), .int .u64 (pl s 3), .int .u64 (pl s 4), .int .u64 (pl s 5), .int .u64 (pl s 6), .int .u64 (pl s 7)] 26 ∧ Below w.heap.size w wA2 ∧ w.heap.size < g8) := Lib.hid (by
           rw [hwA]
           have hgo := H81.out.2.2.2
           exact ⟨H81.out.1.set 1 _, H81.out.2.1.other (by simp only; omega) _, bel_set H81.out.2.2.1 (by simp only; omega) _, hgo⟩)
          rw [← hwA]
          clear hwA
          have c8 := H82.out.1.cell; have l8 := H82.out.1.lt; have f8 := H82.out.1.free 2
          go_upto_region 25 with fail
          clear c8 l8 f8
          obtain ⟨wA3, hwA⟩ : ∃ x, x = wA2.setCell ⟨g8, 2, none⟩ (.int .i64 (Z : Int)) := ⟨_, rfl⟩
          have H83 : Hid (Blk wA3 g8 #[.int .i64 (X : Int), .int .i64 (Y : Int), .int .i64 (Z : Int)] 60 ∧ Blk wA3 w.heap.size #[.int .u64 (pl s 0), .int .u64 (pl s 1), .int .u64 (pl s 2), .int .u64 (pl s 3), .int .u64 (pl s 4), .int .u64 (pl s 5), .int .u64 (pl s 6), .int .u64 (pl s 7)] 26 ∧ Below w.heap.size w wA3 ∧ w.heap.size < g8) := Lib.hid (by
           rw [hwA]
           have hgo := H82.out.2.2.2
           exact ⟨H82.out.1.set 2 _, H82.out.2.1.other (by simp only; omega) _, bel_set H82.out.2.2.1 (by simp only; omega) _, hgo⟩)
          rw [← hwA]
          clear hwA
          have c8 := H83.out.1.cell; have l8 := H83.out.1.lt
          have cs := H83.out.2.1.cell; have ls := H83.out.2.1.lt
          go_wp2_with fail
          clear c8 l8 cs ls
          refine (HS1.out _).mono ?_
          rintro e w4 ⟨rfl, hb⟩
          have HE4 := Lib.hid (And.intro (H83.out.2.1.grow hb) (bel_trans H83.out.2.2.1 hb))
          clear hb
          cases q with
          | false =>
           have HV : Hid (F (648 * Z + 72 * Y + 8 * X + 8) = F (648 * Z + 72 * Y + 8 * X + 7)) := Lib.hid (HKK.out.trans (by simp))
           go_wp2_with fail
           go_roundw
           case rel => exact ⟨8, by omega, by go_num, by rw [HV.out], HE4⟩
           case measure => simp [intOf]
          | true =>
           have HV : Hid (F (648 * Z + 72 * Y + 8 * X + 8) = F (648 * Z + 72 * Y + 8 * X + 7) - 1) := Lib.hid (HKK.out.trans (by simp <;> omega))
           have hab := HA.out (648 * Z + 72 * Y + 8 * X + 7)
           have hwv : wrap64 (F (648 * Z + 72 * Y + 8 * X + 7) - 1) = F (648 * Z + 72 * Y + 8 * X + 7) - 1 := IntWalk.wrap64_in _ ⟨by omega, by omega⟩
           clear hab
           go_wp2_with fail
           go_roundw
           case rel => exact ⟨8, by omega, by go_num, by first | (rw [HV.out, hwv]; done) | (rw [HV.out]; done), HE4⟩
           case measure => simp [intOf]
        ·obtain rfl : k = 8 := by omega
         go_wp2_with fail
         go_roundw
         case rel => exact ⟨X + 1, by omega, by go_num, by rw [show 648 * Z + 72 * Y + 8 * X + 8 = 648 * Z + 72 * Y + 8 * (X + 1) by omega], HM⟩
         case measure => simp [intOf]; omega
      ·obtain rfl : X = 9 := by omega
       go_wp2_with fail
       go_roundw
       case rel => exact ⟨Y + 1, by omega, by go_num, by rw [show 648 * Z + 72 * Y + 8 * 9 = 648 * Z + 72 * (Y + 1) by omega], HX0⟩
       case measure => simp [intOf]; omega
    ·obtain rfl : Y = 9 := by omega
     go_wp2_with fail
     go_roundw
     case rel => exact ⟨Z + 1, by omega, by go_num, by rw [show 648 * Z + 72 * 9 = 648 * (Z + 1) by omega], HY0⟩
     case measure => simp [intOf]; omega
  ·obtain rfl : Z = 9 := by omega
   go_wp2_with fail
   go_ret
   exact ⟨ret_int (by rw [show 648 * 9 = 5832 from rfl, HE.out]), HZ.out.2⟩
end Go.Proofs.YtkfimbonmnoglaaGreatDoor
end
