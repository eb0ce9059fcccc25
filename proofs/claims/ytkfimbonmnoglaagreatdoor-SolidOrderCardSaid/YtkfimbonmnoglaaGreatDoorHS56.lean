import Derived.Test.YtkfimbonmnoglaaGreatDoorG30
import Derived.Test.YtkfimbonmnoglaaGreatDoorHSo25
import Derived.Deep.Cut
/-
  Given contracts of functions of the program, and laws for them, one behind the other.
-/
set_option linter.unusedVariables false
set_option linter.unusedSimpArgs false
set_option linter.unusedSectionVars false
section
namespace Go.Proofs.YtkfimbonmnoglaaGreatDoor
open Go.RowKit Go.Rel Go.Draw Go.Solid
set_option maxRecDepth 100000
attribute [local go_sem] Oper.semAt_some
/-! SolidOrder: its walk -/
def BxI (N : Nat) (a : Bool) (v : Value) (W : World) : Prop := N ≤ W.heap.size ∧ (a = true → ∃ b c0 c1 c2 c3, N ≤ b ∧ v = .pointer (some ⟨b, 0, none⟩) ∧ Blk W b #[c0, c1, c2, c3] 23)
theorem BxI.bel {N : Nat} {a : Bool} {v : Value} {W W' : World} (h : BxI N a v W) (hb : Below W.heap.size W W') : BxI N a v W' := ⟨Nat.le_trans h.1 hb.size, fun e => by
 obtain ⟨b, c0, c1, c2, c3, h1, h2, h3⟩ := h.2 e
 exact ⟨b, c0, c1, c2, c3, h1, h2, h3.grow hb⟩⟩
theorem BxI.start {N : Nat} {v : Value} {W : World} (h : N ≤ W.heap.size) : BxI N false v W := ⟨h, fun e => by cases e⟩
theorem BxI.new {N : Nat} {a : Bool} {v : Value} {W : World} (h : BxI N a v W) (c0 c1 c2 c3 : Value) : BxI N true (.pointer (some ⟨W.heap.size, 0, none⟩)) (W.alloc (.cells #[c0, c1, c2, c3] 23)) :=
 ⟨by rw [World.size_alloc]; have := h.1; omega, fun _ => ⟨_, c0, c1, c2, c3, h.1, rfl, Blk.new _ _ _⟩⟩
theorem BxI.le {N : Nat} {a : Bool} {v : Value} {W : World} (h : BxI N a v W) : N ≤ W.heap.size := h.1
theorem BxI.get {N : Nat} {a : Bool} {v : Value} {W : World} (h : BxI N a v W) (ha : a = true) : ∃ b c0 c1 c2 c3, N ≤ b ∧ v = .pointer (some ⟨b, 0, none⟩) ∧ Blk W b #[c0, c1, c2, c3] 23 := h.2 ha
theorem BxI.row {N b : Nat} {W : World} (hN : N ≤ W.heap.size) (hb : N ≤ b) {c : Array Value} (h : Blk W b c 23) (c0 c1 c2 c3 : Value) : BxI N true (.pointer (some ⟨b, 0, none⟩)) (W.setRow b #[c0, c1, c2, c3]) :=
 ⟨by rw [setRow_size]; exact hN, fun _ => ⟨b, c0, c1, c2, c3, hb, rfl, h.rowS _⟩⟩
def IsFit (k : Bool) : Value → World → Prop := fun v _ => ∃ q1 q2 q3 q4 : Int, v = .tuple #[.agg #[.int .i64 q1, .int .i64 q2, .int .i64 q3, .int .i64 q4], .bool k]
def IsMot : Value → World → Prop := fun v _ => ∃ q1 q2 q3 q4 : Int, v = .agg #[.int .i64 q1, .int .i64 q2, .int .i64 q3, .int .i64 q4]
attribute [local irreducible] BxI
set_option maxHeartbeats 16000000 in
theorem SolidOrder_walk (a b c d : Sol) (w : World) (hT : Tab w) (hC : ∀ W, Below w.heap.size w W → Calls Tryz.prog 25 #[] W fun e w' => e = .returned (.bool true) ∧ Below W.heap.size W w') :
  Calls Tryz.prog 14 #[solV a, solV b, solV c, solV d] w fun e w' => e = .returned (.bool true) ∧ Below w.heap.size w w' := by
 have HT := Lib.hid (fun W (hb : Below w.heap.size w W) => hT.grow hb)
 have HC := Lib.hid hC
 clear hT hC
 have HF : Hid (∀ x y W, Below w.heap.size w W → Calls Tryz.prog 51 #[solV x, solV y] W fun e w' => (∃ q1 q2 q3 q4 : Int, e = .returned (.tuple #[.agg #[.int .i64 q1, .int .i64 q2, .int .i64 q3, .int .i64 q4], .bool (fitS x y)])) ∧ Below W.heap.size W w') := Lib.hid fun x y W hb => fit_call x y W (HT.out W hb)
 have HLs : Hid (∀ W, Below w.heap.size w W → Calls Tryz.prog 63 #[solV b, solV d] W fun e w' => e = .returned (solV (b &&& ~~~d)) ∧ Below W.heap.size W w') := Lib.hid fun W _ => less_spec b d W
 have HJn : Hid (∀ W, Below w.heap.size w W → Calls Tryz.prog 57 #[solV a, solV d] W fun e w' => e = .returned (solV (a ||| d)) ∧ Below W.heap.size W w') := Lib.hid fun W _ => join_spec a d W
 have x1 := ord_refl a
 have HL := Lib.hid (And.intro (@ord_trans a b c) (And.intro (@ord_count a b) (And.intro (fun h => @ord_less a b d h) (fun h => @ord_join a b d h))))
 obtain ⟨p0, hp0⟩ : ∃ p, p = fitS a b := ⟨_, rfl⟩
 go_enter Tryz.func14, Tryz.ntmps14
 go_wp2_with fail
 obtain ⟨wO, hw1⟩ : ∃ wO, wO = (((w.alloc (.cells #[.int .u64 (pl a 0), .int .u64 (pl a 1), .int .u64 (pl a 2), .int .u64 (pl a 3), .int .u64 (pl a 4), .int .u64 (pl a 5), .int .u64 (pl a 6), .int .u64 (pl a 7)] 26)).alloc (.cells #[.int .u64 (pl b 0), .int .u64 (pl b 1), .int .u64 (pl b 2), .int .u64 (pl b 3), .int .u64 (pl b 4), .int .u64 (pl b 5), .int .u64 (pl b 6), .int .u64 (pl b 7)] 26)).alloc (.cells #[.int .u64 (pl c 0), .int .u64 (pl c 1), .int .u64 (pl c 2), .int .u64 (pl c 3), .int .u64 (pl c 4), .int .u64 (pl c 5), .int .u64 (pl c 6), .int .u64 (pl c 7)] 26)).alloc (.cells #[.int .u64 (pl d 0), .int .u64 (pl d 1), .int .u64 (pl d 2), .int .u64 (pl d 3), .int .u64 (pl d 4), .int .u64 (pl d 5), .int .u64 (pl d 6), .int .u64 (pl d 7)] 26) := ⟨_, rfl⟩
 have bs : Blk wO w.heap.size #[.int .u64 (pl a 0), .int .u64 (pl a 1), .int .u64 (pl a 2), .int .u64 (pl a 3), .int .u64 (pl a 4), .int .u64 (pl a 5), .int .u64 (pl a 6), .int .u64 (pl a 7)] 26 ∧ Blk wO (w.heap.size + 1) #[.int .u64 (pl b 0), .int .u64 (pl b 1), .int .u64 (pl b 2), .int .u64 (pl b 3), .int .u64 (pl b 4), .int .u64 (pl b 5), .int .u64 (pl b 6), .int .u64 (pl b 7)] 26 ∧ Blk wO (w.heap.size + 1 + 1) #[.int .u64 (pl c 0), .int .u64 (pl c 1), .int .u64 (pl c 2), .int .u64 (pl c 3), .int .u64 (pl c 4), .int .u64 (pl c 5), .int .u64 (pl c 6), .int .u64 (pl c 7)] 26 ∧ Blk wO (w.heap.size + 1 + 1 + 1) #[.int .u64 (pl d 0), .int .u64 (pl d 1), .int .u64 (pl d 2), .int .u64 (pl d 3), .int .u64 (pl d 4), .int .u64 (pl d 5), .int .u64 (pl d 6), .int .u64 (pl d 7)] 26 ∧ Below w.heap.size w wO := by
  rw [hw1]
  exact ⟨(by repeat (first | with_reducible assumption | (refine Blk.at _ _ ?_; (simp; done)) | with_reducible refine Blk.alloc ?_ _ | with_reducible refine Blk.drew ?_ | with_reducible refine Blk.rowS ?_ _ | with_reducible refine Blk.rowO ?_ _ (by simp))), (by repeat (first | with_reducible assumption | (refine Blk.at _ _ ?_; (simp; done)) | with_reducible refine Blk.alloc ?_ _ | with_reducible refine Blk.drew ?_ | with_reducible refine Blk.rowS ?_ _ | with_reducible refine Blk.rowO ?_ _ (by simp))), (by repeat (first | with_reducible assumption | (refine Blk.at _ _ ?_; (simp; done)) | with_reducible refine Blk.alloc ?_ _ | with_reducible refine Blk.drew ?_ | with_reducible refine Blk.rowS ?_ _ | with_reducible refine Blk.rowO ?_ _ (by simp))), Blk.at _ _ (by simp), (by repeat (first | with_reducible exact bel_refl _ | with_reducible assumption | with_reducible refine bel_drewN ?_ _ | with_reducible refine bel_drew ?_ | with_reducible refine bel_alloc ?_ _ | with_reducible refine bel_row ?_ ?_ _ | with_reducible refine bel_set ?_ ?_ _ | refine bel_trans ?_ (by with_reducible assumption) | (simp; done) | (simp; omega)))⟩
 rw [← hw1]
 have HB := Lib.hid bs
 clear hw1 bs
 refine (HF.out a a _ HB.out.2.2.2.2).mono ?_
 rintro e w2 ⟨⟨q01, q02, q03, q04, rfl⟩, hb⟩
 have HB2 : Hid (Below wO.heap.size wO w2) := Lib.hid (hb)
 clear hb
 have ca := (HB.out.1.grow HB2.out).cell; have la := (HB.out.1.grow HB2.out).lt
 have cb := (HB.out.2.1.grow HB2.out).cell; have lb := (HB.out.2.1.grow HB2.out).lt
 have cc := (HB.out.2.2.1.grow HB2.out).cell; have lc := (HB.out.2.2.1.grow HB2.out).lt
 have cd := (HB.out.2.2.2.1.grow HB2.out).cell; have ld := (HB.out.2.2.2.1.grow HB2.out).lt
 go_wp2_with fail
 clear ca la cb lb cc lc cd ld
 refine (HF.out a b _ (bel_alloc (bel_trans HB.out.2.2.2.2 HB2.out) _)).mono ?_
 rintro e w3 ⟨⟨q11, q12, q13, q14, rfl⟩, hb⟩
 have HB3 : Hid (Below wO.heap.size wO w3) := Lib.hid (bel_trans (bel_alloc HB2.out _) hb)
 clear hb
 have ca := (HB.out.1.grow HB3.out).cell; have la := (HB.out.1.grow HB3.out).lt
 have cb := (HB.out.2.1.grow HB3.out).cell; have lb := (HB.out.2.1.grow HB3.out).lt
 have cc := (HB.out.2.2.1.grow HB3.out).cell; have lc := (HB.out.2.2.1.grow HB3.out).lt
 have cd := (HB.out.2.2.2.1.grow HB3.out).cell; have ld := (HB.out.2.2.2.1.grow HB3.out).lt
 go_wp2_with fail
 clear ca la cb lb cc lc cd ld
 refine (HF.out b c _ (bel_alloc (bel_trans HB.out.2.2.2.2 HB3.out) _)).mono ?_
 rintro e w4 ⟨⟨q21, q22, q23, q24, rfl⟩, hb⟩
 have HB4 : Hid (Below wO.heap.size wO w4) := Lib.hid (bel_trans (bel_alloc HB3.out _) hb)
 clear hb
 have ca := (HB.out.1.grow HB4.out).cell; have la := (HB.out.1.grow HB4.out).lt
 have cb := (HB.out.2.1.grow HB4.out).cell; have lb := (HB.out.2.1.grow HB4.out).lt
 have cc := (HB.out.2.2.1.grow HB4.out).cell; have lc := (HB.out.2.2.1.grow HB4.out).lt
 have cd := (HB.out.2.2.2.1.grow HB4.out).cell; have ld := (HB.out.2.2.2.1.grow HB4.out).lt
 go_wp2_with fail
 clear ca la cb lb cc lc cd ld
 refine (HF.out a c _ (bel_alloc (bel_trans HB.out.2.2.2.2 HB4.out) _)).mono ?_
 rintro e w5 ⟨⟨q31, q32, q33, q34, rfl⟩, hb⟩
 have HB5 : Hid (Below wO.heap.size wO w5) := Lib.hid (bel_trans (bel_alloc HB4.out _) hb)
 clear hb
 have ca := (HB.out.1.grow HB5.out).cell; have la := (HB.out.1.grow HB5.out).lt
 have cb := (HB.out.2.1.grow HB5.out).cell; have lb := (HB.out.2.1.grow HB5.out).lt
 have cc := (HB.out.2.2.1.grow HB5.out).cell; have lc := (HB.out.2.2.1.grow HB5.out).lt
 have cd := (HB.out.2.2.2.1.grow HB5.out).cell; have ld := (HB.out.2.2.2.1.grow HB5.out).lt
 go_upto_region 5 with fail
 clear ca la cb lb cc lc cd ld
 obtain ⟨wA5, hwA⟩ : ∃ wA, wA = w5.alloc (.cells #[.int .i64 q31, .int .i64 q32, .int .i64 q33, .int .i64 q34] 23) := ⟨_, rfl⟩
 have HA5 : Hid (Below wO.heap.size wO wA5) := Lib.hid (by rw [hwA]; exact bel_alloc HB5.out _)
 have HW5 : Hid (Below w.heap.size w wA5) := Lib.hid (bel_trans HB.out.2.2.2.2 HA5.out)
 rw [← hwA]
 clear hwA
 refine wp_region_val (Below wA5.heap.size) (fun L vs W => BxI wA5.heap.size (L 8) (vs 8) W ∧ Below wA5.heap.size wA5 W) [Is (solV a), Is (solV b), Is (solV d), Is (solV (b &&& ~~~d)), IsFit (fitS a (b &&& ~~~d)), IsFit (fitS a (b &&& ~~~d)), IsMot, Is (.bool (fitS a (b &&& ~~~d))), AnyV, AnyV, Is (.bool (fitS a (b &&& ~~~d)))] (by kernel_rfl) (by kernel_rfl) rfl (Below.refl wA5.heap.size) (fun _ _ _ => Below.trans) (stable_mem ⟨fun _ _ _ h _ => h, fun _ _ _ h _ => h, fun _ _ _ h _ => h, fun _ _ _ h _ => h, fun _ _ _ h _ => h, fun _ _ _ h _ => h, fun _ _ _ h _ => h, fun _ _ _ h _ => h, fun _ _ _ h _ => h, fun _ _ _ h _ => h, fun _ _ _ h _ => h, trivial⟩) wA5 (Below.drew (Below.refl _ _)) (And.intro (BxI.start (Nat.le_refl _)) (Below.drew (Below.refl _ _))) ?_
 refine val_cons ?_ (fun v0 => ?_)
 ·intro L vs w1 hvs hat hb hI hF; try simp [factsI, Region.binds, Is] at hF
  have D := HB.out.1.grow (bel_trans HA5.out hI.2)
  have cD := D.cell; have lD := D.lt
  have HI2 := Lib.hid hI; clear hI D
  go_simp
  refine ⟨Below.refl _ _, ?_⟩
  first | (simpa [upd] using HI2.out) | (simpa [upd] using HI2.out.1)
 refine val_cons ?_ (fun v1 => ?_)
 ·intro L vs w1 hvs hat hb hI hF; try simp [factsI, Region.binds, Is] at hF
  have D := HB.out.2.1.grow (bel_trans HA5.out hI.2)
  have cD := D.cell; have lD := D.lt
  have HI2 := Lib.hid hI; clear hI D
  go_simp
  refine ⟨Below.refl _ _, ?_⟩
  first | (simpa [upd] using HI2.out) | (simpa [upd] using HI2.out.1)
 refine val_cons ?_ (fun v2 => ?_)
 ·intro L vs w1 hvs hat hb hI hF; try simp [factsI, Region.binds, Is] at hF
  have D := HB.out.2.2.2.1.grow (bel_trans HA5.out hI.2)
  have cD := D.cell; have lD := D.lt
  have HI2 := Lib.hid hI; clear hI D
  go_simp
  refine ⟨Below.refl _ _, ?_⟩
  first | (simpa [upd] using HI2.out) | (simpa [upd] using HI2.out.1)
 refine val_cons ?_ (fun v3 => ?_)
 ·intro L vs w1 hvs hat hb hI hF; try simp [factsI, Region.binds, Is] at hF
  have hbw := bel_trans HW5.out hI.2
  have HI2 := Lib.hid hI; clear hI
  go_simp
  refine (HLs.out _ hbw).mono ?_
  rintro e w2 ⟨rfl, hb2⟩
  have hle := HI2.out.2.size
  refine ⟨_, rfl, hb2.mono hle, ?_, rfl⟩
  simpa [upd] using And.intro (HI2.out.1.bel hb2) (HI2.out.2.trans (hb2.mono hle))
 refine val_cons ?_ (fun v4 => ?_)
 ·intro L vs w1 hvs hat hb hI hF; try simp [factsI, Region.binds, Is] at hF
  have hbw := bel_trans HW5.out hI.2
  have HI2 := Lib.hid hI; clear hI
  go_simp
  refine (HF.out a (b &&& ~~~d) _ hbw).mono ?_
  rintro e w2 ⟨⟨q1, q2, q3, q4, rfl⟩, hb2⟩
  have hle := HI2.out.2.size
  refine ⟨_, rfl, hb2.mono hle, ?_, ⟨q1, q2, q3, q4, rfl⟩⟩
  simpa [upd] using And.intro (HI2.out.1.bel hb2) (HI2.out.2.trans (hb2.mono hle))
 refine val_cons ?_ (fun v5 => ?_)
 ·intro L vs w1 hvs hat hb hI hF; try simp [factsI, Region.binds, Is] at hF
  have hF2 : IsFit (fitS a (b &&& ~~~d)) v4 w1 := by first | exact hF | exact hF.1 | exact hF.2
  obtain ⟨q1, q2, q3, q4, hv⟩ := hF2
  subst hv
  have HI2 := Lib.hid hI; clear hI
  go_simp
  first
   | exact ⟨Below.refl _ _, (by first | (simpa [upd] using HI2.out) | (simpa [upd] using HI2.out.1)), ⟨q1, q2, q3, q4, rfl⟩⟩
   | (refine ⟨Below.refl _ _, ?_⟩; first | (simpa [upd] using HI2.out) | (simpa [upd] using HI2.out.1) | exact ⟨by simpa [upd] using HI2.out, ⟨q1, q2, q3, q4, rfl⟩⟩ | exact ⟨by simpa [upd] using HI2.out.1, ⟨q1, q2, q3, q4, rfl⟩⟩ | exact ⟨by simpa [upd] using HI2.out.1, HI2.out.2, ⟨q1, q2, q3, q4, rfl⟩⟩)
 refine val_cons ?_ (fun v6 => ?_)
 ·intro L vs w1 hvs hat hb hI hF; try simp [factsI, Region.binds, Is] at hF
  have hF2 : IsFit (fitS a (b &&& ~~~d)) v5 w1 := by first | exact hF | exact hF.1 | exact hF.2
  obtain ⟨q1, q2, q3, q4, hv⟩ := hF2
  subst hv
  have HI2 := Lib.hid hI; clear hI
  go_simp
  first
   | exact ⟨Below.refl _ _, (by first | (simpa [upd] using HI2.out) | (simpa [upd] using HI2.out.1)), ⟨q1, q2, q3, q4, rfl⟩⟩
   | (refine ⟨Below.refl _ _, ?_⟩; first | (simpa [upd] using HI2.out) | (simpa [upd] using HI2.out.1) | exact ⟨by simpa [upd] using HI2.out, ⟨q1, q2, q3, q4, rfl⟩⟩ | exact ⟨by simpa [upd] using HI2.out.1, ⟨q1, q2, q3, q4, rfl⟩⟩ | exact ⟨by simpa [upd] using HI2.out.1, HI2.out.2, ⟨q1, q2, q3, q4, rfl⟩⟩)
 refine val_cons ?_ (fun v7 => ?_)
 ·intro L vs w1 hvs hat hb hI hF; try simp [factsI, Region.binds, Is] at hF
  have hF2 : IsFit (fitS a (b &&& ~~~d)) v5 w1 := by first | exact hF | exact hF.1 | exact hF.2
  obtain ⟨q1, q2, q3, q4, hv⟩ := hF2
  subst hv
  have HI2 := Lib.hid hI; clear hI
  go_simp
  refine ⟨Below.refl _ _, ?_⟩
  first | (simpa [upd] using HI2.out) | (simpa [upd] using HI2.out.1)
 refine val_cons ?_ (fun v8 => ?_)
 ·intro L vs w1 hvs hat hb hI hF; try simp [factsI, Region.binds, Is] at hF
  have HI2 := Lib.hid hI; clear hI
  have hle := HI2.out.1.le
  go_simp
  refine ⟨below_allocN (Below.refl _ _) hle _, ?_, trivial⟩
  simpa [upd] using And.intro (HI2.out.1.new (.int .i64 0) (.int .i64 0) (.int .i64 0) (.int .i64 0)) (below_allocN HI2.out.2 hle _)
 refine val_cons ?_ (fun v9 => ?_)
 ·intro L vs w1 hvs hat hb hI hF; try simp [factsI, Region.binds, Is] at hF
  have h8 := hat.ahead 40 8 (by kernel_rfl)
  have hv8 : vs 8 = v8 := hvs 8 (by omega)
  have hF2 : IsMot v6 w1 := by first | exact hF | exact hF.1 | exact hF.2 | exact hF.1.1 | exact hF.1.2 | exact hF.2.1 | exact hF.2.2
  obtain ⟨q1, q2, q3, q4, hv⟩ := hF2
  subst hv
  have HI2 := Lib.hid hI
  obtain ⟨b8, c0, c1, c2, c3, hle8, e1, hB8⟩ := hI.1.get h8
  rw [hv8] at e1
  subst e1
  have HR := Lib.hid (BxI.row hI.1.le hle8 hB8 (.int .i64 q1) (.int .i64 q2) (.int .i64 q3) (.int .i64 q4))
  have hB9 := blw_rowsS (w := w1) hle8 #[c0, c1, c2, c3] #[.int .i64 q1, .int .i64 q2, .int .i64 q3, .int .i64 q4]
  rw [hB8.rw] at hB9
  have HR2 := Lib.hid (hI.2.trans hB9)
  clear hB9
  have r8 := hB8.row; have l8 := hB8.lt
  have HLE := Lib.hid hle8
  rw [← hB8.rw]
  clear hI hB8 hvs
  go_simp
  refine ⟨blw_rowsS HLE.out _ _, ?_, trivial⟩
  simpa [upd, h8, hv8] using And.intro HR.out HR2.out
 refine val_cons ?_ (fun v10 => ?_)
 ·intro L vs w1 hvs hat hb hI hF; try simp [factsI, Region.binds, Is] at hF
  have HI2 := Lib.hid hI; clear hI
  go_simp
  refine ⟨Below.refl _ _, ?_⟩
  first | (simpa [upd] using HI2.out) | (simpa [upd] using HI2.out.1)
 refine val_nil ?_
 intro vs w1 hvs hb hI hF
 simp [Is, Nat.forall_lt_succ_right] at hF
 have e0 := hF.1.1.1.1.1.1.1.1.1.1
 have e1 := hF.1.1.1.1.1.1.1.1.1.2
 have e2 := hF.1.1.1.1.1.1.1.1.2
 have e3 := hF.1.1.1.1.1.1.1.2
 have e4 := hF.1.1.1.1.1.1.2
 have e5 := hF.1.1.1.1.1.2
 have e6 := hF.1.1.1.1.2
 have e7 := hF.1.1.1.2
 have e8 := hF.1.1.2
 have e9 := hF.1.2
 have e10 := hF.2
 clear hF
 simp only [Act.put, List.setIfInBounds_toArray, List.set_cons_succ, List.set_cons_zero, e0, e1, e2, e3, e7, e10]
 clear e0 e1 e2 e3 e7 e10
 have hbn : Below wA5.heap.size wA5 w1 := hI.2
 have HZ5 : Hid (Below wO.heap.size wO w1) := Lib.hid (bel_trans HA5.out hbn)
 obtain ⟨wN5, hwN⟩ : ∃ wN, wN = w1 := ⟨_, rfl⟩
 rw [← hwN] at HZ5 ⊢
 clear hI hb hvs hbn hwN e4 e5 e6 e8 e9
 go_upto_region 6 with fail
 obtain ⟨wA6, hwA⟩ : ∃ wA, wA = wN5 := ⟨_, rfl⟩
 have HA6 : Hid (Below wO.heap.size wO wA6) := Lib.hid (by rw [hwA]; exact HZ5.out)
 have HW6 : Hid (Below w.heap.size w wA6) := Lib.hid (bel_trans HB.out.2.2.2.2 HA6.out)
 rw [← hwA]
 clear hwA
 refine wp_region_val (Below wA6.heap.size) (fun L vs W => BxI wA6.heap.size (L 8) (vs 8) W ∧ Below wA6.heap.size wA6 W) [Is (solV a), Is (solV d), Is (solV (a ||| d)), Is (solV b), IsFit (fitS (a ||| d) b), IsFit (fitS (a ||| d) b), IsMot, Is (.bool (fitS (a ||| d) b)), AnyV, AnyV, Is (.bool (fitS (a ||| d) b))] (by kernel_rfl) (by kernel_rfl) rfl (Below.refl wA6.heap.size) (fun _ _ _ => Below.trans) (stable_mem ⟨fun _ _ _ h _ => h, fun _ _ _ h _ => h, fun _ _ _ h _ => h, fun _ _ _ h _ => h, fun _ _ _ h _ => h, fun _ _ _ h _ => h, fun _ _ _ h _ => h, fun _ _ _ h _ => h, fun _ _ _ h _ => h, fun _ _ _ h _ => h, fun _ _ _ h _ => h, trivial⟩) wA6 (Below.drew (Below.refl _ _)) (And.intro (BxI.start (Nat.le_refl _)) (Below.drew (Below.refl _ _))) ?_
 refine val_cons ?_ (fun v0 => ?_)
 ·intro L vs w1 hvs hat hb hI hF; try simp [factsI, Region.binds, Is] at hF
  have D := HB.out.1.grow (bel_trans HA6.out hI.2)
  have cD := D.cell; have lD := D.lt
  have HI2 := Lib.hid hI; clear hI D
  go_simp
  refine ⟨Below.refl _ _, ?_⟩
  first | (simpa [upd] using HI2.out) | (simpa [upd] using HI2.out.1)
 refine val_cons ?_ (fun v1 => ?_)
 ·intro L vs w1 hvs hat hb hI hF; try simp [factsI, Region.binds, Is] at hF
  have D := HB.out.2.2.2.1.grow (bel_trans HA6.out hI.2)
  have cD := D.cell; have lD := D.lt
  have HI2 := Lib.hid hI; clear hI D
  go_simp
  refine ⟨Below.refl _ _, ?_⟩
  first | (simpa [upd] using HI2.out) | (simpa [upd] using HI2.out.1)
 refine val_cons ?_ (fun v2 => ?_)
 ·intro L vs w1 hvs hat hb hI hF; try simp [factsI, Region.binds, Is] at hF
  have hbw := bel_trans HW6.out hI.2
  have HI2 := Lib.hid hI; clear hI
  go_simp
  refine (HJn.out _ hbw).mono ?_
  rintro e w2 ⟨rfl, hb2⟩
  have hle := HI2.out.2.size
  refine ⟨_, rfl, hb2.mono hle, ?_, rfl⟩
  simpa [upd] using And.intro (HI2.out.1.bel hb2) (HI2.out.2.trans (hb2.mono hle))
 refine val_cons ?_ (fun v3 => ?_)
 ·intro L vs w1 hvs hat hb hI hF; try simp [factsI, Region.binds, Is] at hF
  have D := HB.out.2.1.grow (bel_trans HA6.out hI.2)
  have cD := D.cell; have lD := D.lt
  have HI2 := Lib.hid hI; clear hI D
  go_simp
  refine ⟨Below.refl _ _, ?_⟩
  first | (simpa [upd] using HI2.out) | (simpa [upd] using HI2.out.1)
 refine val_cons ?_ (fun v4 => ?_)
 ·intro L vs w1 hvs hat hb hI hF; try simp [factsI, Region.binds, Is] at hF
  have hbw := bel_trans HW6.out hI.2
  have HI2 := Lib.hid hI; clear hI
  go_simp
  refine (HF.out (a ||| d) b _ hbw).mono ?_
  rintro e w2 ⟨⟨q1, q2, q3, q4, rfl⟩, hb2⟩
  have hle := HI2.out.2.size
  refine ⟨_, rfl, hb2.mono hle, ?_, ⟨q1, q2, q3, q4, rfl⟩⟩
  simpa [upd] using And.intro (HI2.out.1.bel hb2) (HI2.out.2.trans (hb2.mono hle))
 refine val_cons ?_ (fun v5 => ?_)
 ·intro L vs w1 hvs hat hb hI hF; try simp [factsI, Region.binds, Is] at hF
  have hF2 : IsFit (fitS (a ||| d) b) v4 w1 := by first | exact hF | exact hF.1 | exact hF.2
  obtain ⟨q1, q2, q3, q4, hv⟩ := hF2
  subst hv
  have HI2 := Lib.hid hI; clear hI
  go_simp
  first
   | exact ⟨Below.refl _ _, (by first | (simpa [upd] using HI2.out) | (simpa [upd] using HI2.out.1)), ⟨q1, q2, q3, q4, rfl⟩⟩
   | (refine ⟨Below.refl _ _, ?_⟩; first | (simpa [upd] using HI2.out) | (simpa [upd] using HI2.out.1) | exact ⟨by simpa [upd] using HI2.out, ⟨q1, q2, q3, q4, rfl⟩⟩ | exact ⟨by simpa [upd] using HI2.out.1, ⟨q1, q2, q3, q4, rfl⟩⟩ | exact ⟨by simpa [upd] using HI2.out.1, HI2.out.2, ⟨q1, q2, q3, q4, rfl⟩⟩)
 refine val_cons ?_ (fun v6 => ?_)
 ·intro L vs w1 hvs hat hb hI hF; try simp [factsI, Region.binds, Is] at hF
  have hF2 : IsFit (fitS (a ||| d) b) v5 w1 := by first | exact hF | exact hF.1 | exact hF.2
  obtain ⟨q1, q2, q3, q4, hv⟩ := hF2
  subst hv
  have HI2 := Lib.hid hI; clear hI
  go_simp
  first
   | exact ⟨Below.refl _ _, (by first | (simpa [upd] using HI2.out) | (simpa [upd] using HI2.out.1)), ⟨q1, q2, q3, q4, rfl⟩⟩
   | (refine ⟨Below.refl _ _, ?_⟩; first | (simpa [upd] using HI2.out) | (simpa [upd] using HI2.out.1) | exact ⟨by simpa [upd] using HI2.out, ⟨q1, q2, q3, q4, rfl⟩⟩ | exact ⟨by simpa [upd] using HI2.out.1, ⟨q1, q2, q3, q4, rfl⟩⟩ | exact ⟨by simpa [upd] using HI2.out.1, HI2.out.2, ⟨q1, q2, q3, q4, rfl⟩⟩)
 refine val_cons ?_ (fun v7 => ?_)
 ·intro L vs w1 hvs hat hb hI hF; try simp [factsI, Region.binds, Is] at hF
  have hF2 : IsFit (fitS (a ||| d) b) v5 w1 := by first | exact hF | exact hF.1 | exact hF.2
  obtain ⟨q1, q2, q3, q4, hv⟩ := hF2
  subst hv
  have HI2 := Lib.hid hI; clear hI
  go_simp
  refine ⟨Below.refl _ _, ?_⟩
  first | (simpa [upd] using HI2.out) | (simpa [upd] using HI2.out.1)
 refine val_cons ?_ (fun v8 => ?_)
 ·intro L vs w1 hvs hat hb hI hF; try simp [factsI, Region.binds, Is] at hF
  have HI2 := Lib.hid hI; clear hI
  have hle := HI2.out.1.le
  go_simp
  refine ⟨below_allocN (Below.refl _ _) hle _, ?_, trivial⟩
  simpa [upd] using And.intro (HI2.out.1.new (.int .i64 0) (.int .i64 0) (.int .i64 0) (.int .i64 0)) (below_allocN HI2.out.2 hle _)
 refine val_cons ?_ (fun v9 => ?_)
 ·intro L vs w1 hvs hat hb hI hF; try simp [factsI, Region.binds, Is] at hF
  have h8 := hat.ahead 40 8 (by kernel_rfl)
  have hv8 : vs 8 = v8 := hvs 8 (by omega)
  have hF2 : IsMot v6 w1 := by first | exact hF | exact hF.1 | exact hF.2 | exact hF.1.1 | exact hF.1.2 | exact hF.2.1 | exact hF.2.2
  obtain ⟨q1, q2, q3, q4, hv⟩ := hF2
  subst hv
  have HI2 := Lib.hid hI
  obtain ⟨b8, c0, c1, c2, c3, hle8, e1, hB8⟩ := hI.1.get h8
  rw [hv8] at e1
  subst e1
  have HR := Lib.hid (BxI.row hI.1.le hle8 hB8 (.int .i64 q1) (.int .i64 q2) (.int .i64 q3) (.int .i64 q4))
  have hB9 := blw_rowsS (w := w1) hle8 #[c0, c1, c2, c3] #[.int .i64 q1, .int .i64 q2, .int .i64 q3, .int .i64 q4]
  rw [hB8.rw] at hB9
  have HR2 := Lib.hid (hI.2.trans hB9)
  clear hB9
  have r8 := hB8.row; have l8 := hB8.lt
  have HLE := Lib.hid hle8
  rw [← hB8.rw]
  clear hI hB8 hvs
  go_simp
  refine ⟨blw_rowsS HLE.out _ _, ?_, trivial⟩
  simpa [upd, h8, hv8] using And.intro HR.out HR2.out
 refine val_cons ?_ (fun v10 => ?_)
 ·intro L vs w1 hvs hat hb hI hF; try simp [factsI, Region.binds, Is] at hF
  have HI2 := Lib.hid hI; clear hI
  go_simp
  refine ⟨Below.refl _ _, ?_⟩
  first | (simpa [upd] using HI2.out) | (simpa [upd] using HI2.out.1)
 refine val_nil ?_
 intro vs w1 hvs hb hI hF
 simp [Is, Nat.forall_lt_succ_right] at hF
 have e0 := hF.1.1.1.1.1.1.1.1.1.1
 have e1 := hF.1.1.1.1.1.1.1.1.1.2
 have e2 := hF.1.1.1.1.1.1.1.1.2
 have e3 := hF.1.1.1.1.1.1.1.2
 have e4 := hF.1.1.1.1.1.1.2
 have e5 := hF.1.1.1.1.1.2
 have e6 := hF.1.1.1.1.2
 have e7 := hF.1.1.1.2
 have e8 := hF.1.1.2
 have e9 := hF.1.2
 have e10 := hF.2
 clear hF
 simp only [Act.put, List.setIfInBounds_toArray, List.set_cons_succ, List.set_cons_zero, e0, e1, e2, e3, e7, e10]
 clear e0 e1 e2 e3 e7 e10
 have hbn : Below wA6.heap.size wA6 w1 := hI.2
 have HZ6 : Hid (Below wO.heap.size wO w1) := Lib.hid (bel_trans HA6.out hbn)
 obtain ⟨wN6, hwN⟩ : ∃ wN, wN = w1 := ⟨_, rfl⟩
 rw [← hwN] at HZ6 ⊢
 clear hI hb hvs hbn hwN e4 e5 e6 e8 e9
 go_upto_region 7 with fail
 have hcn := HL.out.2.1
 cases hab : fitS a b with
 | false =>
  clear hcn
  refine wp_region_val Grows (fun _ _ _ => True) [Is (.bool true), Is (.bool false), Is (.bool false), Is (.bool false), Is (.bool false), Is undef, Is (.bool false), Is (.bool false), Is undef, Is undef, Is (.bool false), Is (.bool false), Is (.bool false), Is (.bool false), Is (.bool false), Is undef, Is undef, Is undef, Is undef, Is undef, Is (.bool false), Is (.bool false)] (by kernel_rfl) (by kernel_rfl) rfl Grows.refl (fun _ _ _ => Grows.trans) (stable_mem ⟨fun _ _ _ h _ => h, fun _ _ _ h _ => h, fun _ _ _ h _ => h, fun _ _ _ h _ => h, fun _ _ _ h _ => h, fun _ _ _ h _ => h, fun _ _ _ h _ => h, fun _ _ _ h _ => h, fun _ _ _ h _ => h, fun _ _ _ h _ => h, fun _ _ _ h _ => h, fun _ _ _ h _ => h, fun _ _ _ h _ => h, fun _ _ _ h _ => h, fun _ _ _ h _ => h, fun _ _ _ h _ => h, fun _ _ _ h _ => h, fun _ _ _ h _ => h, fun _ _ _ h _ => h, fun _ _ _ h _ => h, fun _ _ _ h _ => h, fun _ _ _ h _ => h, trivial⟩) wN6 (Below.drew (Below.refl _ _)) trivial ?_
  refine val_cons ?_ (fun v0 => ?_)
  ·intro L vs w1 hvs hat hb hI hF; try simp [factsI, Region.binds, Is] at hF
   have hc := (Grows.cells hb).1
   clear hI
   go_simp
   try simp [upd]
   try first | exact Grows.refl _ | exact trivial | exact ⟨Grows.refl _, trivial⟩
  refine val_cons ?_ (fun v1 => ?_)
  ·intro L vs w1 hvs hat hb hI hF; try simp [factsI, Region.binds, Is] at hF
   have hc := (Grows.cells hb).1
   clear hI
   go_simp
   try simp [upd]
   try first | exact Grows.refl _ | exact trivial | exact ⟨Grows.refl _, trivial⟩
  refine val_cons ?_ (fun v2 => ?_)
  ·intro L vs w1 hvs hat hb hI hF; try simp [factsI, Region.binds, Is] at hF
   have hc := (Grows.cells hb).1
   clear hI
   go_simp
   try simp [upd]
   try first | exact Grows.refl _ | exact trivial | exact ⟨Grows.refl _, trivial⟩
  refine val_cons ?_ (fun v3 => ?_)
  ·intro L vs w1 hvs hat hb hI hF; try simp [factsI, Region.binds, Is] at hF
   have hc := (Grows.cells hb).1
   clear hI
   go_simp
   try simp [upd]
   try first | exact Grows.refl _ | exact trivial | exact ⟨Grows.refl _, trivial⟩
  refine val_cons ?_ (fun v4 => ?_)
  ·intro L vs w1 hvs hat hb hI hF; try simp [factsI, Region.binds, Is] at hF
   have hc := (Grows.cells hb).1
   clear hI
   go_simp
   try simp [upd]
   try first | exact Grows.refl _ | exact trivial | exact ⟨Grows.refl _, trivial⟩
  refine val_cons ?_ (fun v5 => ?_)
  ·intro L vs w1 hvs hat hb hI hF; try simp [factsI, Region.binds, Is] at hF
   have hc := (Grows.cells hb).1
   clear hI
   go_simp
   try simp [upd]
   try first | exact Grows.refl _ | exact trivial | exact ⟨Grows.refl _, trivial⟩
  refine val_cons ?_ (fun v6 => ?_)
  ·intro L vs w1 hvs hat hb hI hF; try simp [factsI, Region.binds, Is] at hF
   have hc := (Grows.cells hb).1
   clear hI
   go_simp
   try simp [upd]
   try first | exact Grows.refl _ | exact trivial | exact ⟨Grows.refl _, trivial⟩
  refine val_cons ?_ (fun v7 => ?_)
  ·intro L vs w1 hvs hat hb hI hF; try simp [factsI, Region.binds, Is] at hF
   have hc := (Grows.cells hb).1
   clear hI
   go_simp
   try simp [upd]
   try first | exact Grows.refl _ | exact trivial | exact ⟨Grows.refl _, trivial⟩
  refine val_cons ?_ (fun v8 => ?_)
  ·intro L vs w1 hvs hat hb hI hF; try simp [factsI, Region.binds, Is] at hF
   have hc := (Grows.cells hb).1
   clear hI
   go_simp
   try simp [upd]
   try first | exact Grows.refl _ | exact trivial | exact ⟨Grows.refl _, trivial⟩
  refine val_cons ?_ (fun v9 => ?_)
  ·intro L vs w1 hvs hat hb hI hF; try simp [factsI, Region.binds, Is] at hF
   have hc := (Grows.cells hb).1
   clear hI
   go_simp
   try simp [upd]
   try first | exact Grows.refl _ | exact trivial | exact ⟨Grows.refl _, trivial⟩
  refine val_cons ?_ (fun v10 => ?_)
  ·intro L vs w1 hvs hat hb hI hF; try simp [factsI, Region.binds, Is] at hF
   have hc := (Grows.cells hb).1
   clear hI
   go_simp
   try simp [upd]
   try first | exact Grows.refl _ | exact trivial | exact ⟨Grows.refl _, trivial⟩
  refine val_cons ?_ (fun v11 => ?_)
  ·intro L vs w1 hvs hat hb hI hF; try simp [factsI, Region.binds, Is] at hF
   have hc := (Grows.cells hb).1
   clear hI
   go_simp
   try simp [upd]
   try first | exact Grows.refl _ | exact trivial | exact ⟨Grows.refl _, trivial⟩
  refine val_cons ?_ (fun v12 => ?_)
  ·intro L vs w1 hvs hat hb hI hF; try simp [factsI, Region.binds, Is] at hF
   have hc := (Grows.cells hb).1
   clear hI
   go_simp
   try simp [upd]
   try first | exact Grows.refl _ | exact trivial | exact ⟨Grows.refl _, trivial⟩
  refine val_cons ?_ (fun v13 => ?_)
  ·intro L vs w1 hvs hat hb hI hF; try simp [factsI, Region.binds, Is] at hF
   have hc := (Grows.cells hb).1
   clear hI
   go_simp
   try simp [upd]
   try first | exact Grows.refl _ | exact trivial | exact ⟨Grows.refl _, trivial⟩
  refine val_cons ?_ (fun v14 => ?_)
  ·intro L vs w1 hvs hat hb hI hF; try simp [factsI, Region.binds, Is] at hF
   have hc := (Grows.cells hb).1
   clear hI
   go_simp
   try simp [upd]
   try first | exact Grows.refl _ | exact trivial | exact ⟨Grows.refl _, trivial⟩
  refine val_cons ?_ (fun v15 => ?_)
  ·intro L vs w1 hvs hat hb hI hF; try simp [factsI, Region.binds, Is] at hF
   have hc := (Grows.cells hb).1
   clear hI
   go_simp
   try simp [upd]
   try first | exact Grows.refl _ | exact trivial | exact ⟨Grows.refl _, trivial⟩
  refine val_cons ?_ (fun v16 => ?_)
  ·intro L vs w1 hvs hat hb hI hF; try simp [factsI, Region.binds, Is] at hF
   have hc := (Grows.cells hb).1
   clear hI
   go_simp
   try simp [upd]
   try first | exact Grows.refl _ | exact trivial | exact ⟨Grows.refl _, trivial⟩
  refine val_cons ?_ (fun v17 => ?_)
  ·intro L vs w1 hvs hat hb hI hF; try simp [factsI, Region.binds, Is] at hF
   have hc := (Grows.cells hb).1
   clear hI
   go_simp
   try simp [upd]
   try first | exact Grows.refl _ | exact trivial | exact ⟨Grows.refl _, trivial⟩
  refine val_cons ?_ (fun v18 => ?_)
  ·intro L vs w1 hvs hat hb hI hF; try simp [factsI, Region.binds, Is] at hF
   have hc := (Grows.cells hb).1
   clear hI
   go_simp
   try simp [upd]
   try first | exact Grows.refl _ | exact trivial | exact ⟨Grows.refl _, trivial⟩
  refine val_cons ?_ (fun v19 => ?_)
  ·intro L vs w1 hvs hat hb hI hF; try simp [factsI, Region.binds, Is] at hF
   have hc := (Grows.cells hb).1
   clear hI
   go_simp
   try simp [upd]
   try first | exact Grows.refl _ | exact trivial | exact ⟨Grows.refl _, trivial⟩
  refine val_cons ?_ (fun v20 => ?_)
  ·intro L vs w1 hvs hat hb hI hF; try simp [factsI, Region.binds, Is] at hF
   have hc := (Grows.cells hb).1
   clear hI
   go_simp
   try simp [upd]
   try first | exact Grows.refl _ | exact trivial | exact ⟨Grows.refl _, trivial⟩
  refine val_cons ?_ (fun v21 => ?_)
  ·intro L vs w1 hvs hat hb hI hF; try simp [factsI, Region.binds, Is] at hF
   have hc := (Grows.cells hb).1
   clear hI
   go_simp
   try simp [upd]
   try first | exact Grows.refl _ | exact trivial | exact ⟨Grows.refl _, trivial⟩
  refine val_nil ?_
  intro vs w1 hvs hb hI hF
  simp [Is, Nat.forall_lt_succ_right] at hF
  simp only [Act.put, List.setIfInBounds_toArray, List.set_cons_succ, List.set_cons_zero, hF]
  clear hF
  have hbw := Lib.hid (bel_trans HB.out.2.2.2.2 (bel_trans HZ6.out (show Below wN6.heap.size wN6 w1 from hb)))
  clear hb hvs
  go_wp2_with fail
  refine (HC.out _ hbw.out).mono ?_
  rintro e w9 ⟨rfl, hb9⟩
  have hb10 := Lib.hid (bel_trans hbw.out hb9)
  clear hb9
  go_wp2_with fail
  go_ret
  exact ⟨rfl, hb10.out⟩
 | true =>
  have g5 := HL.out.2.2.1 hab
  have g6 := HL.out.2.2.2 hab
  have hc1 := hcn hab
  have hc2 : decide ((countS a : Int) < (countS b : Int)) = false := decide_eq_false (by omega)
  have hc3 : ¬ (countS a : Int) < (countS b : Int) := by omega
  have hc4 : (countS b : Int) ≤ (countS a : Int) := by omega
  have htr := fun h => HL.out.1 hab h
  clear hcn
  cases hbc : fitS b c with
  | false =>
   clear htr
   refine wp_region_val Grows (fun _ _ _ => True) [Is (.bool true), Is (.bool false), Is (.bool false), Is (.bool true), Is (.bool true), Is (.bool false), Is (.bool false), Is (.bool false), Is undef, Is undef, Is (.bool false), Is (.bool false), Is (.bool false), Is (.bool true), Is (.bool true), Is (solV b), Is (.int .i64 (countS b : Int)), Is (solV a), Is (.int .i64 (countS a : Int)), Is (.bool false), Is (.bool false), Is (.bool false)] (by kernel_rfl) (by kernel_rfl) rfl Grows.refl (fun _ _ _ => Grows.trans) (stable_mem ⟨fun _ _ _ h _ => h, fun _ _ _ h _ => h, fun _ _ _ h _ => h, fun _ _ _ h _ => h, fun _ _ _ h _ => h, fun _ _ _ h _ => h, fun _ _ _ h _ => h, fun _ _ _ h _ => h, fun _ _ _ h _ => h, fun _ _ _ h _ => h, fun _ _ _ h _ => h, fun _ _ _ h _ => h, fun _ _ _ h _ => h, fun _ _ _ h _ => h, fun _ _ _ h _ => h, fun _ _ _ h _ => h, fun _ _ _ h _ => h, fun _ _ _ h _ => h, fun _ _ _ h _ => h, fun _ _ _ h _ => h, fun _ _ _ h _ => h, fun _ _ _ h _ => h, trivial⟩) wN6 (Below.drew (Below.refl _ _)) trivial ?_
   refine val_cons ?_ (fun v0 => ?_)
   ·intro L vs w1 hvs hat hb hI hF; try simp [factsI, Region.binds, Is] at hF
    have hc := (Grows.cells hb).1
    clear hI
    go_simp
    try simp [upd]
    try first | exact Grows.refl _ | exact trivial | exact ⟨Grows.refl _, trivial⟩
   refine val_cons ?_ (fun v1 => ?_)
   ·intro L vs w1 hvs hat hb hI hF; try simp [factsI, Region.binds, Is] at hF
    have hc := (Grows.cells hb).1
    clear hI
    go_simp
    try simp [upd]
    try first | exact Grows.refl _ | exact trivial | exact ⟨Grows.refl _, trivial⟩
   refine val_cons ?_ (fun v2 => ?_)
   ·intro L vs w1 hvs hat hb hI hF; try simp [factsI, Region.binds, Is] at hF
    have hc := (Grows.cells hb).1
    clear hI
    go_simp
    try simp [upd]
    try first | exact Grows.refl _ | exact trivial | exact ⟨Grows.refl _, trivial⟩
   refine val_cons ?_ (fun v3 => ?_)
   ·intro L vs w1 hvs hat hb hI hF; try simp [factsI, Region.binds, Is] at hF
    have hc := (Grows.cells hb).1
    clear hI
    go_simp
    try simp [upd]
    try first | exact Grows.refl _ | exact trivial | exact ⟨Grows.refl _, trivial⟩
   refine val_cons ?_ (fun v4 => ?_)
   ·intro L vs w1 hvs hat hb hI hF; try simp [factsI, Region.binds, Is] at hF
    have hc := (Grows.cells hb).1
    clear hI
    go_simp
    try simp [upd]
    try first | exact Grows.refl _ | exact trivial | exact ⟨Grows.refl _, trivial⟩
   refine val_cons ?_ (fun v5 => ?_)
   ·intro L vs w1 hvs hat hb hI hF; try simp [factsI, Region.binds, Is] at hF
    have hc := (Grows.cells hb).1
    clear hI
    go_simp
    try simp [upd]
    try first | exact Grows.refl _ | exact trivial | exact ⟨Grows.refl _, trivial⟩
   refine val_cons ?_ (fun v6 => ?_)
   ·intro L vs w1 hvs hat hb hI hF; try simp [factsI, Region.binds, Is] at hF
    have hc := (Grows.cells hb).1
    clear hI
    go_simp
    try simp [upd]
    try first | exact Grows.refl _ | exact trivial | exact ⟨Grows.refl _, trivial⟩
   refine val_cons ?_ (fun v7 => ?_)
   ·intro L vs w1 hvs hat hb hI hF; try simp [factsI, Region.binds, Is] at hF
    have hc := (Grows.cells hb).1
    clear hI
    go_simp
    try simp [upd]
    try first | exact Grows.refl _ | exact trivial | exact ⟨Grows.refl _, trivial⟩
   refine val_cons ?_ (fun v8 => ?_)
   ·intro L vs w1 hvs hat hb hI hF; try simp [factsI, Region.binds, Is] at hF
    have hc := (Grows.cells hb).1
    clear hI
    go_simp
    try simp [upd]
    try first | exact Grows.refl _ | exact trivial | exact ⟨Grows.refl _, trivial⟩
   refine val_cons ?_ (fun v9 => ?_)
   ·intro L vs w1 hvs hat hb hI hF; try simp [factsI, Region.binds, Is] at hF
    have hc := (Grows.cells hb).1
    clear hI
    go_simp
    try simp [upd]
    try first | exact Grows.refl _ | exact trivial | exact ⟨Grows.refl _, trivial⟩
   refine val_cons ?_ (fun v10 => ?_)
   ·intro L vs w1 hvs hat hb hI hF; try simp [factsI, Region.binds, Is] at hF
    have hc := (Grows.cells hb).1
    clear hI
    go_simp
    try simp [upd]
    try first | exact Grows.refl _ | exact trivial | exact ⟨Grows.refl _, trivial⟩
   refine val_cons ?_ (fun v11 => ?_)
   ·intro L vs w1 hvs hat hb hI hF; try simp [factsI, Region.binds, Is] at hF
    have hc := (Grows.cells hb).1
    clear hI
    go_simp
    try simp [upd]
    try first | exact Grows.refl _ | exact trivial | exact ⟨Grows.refl _, trivial⟩
   refine val_cons ?_ (fun v12 => ?_)
   ·intro L vs w1 hvs hat hb hI hF; try simp [factsI, Region.binds, Is] at hF
    have hc := (Grows.cells hb).1
    clear hI
    go_simp
    try simp [upd]
    try first | exact Grows.refl _ | exact trivial | exact ⟨Grows.refl _, trivial⟩
   refine val_cons ?_ (fun v13 => ?_)
   ·intro L vs w1 hvs hat hb hI hF; try simp [factsI, Region.binds, Is] at hF
    have hc := (Grows.cells hb).1
    clear hI
    go_simp
    try simp [upd]
    try first | exact Grows.refl _ | exact trivial | exact ⟨Grows.refl _, trivial⟩
   refine val_cons ?_ (fun v14 => ?_)
   ·intro L vs w1 hvs hat hb hI hF; try simp [factsI, Region.binds, Is] at hF
    have hc := (Grows.cells hb).1
    clear hI
    go_simp
    try simp [upd]
    try first | exact Grows.refl _ | exact trivial | exact ⟨Grows.refl _, trivial⟩
   refine val_cons ?_ (fun v15 => ?_)
   ·intro L vs w1 hvs hat hb hI hF; try simp [factsI, Region.binds, Is] at hF
    have D := HB.out.2.1.grow (bel_trans HZ6.out (show Below wN6.heap.size wN6 w1 from hb)); have cD := D.cell; have lD := D.lt; clear D
    go_simp
    first | exact Grows.refl _ | exact ⟨Grows.refl _, trivial⟩
   refine val_cons ?_ (fun v16 => ?_)
   ·intro L vs w1 hvs hat hb hI hF; try simp [factsI, Region.binds, Is] at hF
    have hh := Lib.hid (fun W => count_spec b W)
    go_simp
    refine (hh.out _).mono ?_
    rintro e w3 ⟨rfl, hb3⟩
    exact ⟨rfl, hb3⟩
   refine val_cons ?_ (fun v17 => ?_)
   ·intro L vs w1 hvs hat hb hI hF; try simp [factsI, Region.binds, Is] at hF
    have D := HB.out.1.grow (bel_trans HZ6.out (show Below wN6.heap.size wN6 w1 from hb)); have cD := D.cell; have lD := D.lt; clear D
    go_simp
    first | exact Grows.refl _ | exact ⟨Grows.refl _, trivial⟩
   refine val_cons ?_ (fun v18 => ?_)
   ·intro L vs w1 hvs hat hb hI hF; try simp [factsI, Region.binds, Is] at hF
    have hh := Lib.hid (fun W => count_spec a W)
    go_simp
    refine (hh.out _).mono ?_
    rintro e w3 ⟨rfl, hb3⟩
    exact ⟨rfl, hb3⟩
   refine val_cons ?_ (fun v19 => ?_)
   ·intro L vs w1 hvs hat hb hI hF; try simp [factsI, Region.binds, Is] at hF
    have hc := (Grows.cells hb).1
    clear hI
    go_simp
    try simp [upd]
    try first | exact Grows.refl _ | exact trivial | exact ⟨Grows.refl _, trivial⟩
   refine val_cons ?_ (fun v20 => ?_)
   ·intro L vs w1 hvs hat hb hI hF; try simp [factsI, Region.binds, Is] at hF
    have hc := (Grows.cells hb).1
    clear hI
    go_simp
    try simp [upd]
    try first | exact Grows.refl _ | exact trivial | exact ⟨Grows.refl _, trivial⟩
   refine val_cons ?_ (fun v21 => ?_)
   ·intro L vs w1 hvs hat hb hI hF; try simp [factsI, Region.binds, Is] at hF
    have hc := (Grows.cells hb).1
    clear hI
    go_simp
    try simp [upd]
    try first | exact Grows.refl _ | exact trivial | exact ⟨Grows.refl _, trivial⟩
   refine val_nil ?_
   intro vs w1 hvs hb hI hF
   simp [Is, Nat.forall_lt_succ_right] at hF
   simp only [Act.put, List.setIfInBounds_toArray, List.set_cons_succ, List.set_cons_zero, hF]
   clear hF
   have hbw := Lib.hid (bel_trans HB.out.2.2.2.2 (bel_trans HZ6.out (show Below wN6.heap.size wN6 w1 from hb)))
   clear hb hvs
   go_wp2_with fail
   refine (HC.out _ hbw.out).mono ?_
   rintro e w9 ⟨rfl, hb9⟩
   have hb10 := Lib.hid (bel_trans hbw.out hb9)
   clear hb9
   go_wp2_with fail
   go_ret
   exact ⟨rfl, hb10.out⟩
  | true =>
   have g4 := htr hbc
   clear htr
   refine wp_region_val Grows (fun _ _ _ => True) [Is (.bool true), Is (.bool false), Is (.bool false), Is (.bool true), Is (.bool true), Is (.bool true), Is (.bool true), Is (.bool true), Is (.bool true), Is (.bool false), Is (.bool false), Is (.bool false), Is (.bool false), Is (.bool true), Is (.bool true), Is (solV b), Is (.int .i64 (countS b : Int)), Is (solV a), Is (.int .i64 (countS a : Int)), Is (.bool false), Is (.bool false), Is (.bool false)] (by kernel_rfl) (by kernel_rfl) rfl Grows.refl (fun _ _ _ => Grows.trans) (stable_mem ⟨fun _ _ _ h _ => h, fun _ _ _ h _ => h, fun _ _ _ h _ => h, fun _ _ _ h _ => h, fun _ _ _ h _ => h, fun _ _ _ h _ => h, fun _ _ _ h _ => h, fun _ _ _ h _ => h, fun _ _ _ h _ => h, fun _ _ _ h _ => h, fun _ _ _ h _ => h, fun _ _ _ h _ => h, fun _ _ _ h _ => h, fun _ _ _ h _ => h, fun _ _ _ h _ => h, fun _ _ _ h _ => h, fun _ _ _ h _ => h, fun _ _ _ h _ => h, fun _ _ _ h _ => h, fun _ _ _ h _ => h, fun _ _ _ h _ => h, fun _ _ _ h _ => h, trivial⟩) wN6 (Below.drew (Below.refl _ _)) trivial ?_
   refine val_cons ?_ (fun v0 => ?_)
   ·intro L vs w1 hvs hat hb hI hF; try simp [factsI, Region.binds, Is] at hF
    have hc := (Grows.cells hb).1
    clear hI
    go_simp
    try simp [upd]
    try first | exact Grows.refl _ | exact trivial | exact ⟨Grows.refl _, trivial⟩
   refine val_cons ?_ (fun v1 => ?_)
   ·intro L vs w1 hvs hat hb hI hF; try simp [factsI, Region.binds, Is] at hF
    have hc := (Grows.cells hb).1
    clear hI
    go_simp
    try simp [upd]
    try first | exact Grows.refl _ | exact trivial | exact ⟨Grows.refl _, trivial⟩
   refine val_cons ?_ (fun v2 => ?_)
   ·intro L vs w1 hvs hat hb hI hF; try simp [factsI, Region.binds, Is] at hF
    have hc := (Grows.cells hb).1
    clear hI
    go_simp
    try simp [upd]
    try first | exact Grows.refl _ | exact trivial | exact ⟨Grows.refl _, trivial⟩
   refine val_cons ?_ (fun v3 => ?_)
   ·intro L vs w1 hvs hat hb hI hF; try simp [factsI, Region.binds, Is] at hF
    have hc := (Grows.cells hb).1
    clear hI
    go_simp
    try simp [upd]
    try first | exact Grows.refl _ | exact trivial | exact ⟨Grows.refl _, trivial⟩
   refine val_cons ?_ (fun v4 => ?_)
   ·intro L vs w1 hvs hat hb hI hF; try simp [factsI, Region.binds, Is] at hF
    have hc := (Grows.cells hb).1
    clear hI
    go_simp
    try simp [upd]
    try first | exact Grows.refl _ | exact trivial | exact ⟨Grows.refl _, trivial⟩
   refine val_cons ?_ (fun v5 => ?_)
   ·intro L vs w1 hvs hat hb hI hF; try simp [factsI, Region.binds, Is] at hF
    have hc := (Grows.cells hb).1
    clear hI
    go_simp
    try simp [upd]
    try first | exact Grows.refl _ | exact trivial | exact ⟨Grows.refl _, trivial⟩
   refine val_cons ?_ (fun v6 => ?_)
   ·intro L vs w1 hvs hat hb hI hF; try simp [factsI, Region.binds, Is] at hF
    have hc := (Grows.cells hb).1
    clear hI
    go_simp
    try simp [upd]
    try first | exact Grows.refl _ | exact trivial | exact ⟨Grows.refl _, trivial⟩
   refine val_cons ?_ (fun v7 => ?_)
   ·intro L vs w1 hvs hat hb hI hF; try simp [factsI, Region.binds, Is] at hF
    have hc := (Grows.cells hb).1
    clear hI
    go_simp
    try simp [upd]
    try first | exact Grows.refl _ | exact trivial | exact ⟨Grows.refl _, trivial⟩
   refine val_cons ?_ (fun v8 => ?_)
   ·intro L vs w1 hvs hat hb hI hF; try simp [factsI, Region.binds, Is] at hF
    have hc := (Grows.cells hb).1
    clear hI
    go_simp
    try simp [upd]
    try first | exact Grows.refl _ | exact trivial | exact ⟨Grows.refl _, trivial⟩
   refine val_cons ?_ (fun v9 => ?_)
   ·intro L vs w1 hvs hat hb hI hF; try simp [factsI, Region.binds, Is] at hF
    have hc := (Grows.cells hb).1
    clear hI
    go_simp
    try simp [upd]
    try first | exact Grows.refl _ | exact trivial | exact ⟨Grows.refl _, trivial⟩
   refine val_cons ?_ (fun v10 => ?_)
   ·intro L vs w1 hvs hat hb hI hF; try simp [factsI, Region.binds, Is] at hF
    have hc := (Grows.cells hb).1
    clear hI
    go_simp
    try simp [upd]
    try first | exact Grows.refl _ | exact trivial | exact ⟨Grows.refl _, trivial⟩
   refine val_cons ?_ (fun v11 => ?_)
   ·intro L vs w1 hvs hat hb hI hF; try simp [factsI, Region.binds, Is] at hF
    have hc := (Grows.cells hb).1
    clear hI
    go_simp
    try simp [upd]
    try first | exact Grows.refl _ | exact trivial | exact ⟨Grows.refl _, trivial⟩
   refine val_cons ?_ (fun v12 => ?_)
   ·intro L vs w1 hvs hat hb hI hF; try simp [factsI, Region.binds, Is] at hF
    have hc := (Grows.cells hb).1
    clear hI
    go_simp
    try simp [upd]
    try first | exact Grows.refl _ | exact trivial | exact ⟨Grows.refl _, trivial⟩
   refine val_cons ?_ (fun v13 => ?_)
   ·intro L vs w1 hvs hat hb hI hF; try simp [factsI, Region.binds, Is] at hF
    have hc := (Grows.cells hb).1
    clear hI
    go_simp
    try simp [upd]
    try first | exact Grows.refl _ | exact trivial | exact ⟨Grows.refl _, trivial⟩
   refine val_cons ?_ (fun v14 => ?_)
   ·intro L vs w1 hvs hat hb hI hF; try simp [factsI, Region.binds, Is] at hF
    have hc := (Grows.cells hb).1
    clear hI
    go_simp
    try simp [upd]
    try first | exact Grows.refl _ | exact trivial | exact ⟨Grows.refl _, trivial⟩
   refine val_cons ?_ (fun v15 => ?_)
   ·intro L vs w1 hvs hat hb hI hF; try simp [factsI, Region.binds, Is] at hF
    have D := HB.out.2.1.grow (bel_trans HZ6.out (show Below wN6.heap.size wN6 w1 from hb)); have cD := D.cell; have lD := D.lt; clear D
    go_simp
    first | exact Grows.refl _ | exact ⟨Grows.refl _, trivial⟩
   refine val_cons ?_ (fun v16 => ?_)
   ·intro L vs w1 hvs hat hb hI hF; try simp [factsI, Region.binds, Is] at hF
    have hh := Lib.hid (fun W => count_spec b W)
    go_simp
    refine (hh.out _).mono ?_
    rintro e w3 ⟨rfl, hb3⟩
    exact ⟨rfl, hb3⟩
   refine val_cons ?_ (fun v17 => ?_)
   ·intro L vs w1 hvs hat hb hI hF; try simp [factsI, Region.binds, Is] at hF
    have D := HB.out.1.grow (bel_trans HZ6.out (show Below wN6.heap.size wN6 w1 from hb)); have cD := D.cell; have lD := D.lt; clear D
    go_simp
    first | exact Grows.refl _ | exact ⟨Grows.refl _, trivial⟩
   refine val_cons ?_ (fun v18 => ?_)
   ·intro L vs w1 hvs hat hb hI hF; try simp [factsI, Region.binds, Is] at hF
    have hh := Lib.hid (fun W => count_spec a W)
    go_simp
    refine (hh.out _).mono ?_
    rintro e w3 ⟨rfl, hb3⟩
    exact ⟨rfl, hb3⟩
   refine val_cons ?_ (fun v19 => ?_)
   ·intro L vs w1 hvs hat hb hI hF; try simp [factsI, Region.binds, Is] at hF
    have hc := (Grows.cells hb).1
    clear hI
    go_simp
    try simp [upd]
    try first | exact Grows.refl _ | exact trivial | exact ⟨Grows.refl _, trivial⟩
   refine val_cons ?_ (fun v20 => ?_)
   ·intro L vs w1 hvs hat hb hI hF; try simp [factsI, Region.binds, Is] at hF
    have hc := (Grows.cells hb).1
    clear hI
    go_simp
    try simp [upd]
    try first | exact Grows.refl _ | exact trivial | exact ⟨Grows.refl _, trivial⟩
   refine val_cons ?_ (fun v21 => ?_)
   ·intro L vs w1 hvs hat hb hI hF; try simp [factsI, Region.binds, Is] at hF
    have hc := (Grows.cells hb).1
    clear hI
    go_simp
    try simp [upd]
    try first | exact Grows.refl _ | exact trivial | exact ⟨Grows.refl _, trivial⟩
   refine val_nil ?_
   intro vs w1 hvs hb hI hF
   simp [Is, Nat.forall_lt_succ_right] at hF
   simp only [Act.put, List.setIfInBounds_toArray, List.set_cons_succ, List.set_cons_zero, hF]
   clear hF
   have hbw := Lib.hid (bel_trans HB.out.2.2.2.2 (bel_trans HZ6.out (show Below wN6.heap.size wN6 w1 from hb)))
   clear hb hvs
   go_wp2_with fail
   refine (HC.out _ hbw.out).mono ?_
   rintro e w9 ⟨rfl, hb9⟩
   have hb10 := Lib.hid (bel_trans hbw.out hb9)
   clear hb9
   go_wp2_with fail
   go_ret
   exact ⟨rfl, hb10.out⟩
end Go.Proofs.YtkfimbonmnoglaaGreatDoor
end
