import Derived.Test.YtkfimbonmnoglaaGreatDoorB19
import Derived.Deep.Cut
import Derived.WalkMore
/-
  Given contracts of functions of the program, and laws for them, one behind the other.
-/
set_option linter.unusedVariables false
set_option linter.unusedSimpArgs false
set_option linter.unusedSectionVars false
section
namespace Go.Proofs.YtkfimbonmnoglaaGreatDoor
open Go.RowKit Go.Rel Go.Draw Go.Solid
set_option maxRecDepth 100000
attribute [local go_sem] Oper.semAt_some
theorem fits_seq {n : Nat} (hn : 1 ≤ n) {Wr : Nat → Prop} {W : World} (a b : Sol) (hb0 : b ≠ 0) {ba bb : Nat} (hba : Blk W ba #[.int .u64 (pl a 0), .int .u64 (pl a 1), .int .u64 (pl a 2), .int .u64 (pl a 3), .int .u64 (pl a 4), .int .u64 (pl a 5), .int .u64 (pl a 6), .int .u64 (pl a 7)] 26) (hbb : Blk W bb #[.int .u64 (pl b 0), .int .u64 (pl b 1), .int .u64 (pl b 2), .int .u64 (pl b 3), .int .u64 (pl b 4), .int .u64 (pl b 5), .int .u64 (pl b 6), .int .u64 (pl b 7)] 26) (hT : Tab W) (hW : WrOk Wr W.heap.size ba bb) :
  SeqC Fence.wide n Tryz.prog 155 #[.pointer (some ⟨ba, 0, none⟩), .pointer (some ⟨bb, 0, none⟩)] (fun y : Mt × Sol => #[motV (y.1.1 : Int) y.1.2, solV y.2]) Wr 0 (fun xs => xs = fitsL a b) (fun pre => pre <+: fitsL a b) (fitsL a b).length W := by
 intro lp J Jx hJ hJx hwr hY h0
 have hJ' : ∀ pre W1 W2, J pre W1 → Below W1.heap.size W1 W2 → J pre W2 := fun pre W1 W2 h hb => hJ.bel h hb
 by_cases ha : a = 0
 ·exact fits1_zero hn lp a b ha hba J Jx hJ' h0
 ·by_cases hc : countS a < countS b
  ·exact fits1_few hn lp a b ha hc hba hbb hT J Jx hJ' h0
  ·exact fits1_main hn lp a b hb0 hba hbb hT hW J Jx hJ' ha hc hY h0
def fitsMo (a b : Sol) : Go.Solid.Mo × Bool := if b = 0 then ((0, (-7, -7, -7)), true) else match (fitsL a b).head? with
 | some y => (((y.1.1 : Int), y.1.2), true)
 | none => ((0, (0, 0, 0)), false)
set_option maxHeartbeats 4000000 in
theorem fits_none (a b : Sol) (hb : b = 0) (w : World) : Calls Tryz.prog 51 #[solV a, solV b] w fun e w' => e = .returned (.tuple #[motV 0 (-7, -7, -7), .bool true]) ∧ Below w.heap.size w w' := by
 have e0 : (b == 0#512) = true := by rw [beq_iff_eq]; exact hb
 clear hb
 go_enter Tryz.func51, Tryz.ntmps51
 go_wp2_with fail
 go_step3
 go_wp2_with fail
 rw [Exit.noGoto_ret]
 exact bodyPost_ret (v := .tuple #[motV 0 (-7, -7, -7), .bool true]) (by simp [results, Tryz.results51, go_sem]) rfl ⟨rfl, (by repeat (first | with_reducible exact bel_refl _ | with_reducible assumption | with_reducible refine bel_drewN ?_ _ | with_reducible refine bel_drew ?_ | with_reducible refine bel_alloc ?_ _ | with_reducible refine bel_row ?_ ?_ _ | with_reducible refine bel_set ?_ ?_ _ | refine bel_trans ?_ (by with_reducible assumption) | (simp; done) | (simp; omega)))⟩
def FtI (w : World) (m : Go.Solid.Mo) (q : Bool) (W : World) : Prop := Below w.heap.size w W ∧ Blk W (w.heap.size + 1 + 1) #[.int .i64 0, .int .i64 0, .int .i64 0, .int .i64 0] 23 ∧ Blk W (w.heap.size + 1 + 1 + 1) #[.int .i64 m.1, .int .i64 m.2.1, .int .i64 m.2.2.1, .int .i64 m.2.2.2] 23 ∧ Blk W (w.heap.size + 1 + 1 + 1 + 1) #[.bool q] 4
theorem FtI.kept {w : World} {m : Go.Solid.Mo} {q : Bool} {W W' : World} {r : Option Nat} (h : FtI w m q W) (hg : W.grownBy W' r) (hr : ∀ k, r = some k → w.heap.size + 1 + 1 + 1 + 1 < k) : FtI w m q W' := by
 obtain ⟨h1, h2, h3, h4⟩ := h
 refine ⟨h1.grown hg h1.size (fun k e => by have := hr k e; omega), h2.gb hg ?_, h3.gb hg ?_, h4.gb hg ?_⟩
 all_goals (intro e; have := hr _ e.symm; omega)
theorem gb_rows (W : World) (g : Nat) (cs cs' : Array Value) : (W.setRow g cs).grownBy (W.setRow g cs') (some g) :=
 ⟨rfl, rfl, rfl, by rw [setRow_size, setRow_size]; exact Nat.le_refl _, fun k _ hk => (setRow_other W g k cs' (fun e => hk (by rw [e]))).trans (setRow_other W g k cs (fun e => hk (by rw [e]))).symm⟩
attribute [local irreducible] fitsL
set_option maxHeartbeats 8000000 in
theorem fits_some (a b : Sol) (hb : b ≠ 0) (w : World) (hT : Tab w) : Calls Tryz.prog 51 #[solV a, solV b] w fun e w' => e = .returned (.tuple #[motV (fitsMo a b).1.1 (fitsMo a b).1.2, .bool (fitsMo a b).2]) ∧ Below w.heap.size w w' := by
 have e0 : (b == 0#512) = false := by rw [beq_eq_false_iff_ne]; exact hb
 have HT := Lib.hid hT
 have HBN := Lib.hid hb
 obtain ⟨RV, hRV⟩ : ∃ RV : Value, RV = .tuple #[motV (fitsMo a b).1.1 (fitsMo a b).1.2, .bool (fitsMo a b).2] := ⟨_, rfl⟩
 rw [← hRV]
 have HRV : Hid (RV = match (fitsL a b).head? with
  | some y => .tuple #[motV (y.1.1 : Int) y.1.2, .bool true]
  | none => .tuple #[motV 0 (0, 0, 0), .bool false]) := Lib.hid (by
   rw [hRV]; unfold fitsMo; rw [if_neg hb]
   cases (fitsL a b).head? <;> rfl)
 clear hb hT hRV
 refine (callsIn_wide (n := 9)).1 ?_
 refine callsIn_of_wp_marks Tryz.func51 rfl trivial ?_ rfl
 simp only [Tryz.ntmps51, List.size_toArray, List.length_cons, List.length_nil, Nat.reduceAdd, Nat.reduceSub, Array.replicate_succ, Array.replicate_zero, List.push_toArray, List.append_toArray, List.nil_append, List.cons_append]
 refine wpIn_wide.2 ?_
 go_wp2_with fail
 go_step3
 go_wp2_with fail
 go_step3
 go_wp2_with fail
 refine (fits_spec a b _).mono ?_
 rintro e w3 ⟨rfl, hw3⟩
 simp only [World.size_alloc] at hw3 ⊢
 have b5 : Blk w3 (w.heap.size + 1 + 1 + 1 + 1 + 1) #[.int .u64 (pl a 0), .int .u64 (pl a 1), .int .u64 (pl a 2), .int .u64 (pl a 3), .int .u64 (pl a 4), .int .u64 (pl a 5), .int .u64 (pl a 6), .int .u64 (pl a 7)] 26 := by subst hw3; exact Blk.alloc (Blk.at _ _ (by simp)) _
 have b6 : Blk w3 (w.heap.size + 1 + 1 + 1 + 1 + 1 + 1) #[.int .u64 (pl b 0), .int .u64 (pl b 1), .int .u64 (pl b 2), .int .u64 (pl b 3), .int .u64 (pl b 4), .int .u64 (pl b 5), .int .u64 (pl b 6), .int .u64 (pl b 7)] 26 := by subst hw3; exact Blk.at _ _ (by simp)
 have hb3 : Below w.heap.size w w3 := by subst hw3; exact (by repeat (first | with_reducible exact bel_refl _ | with_reducible assumption | with_reducible refine bel_drewN ?_ _ | with_reducible refine bel_drew ?_ | with_reducible refine bel_alloc ?_ _ | with_reducible refine bel_row ?_ ?_ _ | with_reducible refine bel_set ?_ ?_ _ | refine bel_trans ?_ (by with_reducible assumption) | (simp; done) | (simp; omega)))
 have hsz3 : w3.heap.size = w.heap.size + 1 + 1 + 1 + 1 + 1 + 1 + 1 := by subst hw3; simp
 have hM : FtI w (0, (0, 0, 0)) false w3 := by
  refine ⟨hb3, ?_, ?_, ?_⟩
  all_goals (subst hw3; exact (by repeat (first | with_reducible assumption | (refine Blk.at _ _ ?_; (simp; done)) | with_reducible refine Blk.alloc ?_ _ | with_reducible refine Blk.drew ?_ | with_reducible refine Blk.rowS ?_ _ | with_reducible refine Blk.rowO ?_ _ (by simp))))
 have H3 := Lib.hid (And.intro (And.intro b5 b6) (And.intro hsz3 hM))
 have HT3 := Lib.hid (HT.out.grow hb3)
 clear hw3 b5 b6 hb3 hsz3 hM
 go_wp2_with fail
 refine (wpIn_wide (n := 9)).1 ?_
 refine wpIn_rangeFunc_C (α := Mt × Sol) rfl (by omega) (gf := 155) (lb := #[.pointer (some ⟨w.heap.size + 1 + 1 + 1 + 1 + 1, 0, none⟩), .pointer (some ⟨w.heap.size + 1 + 1 + 1 + 1 + 1 + 1, 0, none⟩)]) rfl trivial (enters_of Tryz.func155 (by kernel_rfl) rfl) (encs := fun y : Mt × Sol => #[motV (y.1.1 : Int) y.1.2, solV y.2]) (wr := fun k => k = w.heap.size + 1 + 1 + 1 ∨ k = w.heap.size + 1 + 1 + 1 + 1) 0
  (fun W hbW hsW => fits_seq (n := 9 - 1) (by omega) a b HBN.out (H3.out.1.1.grow hbW) (H3.out.1.2.grow hbW) (HT3.out.grow hbW) ⟨fun k hk => by have := H3.out.2.1; omega, by omega, by omega, by omega⟩) (fun r h1 => by have := H3.out.2.1; omega) (fun _ => rfl)
  (fun (pre : List (Mt × Sol)) W => pre = [] ∧ FtI w (0, (0, 0, 0)) false W) (fun c (pre : List (Mt × Sol)) W => c = .exit 0 ∧ ∃ y, pre = [y] ∧ FtI w ((y.1.1 : Int), y.1.2) true W)
  (fun pre W W' r h hg hr => ⟨h.1, h.2.kept hg (fun k e => by have := hr k e; have := H3.out.2.1; omega)⟩) (fun c pre W W' r h hg hr => ⟨h.1, by obtain ⟨y, e1, e2⟩ := h.2; exact ⟨y, e1, e2.kept hg (fun k e => by have := hr k e; have := H3.out.2.1; omega)⟩⟩) ⟨rfl, H3.out.2.2⟩
  (fun z a' W => ∃ B8, w3.heap.size + 1 + 1 + 0 ≤ B8 ∧ Blk W B8 #[.int .i64 (z.1.1 : Int), .int .i64 z.1.2.1, .int .i64 z.1.2.2.1, .int .i64 z.1.2.2.2] 23 ∧ a' = { tmps := #[solV a, solV b, .pointer (some ⟨w.heap.size, 0, none⟩), .pointer (some ⟨w.heap.size + 1, 0, none⟩), .pointer (some ⟨w.heap.size + 1 + 1, 0, none⟩), .bool false, .pointer (some ⟨w.heap.size + 1 + 1 + 1, 0, none⟩), .pointer (some ⟨w.heap.size + 1 + 1 + 1 + 1, 0, none⟩), .pointer (some ⟨B8, 0, none⟩), solV b, .agg #[.int .u64 0, .int .u64 0, .int .u64 0, .int .u64 0, .int .u64 0, .int .u64 0, .int .u64 0, .int .u64 0], .bool false, undef, solV a, solV b, .func (.func 155) #[] #[.pointer (some ⟨w.heap.size + 1 + 1 + 1 + 1 + 1, 0, none⟩), .pointer (some ⟨w.heap.size + 1 + 1 + 1 + 1 + 1 + 1, 0, none⟩)], motV (z.1.1 : Int) z.1.2, solV z.2, undef, undef, undef], defers := [] })
  (fun z a' _ X Y row hs hg hr => by obtain ⟨B8, e1, e2, e3⟩ := hs; exact ⟨B8, e1, e2.gb hg (fun e => by have := hr _ e.symm; omega), e3⟩)
  ?assign ?body ?done ?stop
 case assign =>
  rintro lp pre z W K ⟨hp, hM⟩ hsz hK
  have HI := Lib.hid (And.intro hp hM); clear hM hp
  have hK' := fun a' W' => hK a' W'
  clear hK
  gi_wp2_with fail
  exact hK' _ _ (KeepsBut.alloc _ _ _) ⟨HI.out.1, HI.out.2.kept (World.grownBy_alloc _ _ none) (fun k e => by cases e)⟩ ⟨W.heap.size, hsz, Blk.new _ _ _, rfl⟩
 case body =>
  rintro lp pre z a' W hsz ⟨rfl, hM⟩ ⟨B8, hB8, bB, rfl⟩ hlen
  have hH3 := H3.out.2.1
  obtain ⟨⟨T, x, y, z3⟩, S⟩ := z
  simp only at bB
  have c8 := bB.cell; have l8 := bB.lt
  have m3 := hM.2.2.1; have m4 := hM.2.2.2
  have r3 := m3.row; have r4 := m4.row; have l3 := m3.lt; have l4 := m4.lt
  have HM := Lib.hid hM
  have HB := Lib.hid bB
  have c8' := ((bB.rowO (g := w.heap.size + 1 + 1 + 1 + 1) #[.bool false] (by omega)).rowO (g := w.heap.size + 1 + 1 + 1) #[.int .i64 0, .int .i64 0, .int .i64 0, .int .i64 0] (by omega)).cell
  have HZ := Lib.hid (And.intro m3 m4)
  rw [← m3.rw, ← m4.rw]
  clear hM bB m3 m4
  gi_wp2_with fail
  have eW : (W.setRow (w.heap.size + 1 + 1 + 1 + 1) #[.bool false]).setRow (w.heap.size + 1 + 1 + 1) #[.int .i64 0, .int .i64 0, .int .i64 0, .int .i64 0] = W := by rw [HZ.out.2.rw, HZ.out.1.rw]
  refine ⟨?_, rfl, T, x, y, z3, ⟨S, rfl⟩, ?_⟩
  ·rw [eW]
   exact KeepsBut.trans (.gb (gb_row (gb_refl W (some (w.heap.size + 1 + 1 + 1 + 1))) _) (fun r e => by cases e; exact .inr rfl)) (.gb (gb_row (gb_refl _ (some (w.heap.size + 1 + 1 + 1))) _) (fun r e => by cases e; exact .inl rfl))
  ·exact ⟨bel_row (bel_row HM.out.1 (by omega) _) (by omega) _, (HM.out.2.1.rowO _ (by omega)).rowO _ (by omega), (HZ.out.1.rowO _ (by omega)).rowS _, (HZ.out.2.rowS _).rowO _ (by omega)⟩
 case done =>
  rintro D xs W hD hS ⟨rfl, hM⟩ hK
  have hS' : [] = fitsL a b := hS
  have hh : (fitsL a b).head? = none := by rw [← hS']; rfl

  have hH3 := H3.out.2.1
  have lD := (Array.getElem?_eq_some_iff.1 hK).1
  obtain ⟨hbw, b2, b3, b4⟩ := hM
  have HRW : Hid (RV = .tuple #[.agg #[.int .i64 0, .int .i64 0, .int .i64 0, .int .i64 0], .bool false]) := Lib.hid (by rw [HRV.out, hh])
  have HZ := Lib.hid (And.intro hbw (And.intro b2 (And.intro b3 (And.intro b4 (And.intro hK hD)))))
  obtain ⟨wb, hwb⟩ : ∃ wb, wb = W := ⟨_, rfl⟩
  rw [← hwb] at HZ lD ⊢
  clear hbw b2 b3 b4 hK hD hS hwb
  gi_wp2_with fail
  go_wp2_with fail
  refine wp_region_val (GbN (w.heap.size + 1 + 1)) (fun L vs W => Blk W (w.heap.size + 1 + 1) (bif L 2 then #[.int .i64 0, .int .i64 0, .int .i64 0, .int .i64 0] else #[.int .i64 0, .int .i64 0, .int .i64 0, .int .i64 0]) 23) [Is (.agg #[.int .i64 0, .int .i64 0, .int .i64 0, .int .i64 0]), Is (.bool false), AnyV, Is (.bool false)] (by kernel_rfl) (by kernel_rfl) rfl (fun W => gb_refl W _) (GbN.trans (w.heap.size + 1 + 1)) (stable_mem ⟨fun _ _ _ h _ => h, fun _ _ _ h _ => h, fun _ _ _ h _ => h, fun _ _ _ h _ => h, trivial⟩) wb (gb_drew (gb_refl _ _)) (HZ.out.2.1) ?_
  refine val_cons ?_ (fun v0 => ?_)
  ·intro L vs w1 hvs hat hb hI hF; try simp [factsI, Region.binds, Is] at hF
   have D := HZ.out.2.2.1.gb hb (by simp); have cD := D.cell; have lD := D.lt; clear D
   have HI2 := Lib.hid hI; clear hI
   go_simp
   first | exact ⟨gb_refl _ _, HI2.out⟩ | exact HI2.out | exact ⟨HI2.out, trivial⟩ | exact ⟨gb_refl _ _, by simpa using HI2.out⟩
  refine val_cons ?_ (fun v1 => ?_)
  ·intro L vs w1 hvs hat hb hI hF; try simp [factsI, Region.binds, Is] at hF
   have D := HZ.out.2.2.2.1.gb hb (by simp; omega); have cD := D.cell; have lD := D.lt; clear D
   have HI2 := Lib.hid hI; clear hI
   go_simp
   first | exact ⟨gb_refl _ _, HI2.out⟩ | exact HI2.out | exact ⟨HI2.out, trivial⟩ | exact ⟨gb_refl _ _, by simpa using HI2.out⟩
  refine val_cons ?_ (fun v2 => ?_)
  ·intro L vs w1 hvs hat hb hI hF; try simp [factsI, Region.binds, Is] at hF
   have h8 : L 2 = false := hat.self
   rw [h8] at hI
   have hB : Blk w1 (w.heap.size + 1 + 1) #[.int .i64 0, .int .i64 0, .int .i64 0, .int .i64 0] 23 := hI
   have HA2 := Lib.hid (hB.rowS #[.int .i64 0, .int .i64 0, .int .i64 0, .int .i64 0])
   have rB := hB.row; have lB := hB.lt
   rw [← hB.rw]
   clear hI hB
   go_simp
   refine ⟨gb_rows _ _ _ _, HA2.out, trivial⟩
  refine val_cons ?_ (fun v3 => ?_)
  ·intro L vs w1 hvs hat hb hI hF; try simp [factsI, Region.binds, Is] at hF
   have HI2 := Lib.hid hI; clear hI
   go_simp
   first | exact ⟨gb_refl _ _, HI2.out⟩ | exact HI2.out | exact ⟨HI2.out, trivial⟩ | exact ⟨gb_refl _ _, by simpa using HI2.out⟩
  refine val_nil ?_
  intro vs w1 hvs hb hI hF
  simp [Is, Nat.forall_lt_succ_right] at hF
  have e0 := hF.1.1.1
  have e1 := hF.1.1.2
  have e2 := hF.1.2
  have e3 := hF.2
  clear hF
  simp only [Act.put, List.setIfInBounds_toArray, List.set_cons_succ, List.set_cons_zero, e0, e1, e3]
  clear e0 e1 e3
  have hK2 := (hb.block D lD (by have := HZ.out.2.2.2.2.2; intro e; injection e; omega)).trans HZ.out.2.2.2.2.1
  have B2 : Blk w1 (w.heap.size + 1 + 1) #[.int .i64 0, .int .i64 0, .int .i64 0, .int .i64 0] 23 := hI
  have hbW2 : Below w.heap.size w w1 := HZ.out.1.grown hb HZ.out.1.size (fun k e => by cases e; omega)
  have HY := Lib.hid (And.intro hK2 (And.intro B2 hbW2))
  clear hK2 B2 hbW2 hI hb hvs e2
  go_wp2_with fail
  refine ⟨by simp, .inl ⟨_, _, rfl, run_takeDeferred HY.out.1, ?_⟩⟩
  have hgP := grownBy_putObj' w1 D (.deferred none)
  have hne : w.heap.size + 1 + 1 ≠ D := by have := HZ.out.2.2.2.2.2; omega
  have cP := (HY.out.2.1.gb hgP (by simpa using hne)).cell
  exact ⟨.tuple #[.agg #[.int .i64 0, .int .i64 0, .int .i64 0, .int .i64 0], .bool false], by simp [results, Tryz.results51, go_sem, cP], by rw [HRW.out], HY.out.2.2.grown hgP HY.out.2.2.size (fun k e => by cases e; have := HZ.out.2.2.2.2.2; omega)⟩
 case stop =>
  rintro D c pre W hD hS ⟨rfl, y, rfl, hM⟩ hK
  have hh : (fitsL a b).head? = some y := by
   obtain ⟨r, hr⟩ := hS
   rw [← hr]; rfl
  obtain ⟨⟨T, x, y2, z3⟩, S⟩ := y

  have hH3 := H3.out.2.1
  have lD := (Array.getElem?_eq_some_iff.1 hK).1
  obtain ⟨hbw, b2, b3, b4⟩ := hM
  have HRW : Hid (RV = .tuple #[.agg #[.int .i64 (T : Int), .int .i64 x, .int .i64 y2, .int .i64 z3], .bool true]) := Lib.hid (by rw [HRV.out, hh])
  have HZ := Lib.hid (And.intro hbw (And.intro b2 (And.intro b3 (And.intro b4 (And.intro hK hD)))))
  obtain ⟨wb, hwb⟩ : ∃ wb, wb = W := ⟨_, rfl⟩
  rw [← hwb] at HZ lD ⊢
  clear hbw b2 b3 b4 hK hD hS hwb
  gi_wp2_with fail
  go_wp2_with fail
  refine wp_region_val (GbN (w.heap.size + 1 + 1)) (fun L vs W => Blk W (w.heap.size + 1 + 1) (bif L 2 then #[.int .i64 (T : Int), .int .i64 x, .int .i64 y2, .int .i64 z3] else #[.int .i64 0, .int .i64 0, .int .i64 0, .int .i64 0]) 23) [Is (.agg #[.int .i64 (T : Int), .int .i64 x, .int .i64 y2, .int .i64 z3]), Is (.bool true), AnyV, Is (.bool true)] (by kernel_rfl) (by kernel_rfl) rfl (fun W => gb_refl W _) (GbN.trans (w.heap.size + 1 + 1)) (stable_mem ⟨fun _ _ _ h _ => h, fun _ _ _ h _ => h, fun _ _ _ h _ => h, fun _ _ _ h _ => h, trivial⟩) wb (gb_drew (gb_refl _ _)) (HZ.out.2.1) ?_
  refine val_cons ?_ (fun v0 => ?_)
  ·intro L vs w1 hvs hat hb hI hF; try simp [factsI, Region.binds, Is] at hF
   have D := HZ.out.2.2.1.gb hb (by simp); have cD := D.cell; have lD := D.lt; clear D
   have HI2 := Lib.hid hI; clear hI
   go_simp
   first | exact ⟨gb_refl _ _, HI2.out⟩ | exact HI2.out | exact ⟨HI2.out, trivial⟩ | exact ⟨gb_refl _ _, by simpa using HI2.out⟩
  refine val_cons ?_ (fun v1 => ?_)
  ·intro L vs w1 hvs hat hb hI hF; try simp [factsI, Region.binds, Is] at hF
   have D := HZ.out.2.2.2.1.gb hb (by simp; omega); have cD := D.cell; have lD := D.lt; clear D
   have HI2 := Lib.hid hI; clear hI
   go_simp
   first | exact ⟨gb_refl _ _, HI2.out⟩ | exact HI2.out | exact ⟨HI2.out, trivial⟩ | exact ⟨gb_refl _ _, by simpa using HI2.out⟩
  refine val_cons ?_ (fun v2 => ?_)
  ·intro L vs w1 hvs hat hb hI hF; try simp [factsI, Region.binds, Is] at hF
   have h8 : L 2 = false := hat.self
   rw [h8] at hI
   have hB : Blk w1 (w.heap.size + 1 + 1) #[.int .i64 0, .int .i64 0, .int .i64 0, .int .i64 0] 23 := hI
   have HA2 := Lib.hid (hB.rowS #[.int .i64 (T : Int), .int .i64 x, .int .i64 y2, .int .i64 z3])
   have rB := hB.row; have lB := hB.lt
   rw [← hB.rw]
   clear hI hB
   go_simp
   refine ⟨gb_rows _ _ _ _, HA2.out, trivial⟩
  refine val_cons ?_ (fun v3 => ?_)
  ·intro L vs w1 hvs hat hb hI hF; try simp [factsI, Region.binds, Is] at hF
   have HI2 := Lib.hid hI; clear hI
   go_simp
   first | exact ⟨gb_refl _ _, HI2.out⟩ | exact HI2.out | exact ⟨HI2.out, trivial⟩ | exact ⟨gb_refl _ _, by simpa using HI2.out⟩
  refine val_nil ?_
  intro vs w1 hvs hb hI hF
  simp [Is, Nat.forall_lt_succ_right] at hF
  have e0 := hF.1.1.1
  have e1 := hF.1.1.2
  have e2 := hF.1.2
  have e3 := hF.2
  clear hF
  simp only [Act.put, List.setIfInBounds_toArray, List.set_cons_succ, List.set_cons_zero, e0, e1, e3]
  clear e0 e1 e3
  have hK2 := (hb.block D lD (by have := HZ.out.2.2.2.2.2; intro e; injection e; omega)).trans HZ.out.2.2.2.2.1
  have B2 : Blk w1 (w.heap.size + 1 + 1) #[.int .i64 (T : Int), .int .i64 x, .int .i64 y2, .int .i64 z3] 23 := hI
  have hbW2 : Below w.heap.size w w1 := HZ.out.1.grown hb HZ.out.1.size (fun k e => by cases e; omega)
  have HY := Lib.hid (And.intro hK2 (And.intro B2 hbW2))
  clear hK2 B2 hbW2 hI hb hvs e2
  go_wp2_with fail
  refine ⟨by simp, .inl ⟨_, _, rfl, run_takeDeferred HY.out.1, ?_⟩⟩
  have hgP := grownBy_putObj' w1 D (.deferred none)
  have hne : w.heap.size + 1 + 1 ≠ D := by have := HZ.out.2.2.2.2.2; omega
  have cP := (HY.out.2.1.gb hgP (by simpa using hne)).cell
  exact ⟨.tuple #[.agg #[.int .i64 (T : Int), .int .i64 x, .int .i64 y2, .int .i64 z3], .bool true], by simp [results, Tryz.results51, go_sem, cP], by rw [HRW.out], HY.out.2.2.grown hgP HY.out.2.2.size (fun k e => by cases e; have := HZ.out.2.2.2.2.2; omega)⟩
theorem fits_n (a b : Sol) (w : World) (hT : Tab w) : Calls Tryz.prog 51 #[solV a, solV b] w fun e w' => e = .returned (.tuple #[motV (fitsMo a b).1.1 (fitsMo a b).1.2, .bool (fitsMo a b).2]) ∧ Below w.heap.size w w' := by
 by_cases hb : b = 0
 ·have : fitsMo a b = ((0, (-7, -7, -7)), true) := by unfold fitsMo; rw [if_pos hb]
  rw [this]
  exact fits_none a b hb w
 ·exact fits_some a b hb w hT
end Go.Proofs.YtkfimbonmnoglaaGreatDoor
end
section
namespace Go.Proofs.YtkfimbonmnoglaaGreatDoor
open Go.RowKit Go.Rel Go.Draw Go.Solid
set_option maxRecDepth 100000
abbrev clL (c : Cl) : List Value := [.int .i64 c.1, .int .i64 c.2.1, .int .i64 c.2.2]
abbrev OwnCl (W : World) (base : Nat) (v : Value) (l : List Cl) : Prop := W.ownsRow base 60 3 v l.length (l.map clL).flatten
abbrev SlCl (w : World) (v : Value) (l : List Cl) : Prop := Sl w 3 v (l.map clL)
theorem OwnCl.sl {W : World} {base : Nat} {v : Value} {l : List Cl} (h : OwnCl W base v l) : SlCl W v l :=
 own_sl (fun r hr => by obtain ⟨i, _, rfl⟩ := List.mem_map.1 hr; rfl) rfl (by rw [List.length_map]; exact h)
theorem infoCell : (Tryz.prog.info? 60).map (fun i => (i.zero, i.size, i.bytes)) = some (some (.agg #[.int .i64 0, .int .i64 0, .int .i64 0]), 3, 24) := by kernel_rfl
theorem blk_newsS {w : World} {b : Nat} {l : List Value} {t : TypeId} (h : Blk w b l.toArray t) : ∀ j x, l[j]? = some x → w.cell? ((⟨b, 0, none⟩ : Addr).add j) = some x := by
 intro j x hx
 have hadd : (⟨b, 0, none⟩ : Addr).add j = ⟨b, j, none⟩ := by unfold Addr.add; split <;> simp_all
 rw [hadd, h.cell]
 simpa using hx
def stF (f : Bool) (z y x : Int) : List Cl := ((rngI x 1).map fun x => ((x, y, z) : Cl)).filter (isStep f)
def stG (f : Bool) (z y : Int) : List Cl := (rngI y 1).flatMap fun y => stF f z y (-1)
def stH (f : Bool) (z : Int) : List Cl := (rngI z 1).flatMap fun z => stG f z (-1)
def stY (f : Bool) (z y : Int) : List Cl := stG f z y ++ stH f (z + 1)
def stX (f : Bool) (z y x : Int) : List Cl := stF f z y x ++ stY f z (y + 1)
theorem stH_all (f : Bool) : stH f (-1) = stepsL f := by cases f <;> decide +kernel
theorem stH_end (f : Bool) {z : Int} (h : 1 < z) : stH f z = [] := by unfold stH; rw [rngI_none h]; rfl
theorem stH_step (f : Bool) {z : Int} (h : z ≤ 1) : stH f z = stY f z (-1) := by
 conv => lhs; unfold stH
 rw [rngI_cons h, List.flatMap_cons]; rfl
theorem stY_end (f : Bool) {z y : Int} (h : 1 < y) : stY f z y = stH f (z + 1) := by unfold stY stG; rw [rngI_none h]; rfl
theorem stY_step (f : Bool) {z y : Int} (h : y ≤ 1) : stY f z y = stX f z y (-1) := by
 conv => lhs; unfold stY stG
 rw [rngI_cons h, List.flatMap_cons, List.append_assoc]; rfl
theorem stX_end (f : Bool) {z y x : Int} (h : 1 < x) : stX f z y x = stY f z (y + 1) := by unfold stX stF; rw [rngI_none h]; rfl
theorem stX_step (f : Bool) {z y x : Int} (h : x ≤ 1) : stX f z y x = if isStep f (x, y, z) then (x, y, z) :: stX f z y (x + 1) else stX f z y (x + 1) := by
 conv => lhs; unfold stX stF
 rw [rngI_cons h, List.map_cons, List.filter_cons]
 split <;> rfl
theorem sq_one {x : Int} (h : -1 ≤ x) (k : x ≤ 1) : 0 ≤ x * x ∧ x * x ≤ 1 := by
 obtain rfl | rfl | rfl : x = -1 ∨ x = 0 ∨ x = 1 := by omega
 all_goals decide
attribute [local irreducible] stH stY stX isStep
set_option maxHeartbeats 4000000 in
theorem steps_spec (f : Bool) (w : World) : Calls Tryz.prog 107 #[.bool f] w fun e w' => ∃ u, e = .returned u ∧ OwnCl w' w.heap.size u (stepsL f) ∧ Below w.heap.size w w' := by
 obtain ⟨i0, hi, hz0, hz1, hz2⟩ := info_parts infoCell
 have HI0 := Lib.hid (And.intro hi (And.intro hz0 (And.intro hz1 hz2))); clear hi hz0 hz1 hz2
 have HS := Lib.hid (stH_all f)
 have HL : Hid ((stepsL f).length ≤ 27) := Lib.hid (by cases f <;> decide +kernel)
 obtain ⟨L, hL⟩ : ∃ L, L = stepsL f := ⟨_, rfl⟩
 rw [← hL] at HS HL ⊢
 clear hL
 go_enter Tryz.func107, Tryz.ntmps107
 go_wp2_with fail
 go_loopw [3, 4] (fun uv zv wx => ∃ (z : Int) (pre : List Cl), -1 ≤ z ∧ zv = .int .i64 z ∧ Hid (pre ++ stH f z = L ∧ OwnCl wx w.heap.size uv pre ∧ Below w.heap.size w wx)) (fun _ zv _ => (2 - intOf zv).toNat)
 case atStart => exact ⟨-1, [], by omega, rfl, Lib.hid ⟨HS.out, World.ownsRow_nil _ _ _ _, Below.refl _ _⟩⟩
 case round =>
  obtain ⟨z, pre, hz, rfl, HZ⟩ := hrel
  by_cases hz1 : z ≤ 1
  ·have HY0 := HZ.out.1
   rw [stH_step f hz1] at HY0
   have HY1 := Lib.hid (And.intro HY0 HZ.out.2)
   clear HY0 HZ
   go_wp2_with fail
   go_loopw [3, 5] (fun uv yv wx => ∃ (y : Int) (pre : List Cl), -1 ≤ y ∧ yv = .int .i64 y ∧ Hid (pre ++ stY f z y = L ∧ OwnCl wx w.heap.size uv pre ∧ Below w.heap.size w wx)) (fun _ yv _ => (2 - intOf yv).toNat)
   case atStart => exact ⟨-1, pre, by omega, rfl, HY1⟩
   case round =>
    clear HY1
    obtain ⟨y, pre, hy, rfl, HY⟩ := hrel
    by_cases hy1 : y ≤ 1
    ·have HX0 := HY.out.1
     rw [stY_step f hy1] at HX0
     have HX1 := Lib.hid (And.intro HX0 HY.out.2)
     clear HX0 HY
     go_wp2_with fail
     go_loopw [3, 6] (fun uv xv wx => ∃ (x : Int) (pre : List Cl), -1 ≤ x ∧ xv = .int .i64 x ∧ Hid (pre ++ stX f z y x = L ∧ OwnCl wx w.heap.size uv pre ∧ Below w.heap.size w wx)) (fun _ xv _ => (2 - intOf xv).toNat)
     case atStart => exact ⟨-1, pre, by omega, rfl, HX1⟩
     case round =>
      clear HX1
      obtain ⟨x, pre, hx, rfl, HX⟩ := hrel
      by_cases hx1 : x ≤ 1
      ·have ax := sq_one hx hx1; have ay := sq_one hy hy1; have az := sq_one hz hz1
       have w1 : IntKind.i64.wrap (x * x) = x * x := IntWalk.i64_in _ ⟨by omega, by omega⟩
       have w2 : IntKind.i64.wrap (y * y) = y * y := IntWalk.i64_in _ ⟨by omega, by omega⟩
       have w3 : IntKind.i64.wrap (z * z) = z * z := IntWalk.i64_in _ ⟨by omega, by omega⟩
       have w4 : IntKind.i64.wrap (x * x + y * y) = x * x + y * y := IntWalk.i64_in _ ⟨by omega, by omega⟩
       have w5 : IntKind.i64.wrap (x * x + y * y + z * z) = x * x + y * y + z * z := IntWalk.i64_in _ ⟨by omega, by omega⟩
       have hst := stX_step f (z := z) (y := y) hx1
       obtain ⟨q, hq⟩ : ∃ q, q = isStep f (x, y, z) := ⟨_, rfl⟩
       have hqe : isStep f (x, y, z) = (!f || x * x + y * y + z * z == 1) := by unfold isStep; rfl
       rw [← hq] at hst hqe
       clear hq
       have HQ := Lib.hid hst
       have hsz := HX.out.2.2.size
       have hlen : pre.length ≤ 27 := by
        have h1 := HL.out
        rw [← HX.out.1, List.length_append] at h1; omega
       clear hst
       cases q with
       | false =>
        have hf : f = true := by cases f with | false => simp at hqe | true => rfl
        have hv : (x * x + y * y + z * z == 1) = false := by rw [hf] at hqe; simpa using hqe.symm
        have HE := Lib.hid (And.intro ((HQ.out.trans (if_neg (by decide))) ▸ HX.out.1) HX.out.2)
        subst hf
        clear hqe HQ HX
        go_wp2_with fail
        go_roundw
        case rel => exact ⟨x + 1, pre, by omega, by go_num, HE⟩
        case measure => simp [intOf]; omega
       | true =>
        have HE := Lib.hid (And.intro ((HQ.out.trans (if_pos rfl)) ▸ HX.out.1) HX.out.2)
        clear HQ HX
        cases f with
        | false =>
         clear hqe
         go_wp2_with (first
          | (at_builtin; refine wpList_append_own _ rfl _ _ 71 rfl w.heap.size 60 i0 _ 3 24 Tryz.underlying71 HI0.out.1 HI0.out.2.1 HI0.out.2.2.1 HI0.out.2.2.2 rfl (by decide) _ _ _ rfl (HE.out.2.1.alloc _) ⟨wr.heap.size, 0, none⟩ 1 1 (clL (x, y, z)) rfl rfl (blk_newsS (Blk.new wr _ 60)) (fun y hy => by simp [clL] at hy; rcases hy with rfl | rfl | rfl <;> rfl) (by unfold maxLen; omega) (by omega) (by simp; omega) ?_; intro v' w3 hown' hgrow3 hnil3))
         go_roundw
         case rel =>
          refine ⟨x + 1, pre ++ [(x, y, z)], by omega, by go_num, Lib.hid ⟨by rw [List.append_assoc]; exact HE.out.1, ?_, ?_⟩⟩
          ·unfold OwnCl
           rw [List.length_append, List.map_append, List.flatten_append]
           simpa using hown'
          ·exact HE.out.2.2.trans (((bel_alloc (bel_refl wr) _).mono hsz).grown hgrow3 (by simp; omega) (fun j hj => (HE.out.2.1.lt j hj).1))
         case measure => simp [intOf]; omega
        | true =>
         have hv : (x * x + y * y + z * z == 1) = true := by simpa using hqe.symm
         clear hqe
         go_wp2_with (first
          | (at_builtin; refine wpList_append_own _ rfl _ _ 71 rfl w.heap.size 60 i0 _ 3 24 Tryz.underlying71 HI0.out.1 HI0.out.2.1 HI0.out.2.2.1 HI0.out.2.2.2 rfl (by decide) _ _ _ rfl (HE.out.2.1.alloc _) ⟨wr.heap.size, 0, none⟩ 1 1 (clL (x, y, z)) rfl rfl (blk_newsS (Blk.new wr _ 60)) (fun y hy => by simp [clL] at hy; rcases hy with rfl | rfl | rfl <;> rfl) (by unfold maxLen; omega) (by omega) (by simp; omega) ?_; intro v' w3 hown' hgrow3 hnil3))
         go_roundw
         case rel =>
          refine ⟨x + 1, pre ++ [(x, y, z)], by omega, by go_num, Lib.hid ⟨by rw [List.append_assoc]; exact HE.out.1, ?_, ?_⟩⟩
          ·unfold OwnCl
           rw [List.length_append, List.map_append, List.flatten_append]
           simpa using hown'
          ·exact HE.out.2.2.trans (((bel_alloc (bel_refl wr) _).mono hsz).grown hgrow3 (by simp; omega) (fun j hj => (HE.out.2.1.lt j hj).1))
         case measure => simp [intOf]; omega
      ·have HE := HX.out.1
       rw [stX_end f (by omega)] at HE
       have HE1 := Lib.hid (And.intro HE HX.out.2)
       clear HE HX
       go_wp2_with fail
       go_roundw
       case rel => exact ⟨y + 1, pre, by omega, by go_num, HE1⟩
       case measure => simp [intOf]; omega
    ·have HE := HY.out.1
     rw [stY_end f (by omega)] at HE
     have HE1 := Lib.hid (And.intro HE HY.out.2)
     clear HE HY
     go_wp2_with fail
     go_roundw
     case rel => exact ⟨z + 1, pre, by omega, by go_num, HE1⟩
     case measure => simp [intOf]; omega
  ·have HE := HZ.out.1
   rw [stH_end f (by omega), List.append_nil] at HE
   have HE1 := Lib.hid (And.intro HE HZ.out.2)
   clear HE HZ
   go_wp2_with fail
   go_ret
   refine ⟨_, rfl, ?_, HE1.out.2.2⟩
   rw [← HE1.out.1]; exact HE1.out.2.1
end Go.Proofs.YtkfimbonmnoglaaGreatDoor
end
