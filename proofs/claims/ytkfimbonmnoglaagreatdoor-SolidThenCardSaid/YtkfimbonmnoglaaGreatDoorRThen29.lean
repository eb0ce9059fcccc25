import Derived.Test.YtkfimbonmnoglaaGreatDoorRThen28
import Derived.Deep.Cut
/-
  Given contracts of functions of the program, and laws for them, one behind the other.
-/
set_option linter.unusedVariables false
set_option linter.unusedSimpArgs false
set_option linter.unusedSectionVars false
section
namespace Go.Proofs.YtkfimbonmnoglaaGreatDoor
open Go.RowKit Go.Rel Go.Draw Go.Solid
set_option maxRecDepth 100000
def near14 (c : Cl) : Prop := (-7 ≤ c.1 ∧ c.1 ≤ 14) ∧ (-7 ≤ c.2.1 ∧ c.2.1 ≤ 14) ∧ (-7 ≤ c.2.2 ∧ c.2.2 ≤ 14)
theorem near14_roll (h : Nat) {c : Cl} (hc : near14 c) : near14 (rollC h c) := by
 obtain ⟨x, y, z⟩ := c
 unfold near14 at hc ⊢
 simp only at hc
 unfold rollC
 split <;> (simp only; omega)
theorem refRolled_spec (h : Nat) (hh : h < 6) (c : Cl) (hc : near14 c) (w : World) : Calls Tryz.prog 157 #[clV c, .int .i64 (h : Nat)] w fun e w' => e = .returned (clV (rollC h c)) ∧ Below w.heap.size w w' := by
 obtain ⟨x, y, z⟩ := c
 obtain ⟨h1, h2, h3⟩ := hc
 obtain rfl | rfl | rfl | rfl | rfl | rfl : h = 0 ∨ h = 1 ∨ h = 2 ∨ h = 3 ∨ h = 4 ∨ h = 5 := by omega
 ·exact refRoll0 x y z h1 h2 h3 w
 ·exact refRoll1 x y z h1 h2 h3 w
 ·exact refRoll2 x y z h1 h2 h3 w
 ·exact refRoll3 x y z h1 h2 h3 w
 ·exact refRoll4 x y z h1 h2 h3 w
 ·exact refRoll5 x y z h1 h2 h3 w
set_option maxHeartbeats 8000000 in
theorem refTurnedC_spec (t : Nat) (ht : t < 24) (c : Cl) (hc : near14 c) (w : World) : Calls Tryz.prog 130 #[clV c, .int .i64 (t : Nat)] w fun e w' => e = .returned (clV (turnC t c)) ∧ Below w.heap.size w w' := by
 obtain ⟨r, hr⟩ : ∃ r, r = t % 4 := ⟨_, rfl⟩
 have hm : (t : Int) % 4 = (r : Int) := by omega
 have ht1 : (0 : Int) ≤ (t : Int) := by omega
 obtain ⟨RV, hRV⟩ : ∃ RV : Cl, RV = turnC t c := ⟨_, rfl⟩
 rw [← hRV]
 have HR := Lib.hid fun W => refRolled_spec (t / 4) (by omega) c hc W
 have hG := near14_roll (t / 4) hc
 have hRV2 : RV = spinC r (rollC (t / 4) c) := by rw [hRV, hr]; rfl
 obtain ⟨h4, hh4⟩ : ∃ h4, h4 = t / 4 := ⟨_, rfl⟩
 have hq : (t : Int) / 4 = (h4 : Int) := by omega
 rw [← hh4] at HR hG hRV2
 have hw4 : wrap64 (h4 : Int) = (h4 : Int) := IntWalk.wrap64_in _ ⟨by omega, by omega⟩
 obtain ⟨o, ho⟩ : ∃ o, o = rollC h4 c := ⟨_, rfl⟩
 rw [← ho] at HR hG hRV2
 obtain ⟨p, q, s⟩ := o
 have HG := Lib.hid hG
 have HRV := Lib.hid hRV2
 obtain ⟨x, y, z⟩ := c
 clear hRV hRV2 hG ho hc hr ht hh4
 go_enter Tryz.func130, Tryz.ntmps130
 go_wp2_with fail
 refine (HR.out _).mono ?_
 rintro e w1 ⟨rfl, hb⟩
 have hb1 : Below _ _ w1 := hb
 have B0 : Blk w1 w.heap.size #[.int .i64 x, .int .i64 y, .int .i64 z] 60 := Blk.grow (by repeat (first | with_reducible assumption | (refine Blk.at _ _ ?_; (simp; done)) | with_reducible refine Blk.alloc ?_ _ | with_reducible refine Blk.drew ?_ | with_reducible refine Blk.rowS ?_ _ | with_reducible refine Blk.rowO ?_ _ (by simp))) hb1
 have B1 : Blk w1 (w.heap.size + 1) #[.int .i64 0, .int .i64 0, .int .i64 0] 60 := Blk.grow (by repeat (first | with_reducible assumption | (refine Blk.at _ _ ?_; (simp; done)) | with_reducible refine Blk.alloc ?_ _ | with_reducible refine Blk.drew ?_ | with_reducible refine Blk.rowS ?_ _ | with_reducible refine Blk.rowO ?_ _ (by simp))) hb1
 have hbw : Below w.heap.size w w1 := bel_trans (by repeat (first | with_reducible exact bel_refl _ | with_reducible assumption | with_reducible refine bel_drewN ?_ _ | with_reducible refine bel_drew ?_ | with_reducible refine bel_alloc ?_ _ | with_reducible refine bel_row ?_ ?_ _ | with_reducible refine bel_set ?_ ?_ _ | refine bel_trans ?_ (by with_reducible assumption) | (simp; done) | (simp; omega))) hb1
 have HB := Lib.hid (And.intro B1 (And.intro (B0.rowS #[.int .i64 p, .int .i64 q, .int .i64 s]) hbw))
 have l0 := B0.lt
 have r0 := B0.row
 rw [← B0.rw]
 clear B0 B1 hb hb1 hbw
 go_wp2_with fail
 obtain ⟨w3, hw3⟩ : ∃ x, w1.setRow w.heap.size #[.int .i64 p, .int .i64 q, .int .i64 s] = x := ⟨_, rfl⟩
 rw [hw3] at HB ⊢
 have hbw3 : Below w.heap.size w w3 := by rw [← hw3]; exact bel_row HB.out.2.2 (Nat.le_refl _) _
 have B13 : Blk w3 (w.heap.size + 1) #[.int .i64 0, .int .i64 0, .int .i64 0] 60 := by rw [← hw3]; exact (HB.out.1).rowO _ (by omega)
 have B03 := HB.out.2.1
 have HC := Lib.hid (And.intro hbw3 (And.intro B13 B03))
 clear hw3 r0 l0 hbw3 B13 B03
 have hm := Lib.hid hm
 go_loopw [5] (fun iv wx => ∃ (k : Nat) (c1 c2 c3 : Int), k ≤ r ∧ iv = .int .i64 k ∧ Hid (((-7 ≤ c1 ∧ c1 ≤ 14) ∧ (-7 ≤ c2 ∧ c2 ≤ 14) ∧ (-7 ≤ c3 ∧ c3 ≤ 14)) ∧ RV = spinC (r - k) (c1, c2, c3) ∧ Blk wx w.heap.size #[.int .i64 c1, .int .i64 c2, .int .i64 c3] 60 ∧ Blk wx (w.heap.size + 1) #[.int .i64 0, .int .i64 0, .int .i64 0] 60 ∧ Below w.heap.size w wx)) (fun iv _ => r - (intOf iv).toNat)
 case atStart => exact ⟨0, p, q, s, by omega, rfl, Lib.hid ⟨HG.out, HRV.out, HC.out.2.2, HC.out.2.1, HC.out.1⟩⟩
 case round =>
  clear hq
  obtain ⟨k, c1, c2, c3, hk, rfl, HI⟩ := hrel
  have B := HI.out.2.2.1
  have cB := B.cell; have lB := B.lt; have rB := B.row
  by_cases hlt : k < r
  ·have hd : decide ((k : Int) < (t : Int) % 4) = true := by rw [hm.out]; simp; omega
   have hc := HI.out.1
   have x1 : IntKind.i64.wrap (7 - c2) = 7 - c2 := w64 ⟨by omega, by omega⟩
   rw [← B.rw]
   clear B
   go_wp2_with fail
   go_roundw
   case rel =>
    refine ⟨k + 1, 7 - c2, c1, c3, by omega, by go_num, Lib.hid ⟨by omega, ?_, HI.out.2.2.1.rowS _, HI.out.2.2.2.1.rowO _ (by omega), bel_row HI.out.2.2.2.2 (Nat.le_refl _) _⟩⟩
    rw [HI.out.2.1, show r - k = (r - (k + 1)) + 1 by omega]; rfl
   case measure => simp [intOf]; omega
  ·obtain rfl : k = r := by omega
   have hd : decide ((k : Int) < (t : Int) % 4) = false := by rw [hm.out]; simp
   have B1 := HI.out.2.2.2.1
   have r1 := B1.row; have l1 := B1.lt
   have cF := (B1.rowS #[.int .i64 c1, .int .i64 c2, .int .i64 c3]).cell
   have hb := HI.out.2.2.2.2
   have hRV : RV = (c1, c2, c3) := by rw [HI.out.2.1, Nat.sub_self]; rfl
   have HV := Lib.hid hRV
   have cB2 := (B.rowO (g := w.heap.size + 1) #[.int .i64 0, .int .i64 0, .int .i64 0] (by omega)).cell
   clear hRV B
   rw [← B1.rw]
   clear B1
   go_wp2_with fail
   exact bodyPost_ret (v := clV (c1, c2, c3)) (by simp [results, Tryz.results130, go_sem, cF]) rfl ⟨by rw [HV.out], bel_row hb (by omega) _⟩
end Go.Proofs.YtkfimbonmnoglaaGreatDoor
end
section
namespace Go.Proofs.YtkfimbonmnoglaaGreatDoor
open Go.RowKit Go.Rel Go.Draw Go.Solid
set_option maxRecDepth 100000
/-- a list of cells in memory, opened -/
def ClO (base : Nat) (W : World) (a : Option Addr) (l : List Cl) : Prop := l = [] ∨ ∃ b off, a = some ⟨b, off, none⟩ ∧ Cells W b off 3 (l.map clL) ∧ base ≤ b
theorem Cells.rowC {W : World} {b off k : Nat} {xs : List (List Value)} (h : Cells W b off k xs) {g : Nat} (hne : b ≠ g) (cs : Array Value) : Cells (W.setRow g cs) b off k xs :=
 ⟨by rw [setRow_size]; exact h.1, fun i j u hu => (cell_row_other _ _ _ _ _ hne).trans (h.2 i j u hu)⟩
theorem ClO.mono {base : Nat} {W W' : World} {a : Option Addr} {l : List Cl} (h : ClO base W a l) (hb : Below W.heap.size W W') : ClO base W' a l := by
 rcases h with h | ⟨b, off, h1, h2, h3⟩
 ·exact .inl h
 ·exact .inr ⟨b, off, h1, h2.mono hb h2.1, h3⟩
theorem ClO.row {base : Nat} {W : World} {a : Option Addr} {l : List Cl} (h : ClO base W a l) {g : Nat} (hg : g < base) (cs : Array Value) : ClO base (W.setRow g cs) a l := by
 rcases h with h | ⟨b, off, h1, h2, h3⟩
 ·exact .inl h
 ·exact .inr ⟨b, off, h1, h2.rowC (by omega) cs, h3⟩
theorem ClO.at {base : Nat} {W : World} {a : Option Addr} {l : List Cl} (h : ClO base W a l) {k : Nat} {x : Cl} (hx : l[k]? = some x) : ∃ b off, a = some ⟨b, off, none⟩ ∧ Cells W b off 3 (l.map clL) ∧ base ≤ b := by
 rcases h with rfl | h
 ·cases hx
 ·exact h
theorem OwnCl.opened {W : World} {base : Nat} {v : Value} {l : List Cl} (h : OwnCl W base v l) : ∃ a c, v = .slice a l.length c ∧ ClO base W a l := by
 obtain ⟨a, c, hv, _, _, hc⟩ := h.sl
 rw [List.length_map] at hv
 refine ⟨a, c, hv, ?_⟩
 rcases hc with hc | ⟨b, off, ha, hc⟩
 ·exact .inl (List.map_eq_nil_iff.1 hc)
 ·refine .inr ⟨b, off, ha, hc, (h.lt b ?_).1⟩
  rw [hv, ha]; rfl
/-- what some cells, mapped, make -/
def accP (f : Cl → Cl) (L : List Cl) (i : Nat) : Sol := (L.take i).foldl (fun a c => withS a (f c)) 0
attribute [local irreducible] accP turnC
end Go.Proofs.YtkfimbonmnoglaaGreatDoor
end
section
namespace Go.Proofs.YtkfimbonmnoglaaGreatDoor
open Go.RowKit Go.Rel Go.Draw Go.Solid
set_option maxRecDepth 100000
def smallC (K : Int) (d : Cl) : Prop := (-K ≤ d.1 ∧ d.1 ≤ K) ∧ (-K ≤ d.2.1 ∧ d.2.1 ≤ K) ∧ (-K ≤ d.2.2 ∧ d.2.2 ≤ K)
theorem near14_turn (t : Nat) {c : Cl} (hc : near14 c) : near14 (turnC t c) := by
 unfold turnC
 have h := near14_roll (t / 4) hc
 generalize rollC (t / 4) c = d at h
 have hs : ∀ (n : Nat) (d : Cl), near14 d → near14 (spinC n d) := by
  intro n
  induction n with
  | zero => intro d h; exact h
  | succ n ih =>
   intro d h
   refine ih _ ?_
   unfold near14 at h ⊢
   simp only
   omega
 exact hs _ d h
attribute [local irreducible] turnC
set_option maxHeartbeats 8000000 in
theorem carried_spec (t : Nat) (ht : t < 24) (d : Cl) (hd : smallC 1000 d) (c : Cl) (hc : near14 c) (w : World) : Calls Tryz.prog 95 #[clV c, motV (t : Nat) d] w fun e w' => e = .returned (clV (movC d (turnC t c))) ∧ Below w.heap.size w w' := by
 have hn := near14_turn t hc
 have HT1 := Lib.hid fun W => refTurnedC_spec t ht c hc W
 have HM1 := Lib.hid fun W => refMoved_spec (turnC t c) d (by have := hn.1; have := hd.1; omega) (by have := hn.2.1; have := hd.2.1; omega) (by have := hn.2.2; have := hd.2.2; omega) W
 have e : movC d (turnC t c) = addC (turnC t c) d := rfl
 rw [e]
 obtain ⟨r, hr⟩ : ∃ r, r = addC (turnC t c) d := ⟨_, rfl⟩
 rw [← hr] at HM1 ⊢
 obtain ⟨q, hq⟩ : ∃ q, q = turnC t c := ⟨_, rfl⟩
 rw [← hq] at HM1 HT1
 clear hr hq e hn hd hc ht
 go_enter Tryz.func95, Tryz.ntmps95
 go_wp2_with fail
 obtain ⟨W0, hW0⟩ : ∃ W0, W0 = ((w.alloc (.cells #[.int .i64 c.1, .int .i64 c.2.1, .int .i64 c.2.2] 60)).alloc (.cells #[.int .i64 (t : Nat), .int .i64 d.1, .int .i64 d.2.1, .int .i64 d.2.2] 23)).alloc (.cells #[.int .i64 0, .int .i64 0, .int .i64 0] 60) := ⟨_, rfl⟩
 have b0 : Blk W0 w.heap.size #[.int .i64 c.1, .int .i64 c.2.1, .int .i64 c.2.2] 60 ∧ Blk W0 (w.heap.size + 1) #[.int .i64 (t : Nat), .int .i64 d.1, .int .i64 d.2.1, .int .i64 d.2.2] 23 ∧ Blk W0 (w.heap.size + 1 + 1) #[.int .i64 0, .int .i64 0, .int .i64 0] 60 ∧ Below w.heap.size w W0 := by
  rw [hW0]
  exact ⟨(by repeat (first | with_reducible assumption | (refine Blk.at _ _ ?_; (simp; done)) | with_reducible refine Blk.alloc ?_ _ | with_reducible refine Blk.drew ?_ | with_reducible refine Blk.rowS ?_ _ | with_reducible refine Blk.rowO ?_ _ (by simp))), (by repeat (first | with_reducible assumption | (refine Blk.at _ _ ?_; (simp; done)) | with_reducible refine Blk.alloc ?_ _ | with_reducible refine Blk.drew ?_ | with_reducible refine Blk.rowS ?_ _ | with_reducible refine Blk.rowO ?_ _ (by simp))), Blk.at _ _ (by simp), (by repeat (first | with_reducible exact bel_refl _ | with_reducible assumption | with_reducible refine bel_drewN ?_ _ | with_reducible refine bel_drew ?_ | with_reducible refine bel_alloc ?_ _ | with_reducible refine bel_row ?_ ?_ _ | with_reducible refine bel_set ?_ ?_ _ | refine bel_trans ?_ (by with_reducible assumption) | (simp; done) | (simp; omega)))⟩
 rw [← hW0]
 clear hW0
 have HB := Lib.hid b0
 have cc := b0.1.cell; have lc := b0.1.lt
 have cm := b0.2.1.cell; have lm := b0.2.1.lt
 clear b0
 refine wp_region_grow 11 [Is (clV c), Is (.pointer (some ⟨w.heap.size + 1, 0, none⟩)), Is (.int .i64 (t : Nat)), Is (clV q), Is (.pointer (some ⟨w.heap.size + 1, 1, none⟩)), Is (.int .i64 d.1), Is (.pointer (some ⟨w.heap.size + 1, 2, none⟩)), Is (.int .i64 d.2.1), Is (.pointer (some ⟨w.heap.size + 1, 3, none⟩)), Is (.int .i64 d.2.2), Is (clV r)] (by kernel_rfl) (by kernel_rfl) rfl ⟨fun _ _ _ h _ => h, fun _ _ _ h _ => h, fun _ _ _ h _ => h, fun _ _ _ h _ => h, fun _ _ _ h _ => h, fun _ _ _ h _ => h, fun _ _ _ h _ => h, fun _ _ _ h _ => h, fun _ _ _ h _ => h, fun _ _ _ h _ => h, fun _ _ _ h _ => h, trivial⟩ ?_
 simp only [List.take_succ_cons, List.take_zero, List.drop_succ_cons, List.drop_zero]
 iterate 3 (refine rel_cons ?_ (fun _ => ?_); · intro w1 hb hF; have hc := (Grows.cells hb).1; have hf := (Grows.cells hb).2; (try simp [facts, Is] at hF); go_simp; exact Grows.refl _)
 refine rel_cons ?_ (fun v3 => ?_)
 ·intro w1 hb hF; have hc := (Grows.cells hb).1; have hf := (Grows.cells hb).2; try simp [facts, Is] at hF
  go_simp
  refine (HT1.out _).mono ?_
  rintro e w2 ⟨rfl, hb2⟩
  first | exact ⟨rfl, hb2⟩ | exact ⟨_, rfl, hb2, trivial, rfl⟩
 iterate 6 (refine rel_cons ?_ (fun _ => ?_); · intro w1 hb hF; have hc := (Grows.cells hb).1; have hf := (Grows.cells hb).2; (try simp [facts, Is] at hF); go_simp; exact Grows.refl _)
 refine rel_cons ?_ (fun v10 => ?_)
 ·intro w1 hb hF; have hc := (Grows.cells hb).1; have hf := (Grows.cells hb).2; try simp [facts, Is] at hF
  go_simp
  refine (HM1.out _).mono ?_
  rintro e w2 ⟨rfl, hb2⟩
  first | exact ⟨rfl, hb2⟩ | exact ⟨_, rfl, hb2, trivial, rfl⟩
 refine rel_nil ?_
 intro w1 hb hF
 simp [Is, Nat.forall_lt_succ_right] at hF
 simp only [Act.put, List.setIfInBounds_toArray, List.set_cons_succ, List.set_cons_zero, hF]
 clear hF
 have hb0 : Below _ _ w1 := hb
 have C1 := HB.out.2.2.1.grow hb0
 have hbw := bel_trans HB.out.2.2.2 hb0
 have r1 := C1.row; have l1 := C1.lt
 have cF := (C1.rowS #[.int .i64 r.1, .int .i64 r.2.1, .int .i64 r.2.2]).cell
 have hb5 := bel_row hbw (g := w.heap.size + 1 + 1) (by omega) #[.int .i64 r.1, .int .i64 r.2.1, .int .i64 r.2.2]
 clear hb hb0 cc cm
 rw [← C1.rw]
 clear C1
 go_wp2_with fail
 exact bodyPost_ret (v := clV r) (by simp [results, Tryz.results95, go_sem, cF]) rfl ⟨rfl, hb5⟩
theorem corners_spec (w : World) : Calls Tryz.prog 94 #[] w fun e w' => e = .returned (.agg #[.int .i64 0, .int .i64 0, .int .i64 0, .int .i64 1, .int .i64 0, .int .i64 0, .int .i64 0, .int .i64 1, .int .i64 0, .int .i64 0, .int .i64 0, .int .i64 1]) ∧ Below w.heap.size w w' := by
 go_enter Tryz.func94, Tryz.ntmps94
 go_upto_region 1 with fail
 obtain ⟨W0, hW0⟩ : ∃ W0, W0 = w.alloc (.cells #[.int .i64 0, .int .i64 0, .int .i64 0, .int .i64 0, .int .i64 0, .int .i64 0, .int .i64 0, .int .i64 0, .int .i64 0, .int .i64 0, .int .i64 0, .int .i64 0] 83) := ⟨_, rfl⟩
 have b1 : Blk W0 w.heap.size #[.int .i64 0, .int .i64 0, .int .i64 0, .int .i64 0, .int .i64 0, .int .i64 0, .int .i64 0, .int .i64 0, .int .i64 0, .int .i64 0, .int .i64 0, .int .i64 0] 83 ∧ Below w.heap.size w W0 := by
  rw [hW0]; exact ⟨Blk.new _ _ _, bel_alloc (bel_refl w) _⟩
 rw [← hW0]
 clear hW0
 obtain ⟨C1, hbw⟩ := b1
 have r1 := C1.row; have l1 := C1.lt
 have cF := (C1.rowS #[.int .i64 0, .int .i64 0, .int .i64 0, .int .i64 1, .int .i64 0, .int .i64 0, .int .i64 0, .int .i64 1, .int .i64 0, .int .i64 0, .int .i64 0, .int .i64 1]).cell
 have hb5 := bel_row hbw (g := w.heap.size) (by omega) #[.int .i64 0, .int .i64 0, .int .i64 0, .int .i64 1, .int .i64 0, .int .i64 0, .int .i64 0, .int .i64 1, .int .i64 0, .int .i64 0, .int .i64 0, .int .i64 1]
 rw [← C1.rw]
 clear C1
 go_wp2_with fail
 exact bodyPost_ret (v := .agg #[.int .i64 0, .int .i64 0, .int .i64 0, .int .i64 1, .int .i64 0, .int .i64 0, .int .i64 0, .int .i64 1, .int .i64 0, .int .i64 0, .int .i64 0, .int .i64 1]) (by simp [results, Tryz.results94, go_sem, cF]) rfl ⟨rfl, hb5⟩
end Go.Proofs.YtkfimbonmnoglaaGreatDoor
end
