import Derived.Test.YtlbhjikkpbknnaaGreatDoorG14
/-
  Given contracts of functions of the program, and laws for them, one behind the other.
-/
set_option linter.unusedVariables false
set_option linter.unusedSimpArgs false
set_option linter.unusedSectionVars false
section
namespace Go.Proofs.YtlbhjikkpbknnaaGreatDoor
open Go.RowKit Go.Rel Go.Draw
set_option maxRecDepth 100000
/-! the order of all, and the checks -/
set_option maxHeartbeats 8000000 in
theorem Draw_spec {w : World} {v : Value} {l : List Sol} (H : SlS w v l) (hT : Tab w) : Calls Tryz.prog 39 #[v] w fun e w' => Below w.heap.size w w' ∧ ∃ u b, e = .returned (.tuple #[u, .bool b, .int .i64 (errM l)]) ∧ (errM l = 0 → (∃ L, orderM l (allU l.length) = some L ∧ b = true ∧ OwnM w' w.heap.size u L) ∨ (orderM l (allU l.length) = none ∧ b = false)) := by
 have HM := Lib.hid (moulded_x H)
 have HT := Lib.hid hT
 clear H hT
 go_enter Tryz.func39, Tryz.ntmps39
 go_wp2_with fail
 refine HM.out.mono ?_
 rintro e w1 ⟨hb, p, rfl, hx, -⟩
 by_cases h0 : errM l = 0
 ·obtain ⟨hl, g, mb, rfl, hg, hmb, hM⟩ := hx h0
  have HR := Lib.hid (order_spec hM hl (HT.out.grow hb) (allU l.length) (Sub.refl _))
  have HB := Lib.hid (And.intro hb (And.intro hmb h0))
  obtain ⟨pa, pc, hBk, _⟩ := hM.blk
  have cg := hBk.cell; have lg := hBk.lt
  rw [h0]
  clear hb hx h0 hM hBk
  go_wp2_with fail
  refine (all_spec pa l.length pc (by omega) w1).mono ?_
  rintro e w2 ⟨rfl, hw2⟩
  have hw3 := hw2.symm
  subst hw3
  clear hw2
  go_wp2_with fail
  refine HR.out.mono ?_
  rintro e w3 ⟨⟨L, u, ho, rfl, hO⟩ | ⟨ho, rfl⟩, hW, hgr⟩
  ·have HO := Lib.hid (And.intro ho (And.intro hO hgr)); clear ho hO hW hgr
   go_wp2_with fail
   refine bodyPost_ret (v := .tuple #[u, .bool true, .int .i64 0]) (by simp [results, Tryz.results39, go_sem]) rfl ?_
   exact ⟨gb_base HB.out.1 HO.out.2.2 HB.out.2.1, u, true, by rw [HB.out.2.2], fun _ => .inl ⟨L, HO.out.1, rfl, own_weak HO.out.2.1 HB.out.1.size⟩⟩
  ·have HO := Lib.hid (And.intro ho hgr); clear ho hW hgr
   go_wp2_with fail
   refine bodyPost_ret (v := .tuple #[.slice none 0 0, .bool false, .int .i64 0]) (by simp [results, Tryz.results39, go_sem]) rfl ?_
   exact ⟨gb_base HB.out.1 HO.out.2 HB.out.2.1, _, false, by rw [HB.out.2.2], fun _ => .inr ⟨HO.out.1, rfl⟩⟩
 ·have e0 : (errM l != 0) = true := by simpa using h0
  have HB := Lib.hid (And.intro hb h0)
  clear hb hx h0
  go_wp2_with fail
  refine bodyPost_ret (v := .tuple #[.slice none 0 0, .bool false, .int .i64 (errM l)]) (by simp [results, Tryz.results39, go_sem]) rfl ?_
  exact ⟨HB.out.1, _, _, rfl, fun h => absurd h HB.out.2⟩
set_option maxHeartbeats 8000000 in
theorem CheckOrder_spec {w : World} {v lv : Value} {l : List Sol} {ls : List MvI} (H : SlS w v l) (HL : SlX w lv ls) : Calls Tryz.prog 43 #[v, lv] w fun e w' => Below w.heap.size w w' ∧ ∃ b, e = .returned (.tuple #[.bool b, .int .i64 (errM l)]) ∧ (errM l = 0 → b = (madeM l ls).isSome) ∧ (errM l ≠ 0 → b = false) := by
 have HM := Lib.hid (moulded_x H)
 have HLL := Lib.hid HL
 clear H HL
 go_enter Tryz.func43, Tryz.ntmps43
 go_wp2_with fail
 refine HM.out.mono ?_
 rintro e w1 ⟨hb, p, rfl, hx, -⟩
 by_cases h0 : errM l = 0
 ·obtain ⟨hl, g, mb, rfl, hg, hmb, hM⟩ := hx h0
  have HR := Lib.hid (made_spec hM hl (HLL.out.mono hb))
  have HB := Lib.hid (And.intro hb (And.intro hmb h0))
  rw [h0]
  clear hb hx h0 hM
  go_wp2_with fail
  refine HR.out.mono ?_
  rintro e w2 ⟨rfl, hW, hgr⟩
  cases hm : madeM l ls with
  | none =>
   unfold madeR
   go_wp2_with fail
   go_ret2
   exact ⟨gb_base HB.out.1 hgr HB.out.2.1, false, by rw [HB.out.2.2]; rfl, fun _ => by rw [hm]; rfl, fun _ => rfl⟩
  | some G =>
   unfold madeR
   go_wp2_with fail
   go_ret2
   exact ⟨gb_base HB.out.1 hgr HB.out.2.1, true, by rw [HB.out.2.2]; rfl, fun _ => by rw [hm]; rfl, fun h => absurd HB.out.2.2 h⟩
 ·have e0 : (errM l != 0) = true := by simpa using h0
  have HB := Lib.hid (And.intro hb h0)
  clear hb hx h0
  go_wp2_with fail
  go_ret2
  exact ⟨HB.out.1, _, by rfl, fun h => absurd h HB.out.2, fun _ => rfl⟩
set_option maxHeartbeats 8000000 in
theorem CheckDraw_spec {w : World} {v lv : Value} {l : List Sol} {ls : List MvI} (H : SlS w v l) (HL : SlX w lv ls) : Calls Tryz.prog 41 #[v, lv] w fun e w' => Below w.heap.size w w' ∧ ∃ b, e = .returned (.tuple #[.bool b, .int .i64 (errM l)]) ∧ (errM l = 0 → (b = true ↔ madeM l ls = some (allU l.length))) ∧ (errM l ≠ 0 → b = false) := by
 have HM := Lib.hid (moulded_x H)
 have HLL := Lib.hid HL
 clear H HL
 go_enter Tryz.func41, Tryz.ntmps41
 go_wp2_with fail
 refine HM.out.mono ?_
 rintro e w1 ⟨hb, p, rfl, hx, -⟩
 by_cases h0 : errM l = 0
 ·obtain ⟨hl, g, mb, rfl, hg, hmb, hM⟩ := hx h0
  have HR := Lib.hid (made_spec hM hl (HLL.out.mono hb))
  have HB := Lib.hid (And.intro hb (And.intro hmb (And.intro h0 hM)))
  rw [h0]
  clear hb hx h0 hM
  go_wp2_with fail
  refine HR.out.mono ?_
  rintro e w2 ⟨rfl, hW, hgr⟩
  cases hm : madeM l ls with
  | none =>
   unfold madeR
   go_wp2_with fail
   go_ret2
   exact ⟨gb_base HB.out.1 hgr HB.out.2.1, _, by rw [HB.out.2.2.1]; rfl, fun _ => by simp [hm], fun _ => rfl⟩
  | some G =>
   unfold madeR
   obtain ⟨pa, pc, hBk, _⟩ := (HB.out.2.2.2.grown hgr hW).blk
   have cg := hBk.cell; have lg := hBk.lt
   have HG := Lib.hid hgr
   clear hBk hW hgr
   go_wp2_with fail
   refine (all_spec pa l.length pc (by omega) w2).mono ?_
   rintro e w3 ⟨rfl, hw3⟩
   have hw4 := hw3.symm
   subst hw4
   clear hw3
   go_wp2_with fail
   go_ret2
   exact ⟨gb_base HB.out.1 HG.out HB.out.2.1, _, by rw [HB.out.2.2.1]; rfl, fun _ => by simp [hm, uI_inj], fun h => absurd HB.out.2.2.1 h⟩
 ·have e0 : (errM l != 0) = true := by simpa using h0
  have HB := Lib.hid (And.intro hb h0)
  clear hb hx h0
  go_wp2_with fail
  go_ret2
  exact ⟨HB.out.1, _, by rfl, fun h => absurd h HB.out.2, fun _ => rfl⟩
end Go.Proofs.YtlbhjikkpbknnaaGreatDoor
end
section
namespace Go.Proofs.YtlbhjikkpbknnaaGreatDoor
open Go.RowKit Go.Rel Go.Draw
set_option maxRecDepth 100000
/-! a move that is asked of -/
theorem sl_news {W : World} {b : Nat} {x : Int} {t : TypeId} (h : Blk W b #[.int .i64 x] t) : SlI W (.slice (some ⟨b, 0, none⟩) 1 1) [x] := by
 refine ⟨_, 1, rfl, by simp, by simp, .inr ⟨b, 0, rfl, h.lt, fun i j u hu => ?_⟩⟩
 rw [h.cell]
 cases i with
 | zero =>
  cases j with
  | zero => simpa using hu
  | succ j => simp at hu
 | succ i => simp at hu
def movedE (l : List Sol) (gone : List Int) (x : MvI) : Int := if askE l gone [x.1] ≠ 0 then askE l gone [x.1] else if isMoveI x.2.1 x.2.2 then 0 else 1
def MovedP (w : World) (l : List Sol) (gone : List Int) (x : MvI) (e : Ending) (w' : World) : Prop :=
 Below w.heap.size w w' ∧ ∃ p G, e = .returned (.tuple #[p, .int .u64 (uI G), .int .i64 (movedE l gone x)]) ∧ (movedE l gone x = 0 → l.length ≤ 12 ∧ errM l = 0 ∧ setI l.length gone = some G ∧ askF l.length G x.1 = false ∧ isMoveI x.2.1 x.2.2 = true ∧ ∃ g mb, p = .pointer (some ⟨g, 0, none⟩) ∧ w.heap.size ≤ g ∧ w.heap.size ≤ mb ∧ Mould w' g mb l)
set_option maxHeartbeats 8000000 in
theorem moved_spec {w : World} {v gv : Value} {l : List Sol} {gone : List Int} {a b c : Int} (H : SlS w v l) (HG : SlI w gv gone) : Calls Tryz.prog 68 #[v, gv, .agg #[.int .i64 a, .int .i64 b, .int .i64 c]] w (MovedP w l gone (a, b, c)) := by
 have HH := Lib.hid (And.intro H HG)
 clear H HG
 go_enter Tryz.func68, Tryz.ntmps68
 go_wp2_with fail
 obtain ⟨w2, hw2⟩ : ∃ w2, w2 = (w.alloc (.cells #[.int .i64 a, .int .i64 b, .int .i64 c] 25)).alloc (.cells #[.int .i64 a] 3) := ⟨_, rfl⟩
 have H2 : Hid (Blk w2 w.heap.size #[.int .i64 a, .int .i64 b, .int .i64 c] 25 ∧ Blk w2 (w.heap.size + 1) #[.int .i64 a] 3 ∧ Below w.heap.size w w2) := Lib.hid (by
  subst hw2
  exact ⟨(Blk.new _ _ _).alloc _, by have := Blk.new (w.alloc (.cells #[.int .i64 a, .int .i64 b, .int .i64 c] 25)) #[.int .i64 a] 3; simpa using this, bel_alloc (bel_alloc (bel_refl _) _) _⟩)
 rw [← hw2]
 clear hw2
 refine (asked_spec (of := [a]) (HH.out.1.mono H2.out.2.2) (HH.out.2.mono H2.out.2.2) (sl_news H2.out.2.1)).mono ?_
 rintro e w3 ⟨hb, p, G, rfl, hx, hn⟩
 have hB := H2.out.1.grow hb
 have cb := hB.cell; have lb := hB.lt
 have hbb : Below w.heap.size w w3 := bel_trans H2.out.2.2 hb
 obtain ⟨N0, hN0⟩ : ∃ N0, N0 = w.heap.size := ⟨_, rfl⟩
 have hsz := H2.out.2.2.size
 rw [← hN0] at cb lb ⊢
 clear hN0
 by_cases h0 : askE l gone [a] = 0
 ·have hX := hx h0
  cases hm : isMoveI b c
  ·have hE : movedE l gone (a, b, c) = 1 := by unfold movedE; rw [if_neg (by simpa using h0)]; simp [hm]
   have HE := Lib.hid (And.intro hE (And.intro hbb hm))
   have HMV := Lib.hid (isMove_spec b c w3)
   rw [hm] at HMV
   rw [h0]
   clear hx hn hX h0 hB hb hbb hE hm
   go_wp2_with fail
   refine HMV.out.mono ?_
   rintro e w4 ⟨rfl, hw4⟩
   have hw5 := hw4.symm
   subst hw5
   clear hw4
   go_wp2_with fail
   refine bodyPost_ret (v := .tuple #[p, .int .u64 (uI G), .int .i64 1]) (by simp [results, Tryz.results68, go_sem]) rfl ?_
   exact ⟨HE.out.2.1, _, G, by rw [HE.out.1], fun h => by rw [HE.out.1] at h; cases h⟩
  ·have hE : movedE l gone (a, b, c) = 0 := by unfold movedE; rw [if_neg (by simpa using h0)]; simp [hm]
   have HE := Lib.hid (And.intro hE (And.intro hbb (And.intro hm (And.intro hX hsz))))
   have HMV := Lib.hid (isMove_spec b c w3)
   rw [hm] at HMV
   rw [h0]
   clear hx hn hX h0 hB hb hbb hE hm
   go_wp2_with fail
   refine HMV.out.mono ?_
   rintro e w4 ⟨rfl, hw4⟩
   have hw5 := hw4.symm
   subst hw5
   clear hw4
   go_wp2_with fail
   refine bodyPost_ret (v := .tuple #[p, .int .u64 (uI G), .int .i64 0]) (by simp [results, Tryz.results68, go_sem]) rfl ?_
   refine ⟨HE.out.2.1, _, G, by rw [HE.out.1], fun _ => ?_⟩
   obtain ⟨q1, q2, q3, q4, g, mb, rfl, q5, q6, q7⟩ := HE.out.2.2.2.1
   exact ⟨q1, q2, q3, by simpa using q4, HE.out.2.2.1, g, mb, rfl, Nat.le_trans HE.out.2.2.2.2 q5, Nat.le_trans HE.out.2.2.2.2 q6, q7⟩
 ·have hE : movedE l gone (a, b, c) = askE l gone [a] := by unfold movedE; rw [if_pos h0]
  have e0 : (askE l gone [a] == 0) = false := by simpa using h0
  have HE := Lib.hid (And.intro hE (And.intro hbb h0))
  clear hx hn h0 hB hb hbb hE
  go_wp2_with fail
  refine bodyPost_ret (v := .tuple #[p, .int .u64 (uI G), .int .i64 (askE l gone [a])]) (by simp [results, Tryz.results68, go_sem]) rfl ?_
  exact ⟨HE.out.2.1, _, G, by rw [HE.out.1], fun h => by rw [HE.out.1] at h; exact absurd h HE.out.2.2⟩
end Go.Proofs.YtlbhjikkpbknnaaGreatDoor
end
section
namespace Go.Proofs.YtlbhjikkpbknnaaGreatDoor
open Go.RowKit Go.Rel Go.Draw
set_option maxRecDepth 100000
/-! what is in a move's way, and a lock's check -/
set_option maxHeartbeats 8000000 in
theorem InWay_spec {w : World} {v : Value} {l : List Sol} {a b c : Int} (H : SlS w v l) (hT : Tab w) : Calls Tryz.prog 13 #[v, .agg #[.int .i64 a, .int .i64 b, .int .i64 c]] w fun e w' => Below w.heap.size w w' ∧ ∃ u o, e = .returned (.tuple #[u, .bool o, .int .i64 (movedE l [] (a, b, c))]) ∧ (movedE l [] (a, b, c) = 0 → o = !(inWayM l (natMv (a, b, c))).2 ∧ (o = true → OwnI w' w.heap.size u (intsL (listU (inWayM l (natMv (a, b, c))).1)))) ∧ (o = false → u = .slice none 0 0) ∧ (movedE l [] (a, b, c) ≠ 0 → o = false) := by
 have HT := Lib.hid hT
 have HH := Lib.hid H
 clear H hT
 go_enter Tryz.func13, Tryz.ntmps13
 go_wp2_with fail
 obtain ⟨w2, hw2⟩ : ∃ w2, w2 = w.alloc (.cells #[.int .i64 a, .int .i64 b, .int .i64 c] 25) := ⟨_, rfl⟩
 have H2 : Hid (Blk w2 w.heap.size #[.int .i64 a, .int .i64 b, .int .i64 c] 25 ∧ Below w.heap.size w w2) := Lib.hid (by
  subst hw2
  exact ⟨Blk.new _ _ _, bel_alloc (bel_refl _) _⟩)
 rw [← hw2]
 clear hw2
 refine (moved_spec (gone := []) (a := a) (b := b) (c := c) (HH.out.mono H2.out.2) sl_nil).mono ?_
 rintro e w3 ⟨hb, p, G, rfl, hx⟩
 have hB := H2.out.1.grow hb
 have cb := hB.cell; have lb := hB.lt
 have hbb : Below w.heap.size w w3 := bel_trans H2.out.2 hb
 have hsz := H2.out.2.size
 obtain ⟨N0, hN0⟩ : ∃ N0, N0 = w.heap.size := ⟨_, rfl⟩
 rw [← hN0] at cb lb
 rw [← hN0]
 by_cases h0 : movedE l [] (a, b, c) = 0
 ·obtain ⟨hl, hE, hs, ha, hm, g, mb, rfl, hg, hmb, hM⟩ := hx h0
  have hab : 0 ≤ a ∧ a < l.length := by
   unfold askF at ha
   simp only [Bool.or_eq_false_iff, decide_eq_false_iff_not] at ha
   omega
  have hbc : 0 ≤ b ∧ 0 ≤ c := by unfold isMoveI at hm; simp only [Bool.or_eq_true, Bool.and_eq_true, beq_iff_eq, decide_eq_true_eq] at hm; omega
  obtain ⟨pa, rfl⟩ : ∃ q : Nat, a = q := ⟨a.toNat, by omega⟩
  obtain ⟨pb, rfl⟩ : ∃ q : Nat, b = q := ⟨b.toNat, by omega⟩
  obtain ⟨pc, rfl⟩ : ∃ q : Nat, c = q := ⟨c.toNat, by omega⟩
  have hpa : pa < l.length := by omega
  have HW := Lib.hid (inWay_core hM hl (x := (pa, pb, pc)) (List.getElem?_eq_getElem hpa) (movesL_all (by omega) (movesL_mem (x := ((pa : Int), (pb : Int), (pc : Int))) (Int.natCast_nonneg pa) hm)).2)
  have HB := Lib.hid (And.intro hbb (And.intro (Nat.le_trans hsz hmb) (And.intro h0 hN0)))
  rw [h0]
  clear hb hx h0 hM hs ha hm hE hab hbc hB hbb hsz hg hmb hN0
  go_wp2_with fail
  refine HW.out.mono ?_
  rintro e w4 ⟨rfl, hW, hgr⟩
  obtain ⟨r, hr⟩ : ∃ r, r = inWayM l (pa, pb, pc) := ⟨_, rfl⟩
  rw [← hr]
  have hb4 := gb_base HB.out.1 hgr HB.out.2.1
  have HG := Lib.hid (And.intro hb4 hr)
  clear hW hgr hr hb4
  obtain ⟨r1, r2⟩ := r
  dsimp only [blkV]
  cases r2
  ·have HL := Lib.hid (list_spec r1 (w4.alloc (.cells #[.int .u64 (uI r1), .bool false] 85)) (HT.out.grow (bel_trans HG.out.1 (bel_alloc (bel_refl _) _))))
   go_wp2_with fail
   refine HL.out.mono ?_
   rintro e w5 ⟨u, rfl, hO, hb5⟩
   have hb4 : Below w.heap.size w (w4.alloc (.cells #[.int .u64 (uI r1), .bool false] 85)) := bel_trans HG.out.1 (bel_alloc (bel_refl _) _)
   have HO := Lib.hid (And.intro (own_weak hO hb4.size) (bel_trans hb4 hb5)); clear hO hb5 hb4
   go_wp2_with fail
   refine bodyPost_ret (v := .tuple #[u, .bool true, .int .i64 0]) (by simp [results, Tryz.results13, go_sem]) rfl ?_
   refine ⟨HO.out.2, _, true, by rw [HB.out.2.2.1], (fun _ => ?_), (fun h => by cases h), fun h => absurd HB.out.2.2.1 h⟩
   rw [show natMv ((pa : Int), (pb : Int), (pc : Int)) = (pa, pb, pc) from rfl, ← HG.out.2]
   exact ⟨rfl, fun _ => HO.out.1⟩
  ·go_wp2_with fail
   refine bodyPost_ret (v := .tuple #[.slice none 0 0, .bool false, .int .i64 0]) (by simp [results, Tryz.results13, go_sem]) rfl ?_
   refine ⟨bel_trans HG.out.1 (bel_alloc (bel_refl _) _), _, false, by rw [HB.out.2.2.1], (fun _ => ?_), (fun _ => rfl), fun h => absurd HB.out.2.2.1 h⟩
   rw [show natMv ((pa : Int), (pb : Int), (pc : Int)) = (pa, pb, pc) from rfl, ← HG.out.2]
   exact ⟨rfl, fun h => by cases h⟩
 ·have e0 : (movedE l [] (a, b, c) != 0) = true := by simpa using h0
  have HE := Lib.hid (And.intro hbb h0)
  clear hx h0 hB hb hbb hN0
  go_wp2_with fail
  refine bodyPost_ret (v := .tuple #[.slice none 0 0, .bool false, .int .i64 (movedE l [] (a, b, c))]) (by simp [results, Tryz.results13, go_sem]) rfl ?_
  exact ⟨HE.out.1, _, false, rfl, fun h => absurd h HE.out.2, fun _ => rfl, fun _ => rfl⟩
end Go.Proofs.YtlbhjikkpbknnaaGreatDoor
end
section
namespace Go.Proofs.YtlbhjikkpbknnaaGreatDoor
open Go.RowKit Go.Rel Go.Draw
set_option maxRecDepth 100000
def lockB (l : List Sol) (set : List Int) : Bool := match setI l.length set with
 | some S => locksM l S
 | none => false
set_option maxHeartbeats 8000000 in
theorem CheckLock_spec {w : World} {v gv : Value} {l : List Sol} {set : List Int} (H : SlS w v l) (HG : SlI w gv set) : Calls Tryz.prog 35 #[v, gv] w fun e w' => Below w.heap.size w w' ∧ ∃ b, e = .returned (.tuple #[.bool b, .int .i64 (errM l)]) ∧ (errM l = 0 → b = lockB l set) ∧ (errM l ≠ 0 → b = false) := by
 have HM := Lib.hid (moulded_x H)
 have HLL := Lib.hid HG
 clear H HG
 go_enter Tryz.func35, Tryz.ntmps35
 go_wp2_with fail
 refine HM.out.mono ?_
 rintro e w1 ⟨hb, p, rfl, hx, -⟩
 by_cases h0 : errM l = 0
 ·obtain ⟨hl, g, mb, rfl, hg, hmb, hM⟩ := hx h0
  have HB := Lib.hid (And.intro hb (And.intro hmb (And.intro h0 hM)))
  obtain ⟨pa, pc, hBk, _⟩ := hM.blk
  have cg := hBk.cell; have lg := hBk.lt
  rw [h0]
  clear hb hx h0 hM hBk
  go_wp2_with fail
  refine (set_spec (HLL.out.mono HB.out.1) hl).mono ?_
  rintro e w2 ⟨rfl, hw2⟩
  have hw3 := hw2.symm
  subst hw3
  clear hw2
  cases hs : setI l.length set with
  | none =>
   rw [setV_none]
   have HS : Hid (lockB l set = false) := Lib.hid (by unfold lockB; rw [hs])
   clear hs
   go_wp2_with fail
   go_ret2
   exact ⟨HB.out.1, false, by rw [HB.out.2.2.1]; rfl, fun _ => HS.out.symm, fun _ => rfl⟩
  | some S =>
   unfold setV
   simp only [Option.getD_some, Option.isSome_some]
   have HS : Hid (lockB l set = locksM l S) := Lib.hid (by unfold lockB; rw [hs])
   have HL := Lib.hid (locks_spec HB.out.2.2.2 hl S)
   clear hs
   go_wp2_with fail
   refine HL.out.mono ?_
   rintro e w2 ⟨rfl, hW, hgr⟩
   go_wp2_with fail
   go_ret2
   exact ⟨gb_base HB.out.1 hgr HB.out.2.1, _, by rw [HB.out.2.2.1]; rfl, fun _ => HS.out.symm, fun h => absurd HB.out.2.2.1 h⟩
 ·have e0 : (errM l != 0) = true := by simpa using h0
  have HB := Lib.hid (And.intro hb h0)
  clear hb hx h0
  go_wp2_with fail
  go_ret2
  exact ⟨HB.out.1, _, by rfl, fun h => absurd h HB.out.2, fun _ => rfl⟩
end Go.Proofs.YtlbhjikkpbknnaaGreatDoor
end
section
namespace Go.Proofs.YtlbhjikkpbknnaaGreatDoor
open Go.RowKit Go.Rel Go.Draw
set_option maxRecDepth 100000
/-! the pieces that can go last -/
def lastF (m : List Sol) (k : Nat) : List Nat := (List.range k).filter fun p => firstM m (allU m.length &&& ~~~(bit p))
theorem lastF_succ (m : List Sol) (k : Nat) : lastF m (k + 1) = lastF m k ++ (if firstM m (allU m.length &&& ~~~(bit k)) then [k] else []) := by
 unfold lastF
 rw [List.range_succ, List.filter_append]
 congr 1
 cases h : firstM m (allU m.length &&& ~~~(bit k)) <;> simp [h]
theorem lastF_len (m : List Sol) (k : Nat) : (lastF m k).length ≤ k := by
 unfold lastF
 have := List.length_filter_le (fun p => firstM m (allU m.length &&& ~~~(bit p))) (List.range k)
 simpa using this
theorem sub_andl (A B : U) : Sub (A &&& B) A := fun i h => by rw [BitVec.getLsbD_and, Bool.and_eq_true] at h; exact h.1
set_option maxHeartbeats 8000000 in
theorem Last_spec {w : World} {v : Value} {l : List Sol} (H : SlS w v l) (hT : Tab w) : Calls Tryz.prog 49 #[v] w fun e w' => Below w.heap.size w w' ∧ ∃ u, e = .returned (.tuple #[u, .int .i64 (errM l)]) ∧ (errM l = 0 → OwnI w' w.heap.size u (intsL (lastM l))) ∧ (errM l ≠ 0 → u = .slice none 0 0) := by
 obtain ⟨i0, hi, hz0, hz1, hz2⟩ := info_parts infoInt
 have HI0 := Lib.hid (And.intro hi (And.intro hz0 (And.intro hz1 hz2))); clear hi hz0 hz1 hz2
 have HM := Lib.hid (moulded_x H)
 have HT := Lib.hid hT
 clear H hT
 go_enter Tryz.func49, Tryz.ntmps49
 go_wp2_with fail
 refine HM.out.mono ?_
 rintro e w1 ⟨hb, p, rfl, hx, -⟩
 by_cases h0 : errM l = 0
 ·obtain ⟨hl, g, mb, rfl, hg, hmb, hM⟩ := hx h0
  have HB := Lib.hid (And.intro hb (And.intro hmb (And.intro h0 hM)))
  obtain ⟨pa, pc, hBk, _⟩ := hM.blk
  have cg := hBk.cell; have lg := hBk.lt
  have lmb := hM.ways.lt
  have HF := Lib.hid (first_spec hM hl (HT.out.grow hb) (allU l.length) (Sub.refl _))
  rw [h0]
  clear hb hx h0 hM hBk hg hmb
  go_wp2_with fail
  refine (all_spec pa l.length pc (by omega) w1).mono ?_
  rintro e w2 ⟨rfl, hw2⟩
  have hw3 := hw2.symm
  subst hw3
  clear hw2
  go_wp2_with fail
  refine HF.out.mono ?_
  rintro e w2 ⟨rfl, hW2, hg2⟩
  cases hf : firstM l (allU l.length)
  ·have HH := Lib.hid (And.intro hg2 hf); clear hW2 hg2 hf
   go_wp2_with fail
   go_ret2
   refine ⟨gb_base HB.out.1 HH.out.1 HB.out.2.1, .slice none 0 0, by rw [HB.out.2.2.1]; rfl, (fun _ => ?_), fun _ => rfl⟩
   unfold lastM
   rw [HH.out.2]
   exact World.ownsRow_nil _ _ _ _
  ·have hmg := (HB.out.2.2.2.grown hg2 hW2)
   obtain ⟨pa2, pc2, hBk2, _⟩ := hmg.blk
   have cg2 := hBk2.cell; have lg2 := hBk2.lt
   have HH := Lib.hid (And.intro hg2 (And.intro hf hW2)); clear hW2 hg2 hf hmg hBk2 cg lg
   go_wp2_with fail
   go_loopw [6, 31] (fun ov iv wx => ∃ (k : Nat), k ≤ l.length ∧ iv = .int .i64 k ∧ Hid (OwnI wx w1.heap.size ov (intsL (lastF l k)) ∧ Ways wx mb l ∧ w1.grownBy wx (some mb))) (fun _ iv _ => l.length - (intOf iv).toNat)
   case atStart => exact ⟨0, Nat.zero_le _, rfl, Lib.hid ⟨World.ownsRow_nil _ _ _ _, HH.out.2.2, HH.out.1⟩⟩
   case round =>
    obtain ⟨k, hk, rfl, HI⟩ := hrel
    by_cases hlt : k < l.length
    ·obtain ⟨p3, c3, hBk3, _⟩ := (HB.out.2.2.2.grown HI.out.2.2 HI.out.2.1).blk
     have hmr : Mould wr.drew g mb l := HB.out.2.2.2.grown (w' := wr.drew) (gb_drew HI.out.2.2) (HI.out.2.1.kept (gb_drew (gb_refl _ none)) (by simp))
     have cg3 := hBk3.cell; have lg3 := hBk3.lt
     have hT4 : Tab wr.drew := (HT.out.grow HB.out.1).gbm HB.out.2.2.2.ways (gb_drew HI.out.2.2)
     have HR := Lib.hid (first_spec (w := wr.drew) hmr hl hT4 (allU l.length &&& ~~~(bit k)) (sub_andl _ _))
     have HA := Lib.hid (fun W => all_spec p3 l.length c3 (by omega) W)
     have es := pow_u k (by omega)
     have em : min k 64 = k := Nat.min_eq_left (by omega)
     have ea := bits_andNot_u (allU l.length) (bit k)
     clear hmr hBk3 cg2 lg2 hT4
     go_wp2_with fail
     refine Go.Rel.region_still_tail 9 (by kernel_rfl) (by kernel_rfl) ?_
     simp only [List.take_succ_cons, List.take_zero, List.drop_succ_cons, List.drop_zero]
     iterate 5 (with_reducible refine wpStill_yes (by kernel_rfl) (fun K hK => ?_); go_simp; refine hK _ ?_; clear hK K)
     (with_reducible refine wpStill_yes (by kernel_rfl) (fun K hK => ?_); go_simp; refine ⟨_, (HA.out _), hK _ ?_⟩; clear hK K)
     iterate 3 (with_reducible refine wpStill_yes (by kernel_rfl) (fun K hK => ?_); go_simp; refine hK _ ?_; clear hK K)
     refine wpStill_nil ?_
     go_wp2_with fail
     refine HR.out.mono ?_
     rintro e w4 ⟨rfl, hw4, hg4'⟩
     have hg4 : wr.grownBy w4 (some mb) := (gb_drew (gb_refl wr _)).trans hg4'
     clear hg4'
     have hO4 := HI.out.1.kept hg4 (.inr (fun e => by have := (HI.out.1.lt _ e).1; omega))
     cases hf : firstM l (allU l.length &&& ~~~(bit k))
     ·have HQ := Lib.hid (And.intro hO4 (And.intro hw4 (And.intro (HI.out.2.2.trans hg4) hf))); clear hO4 hw4 hg4 hf
      go_wp2_with fail
      refine ⟨⟨k + 1, by omega, by simp, Lib.hid ⟨?_, HQ.out.2.1, HQ.out.2.2.1⟩⟩, by simp [intOf]; omega⟩
      rw [lastF_succ, HQ.out.2.2.2]
      simpa using HQ.out.1
     ·have HQ := Lib.hid (And.intro hO4 (And.intro hw4 (And.intro (HI.out.2.2.trans hg4) hf))); clear hO4 hw4 hg4 hf
      have hx := HQ.out.1
      have hbs : w1.heap.size ≤ w4.heap.size := HQ.out.2.2.1.size
      obtain ⟨p6, n6, c6, hu6⟩ := own_shapeN hx
      subst hu6
      rw [intsL_length] at hx
      have hlen := lastF_len l k
      have HX := Lib.hid hx; clear hx
      go_wp2_with (first
       | (at_builtin; refine wpList_append_own _ rfl _ _ 23 rfl w1.heap.size 3 i0 (.int .i64 0) 1 8 Tryz.underlying23 HI0.out.1 HI0.out.2.1 HI0.out.2.2.1 HI0.out.2.2.2 rfl (by decide) _ _ _ rfl (HX.out.alloc _) ⟨w4.heap.size, 0, none⟩ 1 1 [.int .i64 (k : Int)] rfl rfl (cell_one_new _ _ _) (fun x hx => by simp at hx; subst hx; rfl) (by unfold maxLen; omega) (by omega) (by simp; omega) ?_; intro v' w7 hown' hgrow7 hnil7))
      have hb7 : Below w1.heap.size w4 w7 := ((bel_alloc (bel_refl w4) (.cells #[.int .i64 (k : Int)] 3)).mono hbs).grown hgrow7 (by simp; omega) (fun j hj => ((HX.out.alloc (.cells #[.int .i64 (k : Int)] 3)).lt j hj).1)
      refine ⟨⟨k + 1, by omega, by simp, Lib.hid ⟨?_, HQ.out.2.1.below hb7 lmb, gb_bel2 HQ.out.2.2.1 hb7⟩⟩, by simp [intOf]; omega⟩
      rw [lastF_succ, HQ.out.2.2.2, if_pos rfl]
      unfold OwnI
      rw [intsL_length, List.length_append]
      unfold intsL at *
      rw [List.map_append, List.map_append]
      exact hown'
    ·obtain rfl : k = l.length := by omega
     go_wp2_with fail
     go_ret2
     refine ⟨gb_base HB.out.1 HI.out.2.2 HB.out.2.1, _, by rw [HB.out.2.2.1]; rfl, (fun _ => ?_), fun h => absurd HB.out.2.2.1 h⟩
     unfold lastM
     rw [if_pos HH.out.2.1]
     exact own_weak HI.out.1 HB.out.1.size
 ·have e0 : (errM l != 0) = true := by simpa using h0
  have HB := Lib.hid (And.intro hb h0)
  clear hb hx h0
  go_wp2_with fail
  go_ret2
  exact ⟨HB.out.1, _, by rfl, fun h => absurd h HB.out.2, fun _ => rfl⟩
end Go.Proofs.YtlbhjikkpbknnaaGreatDoor
end
section
namespace Go.Proofs.YtlbhjikkpbknnaaGreatDoor
open Go.RowKit Go.Rel Go.Draw
set_option maxRecDepth 100000
/-! the reference's lists of numbers -/
theorem ints_open {w : World} {v : Value} {l : List Int} (h : SlI w v l) : ∃ b cc, v = .slice b l.length cc ∧ l.length ≤ 9223372036854775807 ∧ ∀ (k : Nat) (x : Int), l[k]? = some x → ∃ ib io, b = some ⟨ib, io, none⟩ ∧ ib < w.heap.size ∧ ∀ (j : Nat) (y : Int), l[j]? = some y → w.cell? ⟨ib, io + j, none⟩ = some (.int .i64 y) := by
 rcases h.cases with ⟨hz, a, c, rfl, hc⟩ | ⟨ib, io, c, hv, hq1, hq2, _, hcs⟩
 ·have : l = [] := by simpa using hz
  subst this
  exact ⟨_, _, rfl, by simp, fun k x hx => by simp at hx⟩
 ·subst hv
  exact ⟨_, _, by rw [List.length_map], by simp at hq1 hq2; omega, fun k x hx => ⟨ib, io, rfl, hcs.1, fun j y hy => int_cell hcs hy⟩⟩
theorem drop_at {l : List Int} {k : Nat} {x : Int} (hx : l[k]? = some x) : l.drop k = x :: l.drop (k + 1) := by
 obtain ⟨h1, h2⟩ := List.getElem?_eq_some_iff.1 hx
 rw [← h2]; exact List.drop_eq_getElem_cons h1
set_option maxHeartbeats 4000000 in
theorem In_spec {w : World} {v : Value} {l : List Int} (n : Int) (h : SlI w v l) : Calls Tryz.prog 84 #[v, .int .i64 n] w fun e w' => e = .returned (.bool (l.contains n)) ∧ w' = w := by
 obtain ⟨b, cc, rfl, hmx, hH⟩ := ints_open h
 have HH := Lib.hid hH
 clear hH h
 go_enter Tryz.func84, Tryz.ntmps84
 go_wp2_with fail
 go_loopw [5] (fun iv wx => ∃ (k : Nat), k ≤ l.length ∧ iv = .int .i64 k ∧ Hid (l.contains n = (l.drop k).contains n) ∧ wx = w) (fun iv _ => l.length - (intOf iv).toNat)
 case atStart => exact ⟨0, Nat.zero_le _, rfl, Lib.hid rfl, rfl⟩
 case round =>
  obtain ⟨k, hk, rfl, HI, hwr⟩ := hrel
  subst hwr
  by_cases hlt : k < l.length
  ·obtain ⟨x, hx⟩ : ∃ x, l[k]? = some x := ⟨_, List.getElem?_eq_getElem hlt⟩
   obtain ⟨ib, io, rfl, lib, hc⟩ := HH.out k x hx
   have hck := hc k x hx
   have HX := Lib.hid (drop_at hx)
   clear hx hc
   by_cases hn : x = n
   ·subst hn
    go_wp2_with fail
    go_ret
    refine ⟨ret_bool ?_, rfl⟩
    rw [HI.out, HX.out]; simp
   ·have hn2 : ¬ (n = x) := fun e => hn e.symm
    have HN := Lib.hid hn2
    go_wp2_with fail
    refine ⟨⟨k + 1, by omega, by simp, Lib.hid ?_, trivial⟩, by simp [intOf]; omega⟩
    rw [HI.out, HX.out, List.contains_cons]
    have := HN.out
    simp [this]
  ·obtain rfl : k = l.length := by omega
   go_wp2_with fail
   go_ret
   refine ⟨ret_bool ?_, rfl⟩
   rw [HI.out, List.drop_length]; rfl
set_option maxHeartbeats 4000000 in
theorem part_spec {w : World} {v u : Value} {l r : List Int} (h : SlI w v l) (hr : SlI w u r) : Calls Tryz.prog 88 #[v, u] w fun e w' => e = .returned (.bool (l.all fun x => r.contains x)) ∧ w' = w := by
 obtain ⟨b, cc, rfl, hmx, hH⟩ := ints_open h
 have HH := Lib.hid (And.intro hH hr)
 clear hH h hr
 go_enter Tryz.func88, Tryz.ntmps88
 go_wp2_with fail
 go_loopw [5] (fun iv wx => ∃ (k : Nat), k ≤ l.length ∧ iv = .int .i64 k ∧ Hid ((l.all fun x => r.contains x) = ((l.drop k).all fun x => r.contains x)) ∧ wx = w) (fun iv _ => l.length - (intOf iv).toNat)
 case atStart => exact ⟨0, Nat.zero_le _, rfl, Lib.hid rfl, rfl⟩
 case round =>
  obtain ⟨k, hk, rfl, HI, hwr⟩ := hrel
  subst hwr
  by_cases hlt : k < l.length
  ·obtain ⟨x, hx⟩ : ∃ x, l[k]? = some x := ⟨_, List.getElem?_eq_getElem hlt⟩
   obtain ⟨ib, io, rfl, lib, hc⟩ := HH.out.1 k x hx
   have hck := hc k x hx
   have HX := Lib.hid (drop_at hx)
   have HIN := Lib.hid (In_spec x HH.out.2)
   clear hx hc
   go_wp2_with fail
   refine HIN.out.mono ?_
   rintro e w2 ⟨rfl, hw2⟩
   have hw3 := hw2.symm
   subst hw3
   clear hw2
   cases hp : r.contains x
   ·have HP := Lib.hid hp; clear hp
    go_wp2_with fail
    go_ret
    refine ⟨ret_bool ?_, rfl⟩
    rw [HI.out, HX.out, List.all_cons, HP.out]; rfl
   ·have HP := Lib.hid hp; clear hp
    go_wp2_with fail
    refine ⟨⟨k + 1, by omega, by simp, Lib.hid ?_, trivial⟩, by simp [intOf]; omega⟩
    rw [HI.out, HX.out, List.all_cons, HP.out, Bool.true_and]
  ·obtain rfl : k = l.length := by omega
   go_wp2_with fail
   go_ret
   refine ⟨ret_bool ?_, rfl⟩
   rw [HI.out, List.drop_length]; rfl
def unionF (a b : List Int) (k : Nat) : List Nat := (List.range k).filter fun i => a.contains (i : Int) || b.contains (i : Int)
theorem unionF_succ (a b : List Int) (k : Nat) : unionF a b (k + 1) = unionF a b k ++ (if a.contains (k : Int) || b.contains (k : Int) then [k] else []) := by
 unfold unionF
 rw [List.range_succ, List.filter_append]
 congr 1
 cases h : (a.contains (k : Int) || b.contains (k : Int)) <;> simp only [List.filter_cons, List.filter_nil, h] <;> rfl
theorem unionF_len (a b : List Int) (k : Nat) : (unionF a b k).length ≤ k := by
 unfold unionF
 have := List.length_filter_le (fun i : Nat => a.contains (i : Int) || b.contains (i : Int)) (List.range k)
 simpa using this
end Go.Proofs.YtlbhjikkpbknnaaGreatDoor
end
section
namespace Go.Proofs.YtlbhjikkpbknnaaGreatDoor
open Go.RowKit Go.Rel Go.Draw
set_option maxRecDepth 100000
/-! lists that are the same (wpStill_yes) -/
theorem same_drop {l r : List Int} {k : Nat} {x y : Int} (hx : l[k]? = some x) (hy : r[k]? = some y) : (l.drop k == r.drop k) = (x == y && (l.drop (k + 1) == r.drop (k + 1))) := by
 rw [drop_at hx, drop_at hy]; rfl
set_option maxHeartbeats 4000000 in
theorem SameInts_spec {w : World} {v u : Value} {l r : List Int} (h : SlI w v l) (hr : SlI w u r) : Calls Tryz.prog 19 #[v, u] w fun e w' => e = .returned (.bool (l == r)) ∧ Below w.heap.size w w' := by
 obtain ⟨b, cc, rfl, hmx, hH⟩ := ints_open h
 obtain ⟨b2, cc2, rfl, hmx2, hH2⟩ := ints_open hr
 have HH := Lib.hid (And.intro hH hH2)
 clear hH hH2 h hr
 by_cases hlen : l.length = r.length
 ·obtain ⟨n, hn⟩ : ∃ n, n = r.length := ⟨_, rfl⟩
  rw [hlen, ← hn]
  have HL := Lib.hid (And.intro hlen hn)
  rw [hlen, ← hn] at hmx
  clear hlen hn hmx2
  go_enter Tryz.func19, Tryz.ntmps19
  go_wp2_with fail
  go_loopw [5] (fun iv wx => ∃ (k : Nat), k ≤ n ∧ iv = .int .i64 k ∧ Hid ((l == r) = (l.drop k == r.drop k)) ∧ Below w.heap.size w wx) (fun iv _ => n - (intOf iv).toNat)
  case atStart => exact ⟨0, Nat.zero_le _, rfl, Lib.hid rfl, Below.refl _ _⟩
  case round =>
   obtain ⟨k, hk, rfl, HI, hbel⟩ := hrel
   by_cases hlt : k < n
   ·obtain ⟨x, hx⟩ : ∃ x, l[k]? = some x := ⟨_, List.getElem?_eq_getElem (by have := HL.out; omega)⟩
    obtain ⟨y, hy⟩ : ∃ y, r[k]? = some y := ⟨_, List.getElem?_eq_getElem (by have := HL.out; omega)⟩
    obtain ⟨ib, io, rfl, lib, hc⟩ := HH.out.1 k x hx
    obtain ⟨ib2, io2, rfl, lib2, hc2⟩ := HH.out.2 k y hy
    have ck := ((bcell hbel).1 ib (io + k) lib).trans (hc k x hx)
    have ck2 := ((bcell hbel).1 ib2 (io2 + k) lib2).trans (hc2 k y hy)
    have HX := Lib.hid (same_drop hx hy)
    have hsz := hbel.size
    have lb := Nat.lt_of_lt_of_le lib hsz
    have lb2 := Nat.lt_of_lt_of_le lib2 hsz
    clear hx hy hc hc2
    by_cases he : x = y
    ·subst he
     go_wp2_with fail
     refine Go.Rel.region_still_tail 8 (by kernel_rfl) (by kernel_rfl) ?_
     simp only [List.take_succ_cons, List.take_zero, List.drop_succ_cons, List.drop_zero]
     iterate 8 (with_reducible refine wpStill_yes (by kernel_rfl) (fun K hK => ?_); go_simp; refine hK _ ?_; clear hK K)
     refine wpStill_nil ?_
     go_wp2_with fail
     refine ⟨⟨k + 1, by omega, by simp, Lib.hid ?_, bel_drew hbel⟩, by simp [intOf]; omega⟩
     rw [HI.out, HX.out]; simp
    ·have HE := Lib.hid he
     go_wp2_with fail
     refine Go.Rel.region_still_tail 8 (by kernel_rfl) (by kernel_rfl) ?_
     simp only [List.take_succ_cons, List.take_zero, List.drop_succ_cons, List.drop_zero]
     iterate 8 (with_reducible refine wpStill_yes (by kernel_rfl) (fun K hK => ?_); go_simp; refine hK _ ?_; clear hK K)
     refine wpStill_nil ?_
     go_wp2_with fail
     go_ret
     refine ⟨ret_bool ?_, bel_drew hbel⟩
     rw [HI.out, HX.out, beq_eq_false_iff_ne.2 HE.out]; rfl
   ·obtain rfl : k = n := by omega
    go_wp2_with fail
    go_ret
    refine ⟨ret_bool ?_, hbel⟩
    rw [HI.out, List.drop_eq_nil_of_le (by have := HL.out; omega), List.drop_eq_nil_of_le (by have := HL.out; omega)]; rfl
 ·have hl2 : ¬ ((l.length : Int) = r.length) := fun e => hlen (Int.ofNat.inj e)
  have HL := Lib.hid hlen
  clear hlen
  go_enter Tryz.func19, Tryz.ntmps19
  go_wp2_with fail
  go_ret
  refine ⟨ret_bool ?_, Below.refl _ _⟩
  symm
  rw [beq_eq_false_iff_ne]
  intro e; exact HL.out (by rw [e])
end Go.Proofs.YtlbhjikkpbknnaaGreatDoor
end
section
namespace Go.Proofs.YtlbhjikkpbknnaaGreatDoor
open Go.RowKit Go.Rel Go.Draw
set_option maxRecDepth 100000
/-! lists of lists that are the same (wpStill_yes) -/
def SlLL (w : World) (v : Value) (ls : List (List Int)) : Prop := ∃ us : List Value, Sl w 1 v (us.map fun x => [x]) ∧ us.length = ls.length ∧ ∀ (i : Nat) (u : Value) (l : List Int), us[i]? = some u → ls[i]? = some l → SlI w u l
theorem vals_open {w : World} {v : Value} {us : List Value} (h : Sl w 1 v (us.map fun x => [x])) : ∃ b cc, v = .slice b us.length cc ∧ us.length ≤ 9223372036854775807 ∧ ∀ (k : Nat) (x : Value), us[k]? = some x → ∃ ib io, b = some ⟨ib, io, none⟩ ∧ ib < w.heap.size ∧ w.cell? ⟨ib, io + k, none⟩ = some x := by
 rcases h.cases with ⟨hz, a, c, rfl, hc⟩ | ⟨ib, io, c, hv, hq1, hq2, _, hcs⟩
 ·have : us = [] := by simpa using hz
  subst this
  exact ⟨_, _, rfl, by simp, fun k x hx => by simp at hx⟩
 ·subst hv
  refine ⟨_, _, by rw [List.length_map], by simp at hq1 hq2; omega, fun k x hx => ⟨ib, io, rfl, hcs.1, ?_⟩⟩
  have := hcs.2 k 0 x (by simp [hx])
  simpa using this
theorem OwnLL.sll {W : World} {base : Nat} {v : Value} {ls : List (List Nat)} (h : OwnLL W base v ls) : SlLL W v (ls.map intsL) := by
 obtain ⟨us, h1, h2, h3⟩ := h
 refine ⟨us, h1.sl, by simpa using h2, fun i u l hu hl => ?_⟩
 rw [List.getElem?_map] at hl
 cases hq : ls[i]? with
 | none => rw [hq] at hl; cases hl
 | some q =>
  rw [hq] at hl
  simp only [Option.map_some, Option.some.injEq] at hl
  subst hl
  exact (h3 i u q hu hq).sl
theorem drop_atL {l : List (List Int)} {k : Nat} {x : List Int} (hx : l[k]? = some x) : l.drop k = x :: l.drop (k + 1) := by
 obtain ⟨h1, h2⟩ := List.getElem?_eq_some_iff.1 hx
 rw [← h2]; exact List.drop_eq_getElem_cons h1
theorem sameL_drop {l r : List (List Int)} {k : Nat} {x y : List Int} (hx : l[k]? = some x) (hy : r[k]? = some y) : (l.drop k == r.drop k) = (x == y && (l.drop (k + 1) == r.drop (k + 1))) := by
 rw [drop_atL hx, drop_atL hy]; rfl
set_option maxHeartbeats 4000000 in
theorem SameLists_spec {w : World} {v u : Value} {l r : List (List Int)} (h : SlLL w v l) (hr : SlLL w u r) : Calls Tryz.prog 25 #[v, u] w fun e w' => e = .returned (.bool (l == r)) ∧ Below w.heap.size w w' := by
 obtain ⟨us, h1, hu1, hs1⟩ := h
 obtain ⟨us2, h2, hu2, hs2⟩ := hr
 obtain ⟨b, cc, rfl, hmx, hH⟩ := vals_open h1
 obtain ⟨b2, cc2, rfl, hmx2, hH2⟩ := vals_open h2
 have HH := Lib.hid (And.intro hH (And.intro hH2 (And.intro hs1 hs2)))
 clear hH hH2 h1 h2 hs1 hs2
 by_cases hlen : us.length = us2.length
 ·obtain ⟨n, hn⟩ : ∃ n, n = us2.length := ⟨_, rfl⟩
  rw [hlen, ← hn]
  have HL := Lib.hid (And.intro (hlen.trans hn.symm) (And.intro hn (And.intro hu1 hu2)))
  rw [hlen, ← hn] at hmx
  clear hlen hn hmx2 hu1 hu2
  go_enter Tryz.func25, Tryz.ntmps25
  go_wp2_with fail
  go_loopw [5] (fun iv wx => ∃ (k : Nat), k ≤ n ∧ iv = .int .i64 k ∧ Hid ((l == r) = (l.drop k == r.drop k)) ∧ Below w.heap.size w wx) (fun iv _ => n - (intOf iv).toNat)
  case atStart => exact ⟨0, Nat.zero_le _, rfl, Lib.hid rfl, Below.refl _ _⟩
  case round =>
   obtain ⟨k, hk, rfl, HI, hbel⟩ := hrel
   by_cases hlt : k < n
   ·obtain ⟨x, hx⟩ : ∃ x, us[k]? = some x := ⟨_, List.getElem?_eq_getElem (by have := HL.out; omega)⟩
    obtain ⟨y, hy⟩ : ∃ y, us2[k]? = some y := ⟨_, List.getElem?_eq_getElem (by have := HL.out; omega)⟩
    obtain ⟨lx, hlx⟩ : ∃ q, l[k]? = some q := ⟨_, List.getElem?_eq_getElem (by have := HL.out; omega)⟩
    obtain ⟨ly, hly⟩ : ∃ q, r[k]? = some q := ⟨_, List.getElem?_eq_getElem (by have := HL.out; omega)⟩
    obtain ⟨ib, io, rfl, lib, hc⟩ := HH.out.1 k x hx
    obtain ⟨ib2, io2, rfl, lib2, hc2⟩ := HH.out.2.1 k y hy
    have sx := HH.out.2.2.1 k x lx hx hlx
    have sy := HH.out.2.2.2 k y ly hy hly
    obtain ⟨px, cx, hvx, _, _⟩ := ints_open sx
    obtain ⟨py, cy, hvy, _, _⟩ := ints_open sy
    have ck := ((bcell hbel).1 ib (io + k) lib).trans hc
    have ck2 := ((bcell hbel).1 ib2 (io2 + k) lib2).trans hc2
    rw [hvx] at ck sx
    rw [hvy] at ck2 sy
    have HS := Lib.hid (SameInts_spec (sx.mono (bel_drew hbel)) (sy.mono (bel_drew hbel)))
    have HX := Lib.hid (sameL_drop hlx hly)
    have hsz := hbel.size
    have lb := Nat.lt_of_lt_of_le lib hsz
    have lb2 := Nat.lt_of_lt_of_le lib2 hsz
    clear hx hy hc hc2 sx sy hlx hly hvx hvy
    go_wp2_with fail
    refine Go.Rel.region_still_tail 8 (by kernel_rfl) (by kernel_rfl) ?_
    simp only [List.take_succ_cons, List.take_zero, List.drop_succ_cons, List.drop_zero]
    iterate 8 (with_reducible refine wpStill_yes (by kernel_rfl) (fun K hK => ?_); go_simp; refine hK _ ?_; clear hK K)
    refine wpStill_nil ?_
    go_wp2_with fail
    refine HS.out.mono ?_
    rintro e w4 ⟨rfl, hb4⟩
    have HB := Lib.hid (bel_trans (bel_drew hbel) hb4)
    clear hb4 hsz lb lb2 ck ck2 lib lib2
    cases he : lx == ly
    ·have HE := Lib.hid he; clear he
     go_wp2_with fail
     go_ret
     refine ⟨ret_bool ?_, HB.out⟩
     rw [HI.out, HX.out, HE.out]; rfl
    ·have HE := Lib.hid he; clear he
     go_wp2_with fail
     refine ⟨⟨k + 1, by omega, by simp, Lib.hid ?_, HB.out⟩, by simp [intOf]; omega⟩
     rw [HI.out, HX.out, HE.out, Bool.true_and]
   ·obtain rfl : k = n := by omega
    go_wp2_with fail
    go_ret
    refine ⟨ret_bool ?_, hbel⟩
    rw [HI.out, List.drop_eq_nil_of_le (by have := HL.out; omega), List.drop_eq_nil_of_le (by have := HL.out; omega)]; rfl
 ·have hl2 : ¬ ((us.length : Int) = us2.length) := fun e => hlen (Int.ofNat.inj e)
  have HL := Lib.hid (And.intro hlen (And.intro hu1 hu2))
  clear hlen hu1 hu2
  go_enter Tryz.func25, Tryz.ntmps25
  go_wp2_with fail
  go_ret
  refine ⟨ret_bool ?_, Below.refl _ _⟩
  symm
  rw [beq_eq_false_iff_ne]
  intro e; exact HL.out.1 (by rw [HL.out.2.1, HL.out.2.2, e])
end Go.Proofs.YtlbhjikkpbknnaaGreatDoor
end
