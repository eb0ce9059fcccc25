import Derived.Test.YtkfimbonmnoglaaGreatDoorB08
import Derived.Deep.Cut
/-
  Given contracts of functions of the program, and laws for them, one behind the other.
-/
set_option linter.unusedVariables false
set_option linter.unusedSimpArgs false
set_option linter.unusedSectionVars false
section
namespace Go.Proofs.YtkfimbonmnoglaaGreatDoor
open Go.RowKit Go.Rel Go.Draw Go.Solid
set_option maxRecDepth 100000
set_option maxHeartbeats 2000000 in
theorem spun1_spec {c : Cl} (hg : inG c = true) {t : Nat} (ht : t < 24) {bt : Nat} (w : World) (hB : Blk w bt #[.int .i64 (t : Int)] 3) : Calls Tryz.prog 140 #[clV c, .pointer (some ⟨bt, 0, none⟩)] w fun e w' => e = .returned (clV (turnC t c)) ∧ Below w.heap.size w w' := by
 have HT := Lib.hid (fun W => turned_spec hg ht W)
 have cB := hB.cell; have lB := hB.lt
 obtain ⟨d, hd⟩ : ∃ d, d = turnC t c := ⟨_, rfl⟩
 rw [← hd] at HT ⊢
 clear hB hd
 go_enter Tryz.func140, Tryz.ntmps140
 go_wp2_with fail
 refine (HT.out _).mono ?_
 rintro e w1 ⟨rfl, hb1⟩
 have hbw : Below w.heap.size w w1 := bel_trans (by repeat (first | with_reducible exact bel_refl _ | with_reducible assumption | with_reducible refine bel_drewN ?_ _ | with_reducible refine bel_drew ?_ | with_reducible refine bel_alloc ?_ _ | with_reducible refine bel_row ?_ ?_ _ | with_reducible refine bel_set ?_ ?_ _ | refine bel_trans ?_ (by with_reducible assumption) | (simp; done) | (simp; omega))) hb1
 have B3 : Blk w1 (w.heap.size + 1) #[.int .i64 0, .int .i64 0, .int .i64 0] 60 := Blk.grow (by repeat (first | with_reducible assumption | (refine Blk.at _ _ ?_; (simp; done)) | with_reducible refine Blk.alloc ?_ _ | with_reducible refine Blk.drew ?_ | with_reducible refine Blk.rowS ?_ _ | with_reducible refine Blk.rowO ?_ _ (by simp))) hb1
 have r3 := B3.row; have l3 := B3.lt
 have cF := (B3.rowS #[.int .i64 d.1, .int .i64 d.2.1, .int .i64 d.2.2]).cell
 rw [← B3.rw]
 clear B3 hb1 cB lB
 go_wp2_with fail
 exact bodyPost_ret (v := clV d) (by simp [results, Tryz.results140, go_sem, cF]) rfl ⟨rfl, bel_row hbw (by omega) _⟩
theorem turn_stays (t : Nat) (ht : t < 24) (s : Sol) : stays (turnC t) s = true := by
 rw [stays_iff]
 intro c hc
 have hg : inG c = true := by unfold hasS at hc; rw [Bool.and_eq_true] at hc; exact hc.1
 rw [Go.Solid.turn_in, hg]
set_option maxHeartbeats 2000000 in
theorem spun_spec (s : Sol) {t : Nat} (ht : t < 24) (w : World) (hT : Tab w) : Calls Tryz.prog 97 #[solV s, .int .i64 (t : Int)] w fun e w' => e = .returned (solV (imgS (turnC t) s)) ∧ Below w.heap.size w w' := by
 have hst := turn_stays t ht s
 obtain ⟨Y, hY⟩ : ∃ Y, Y = imgS (turnC t) s := ⟨_, rfl⟩
 have HM : Hid (∀ W bt, Blk W bt #[.int .i64 (t : Int)] 3 → Tab W → Calls Tryz.prog 128 #[solV s, .func (.func 140) #[] #[.pointer (some ⟨bt, 0, none⟩)]] W fun e w' => e = .returned (.tuple #[solV Y, .bool true]) ∧ Below W.heap.size W w') := Lib.hid (by
  intro W bt hB hTW
  have := mapped_spec (w := W) s (turnC t) (fid := 140) (lb := #[.pointer (some ⟨bt, 0, none⟩)]) (Inv := fun W => Blk W bt #[.int .i64 (t : Int)] 3)
   (fun A B r h hg hr => h.gb hg (fun e => by have := hr _ e.symm; have := hB.lt; omega)) hB hTW (enters_of Tryz.func140 (by kernel_rfl) rfl) (fun c A hA hc => spun1_spec hc ht A hA)
  rw [hst, if_pos rfl, ← hY] at this
  exact this)
 rw [← hY]
 have HT := Lib.hid hT
 clear hY hst hT
 go_enter Tryz.func97, Tryz.ntmps97
 go_wp2_with fail
 refine (HM.out _ (w.heap.size + 1) (by repeat (first | with_reducible assumption | (refine Blk.at _ _ ?_; (simp; done)) | with_reducible refine Blk.alloc ?_ _ | with_reducible refine Blk.drew ?_ | with_reducible refine Blk.rowS ?_ _ | with_reducible refine Blk.rowO ?_ _ (by simp))) (HT.out.grow (by repeat (first | with_reducible exact bel_refl _ | with_reducible assumption | with_reducible refine bel_drewN ?_ _ | with_reducible refine bel_drew ?_ | with_reducible refine bel_alloc ?_ _ | with_reducible refine bel_row ?_ ?_ _ | with_reducible refine bel_set ?_ ?_ _ | refine bel_trans ?_ (by with_reducible assumption) | (simp; done) | (simp; omega))))).mono ?_
 rintro e w1 ⟨rfl, hb1⟩
 have hbw : Below w.heap.size w w1 := bel_trans (by repeat (first | with_reducible exact bel_refl _ | with_reducible assumption | with_reducible refine bel_drewN ?_ _ | with_reducible refine bel_drew ?_ | with_reducible refine bel_alloc ?_ _ | with_reducible refine bel_row ?_ ?_ _ | with_reducible refine bel_set ?_ ?_ _ | refine bel_trans ?_ (by with_reducible assumption) | (simp; done) | (simp; omega))) hb1
 have B4 : Blk w1 (w.heap.size + 1 + 1) #[.int .u64 0, .int .u64 0, .int .u64 0, .int .u64 0, .int .u64 0, .int .u64 0, .int .u64 0, .int .u64 0] 26 := Blk.grow (by repeat (first | with_reducible assumption | (refine Blk.at _ _ ?_; (simp; done)) | with_reducible refine Blk.alloc ?_ _ | with_reducible refine Blk.drew ?_ | with_reducible refine Blk.rowS ?_ _ | with_reducible refine Blk.rowO ?_ _ (by simp))) hb1
 have B5 := B4.alloc (.cells #[.int .u64 (pl Y 0), .int .u64 (pl Y 1), .int .u64 (pl Y 2), .int .u64 (pl Y 3), .int .u64 (pl Y 4), .int .u64 (pl Y 5), .int .u64 (pl Y 6), .int .u64 (pl Y 7)] 26)
 have r5 := B5.row; have l5 := B5.lt
 have cF := (B5.rowS #[.int .u64 (pl Y 0), .int .u64 (pl Y 1), .int .u64 (pl Y 2), .int .u64 (pl Y 3), .int .u64 (pl Y 4), .int .u64 (pl Y 5), .int .u64 (pl Y 6), .int .u64 (pl Y 7)]).cell
 have hb5 := bel_row (bel_alloc hbw (.cells #[.int .u64 (pl Y 0), .int .u64 (pl Y 1), .int .u64 (pl Y 2), .int .u64 (pl Y 3), .int .u64 (pl Y 4), .int .u64 (pl Y 5), .int .u64 (pl Y 6), .int .u64 (pl Y 7)] 26)) (g := w.heap.size + 1 + 1) (by omega) #[.int .u64 (pl Y 0), .int .u64 (pl Y 1), .int .u64 (pl Y 2), .int .u64 (pl Y 3), .int .u64 (pl Y 4), .int .u64 (pl Y 5), .int .u64 (pl Y 6), .int .u64 (pl Y 7)]
 have l4 := B4.lt
 have B6 : Blk (w1.alloc (.cells #[.int .u64 (pl Y 0), .int .u64 (pl Y 1), .int .u64 (pl Y 2), .int .u64 (pl Y 3), .int .u64 (pl Y 4), .int .u64 (pl Y 5), .int .u64 (pl Y 6), .int .u64 (pl Y 7)] 26)) w1.heap.size #[.int .u64 (pl Y 0), .int .u64 (pl Y 1), .int .u64 (pl Y 2), .int .u64 (pl Y 3), .int .u64 (pl Y 4), .int .u64 (pl Y 5), .int .u64 (pl Y 6), .int .u64 (pl Y 7)] 26 := Blk.new _ _ _
 have c6 := (B6.rowO (g := w.heap.size + 1 + 1) #[.int .u64 0, .int .u64 0, .int .u64 0, .int .u64 0, .int .u64 0, .int .u64 0, .int .u64 0, .int .u64 0] (by omega)).cell
 have l6 := B6.lt
 clear hb1 B6
 go_upto_region 2 with fail
 rw [← B5.rw]
 go_wp2_with fail
 exact bodyPost_ret (v := solV Y) (by simp [results, Tryz.results97, go_sem, cF]) rfl ⟨rfl, hb5⟩
end Go.Proofs.YtkfimbonmnoglaaGreatDoor
end
section
namespace Go.Proofs.YtkfimbonmnoglaaGreatDoor
open Go.RowKit Go.Rel Go.Draw Go.Solid
set_option maxRecDepth 100000
set_option maxHeartbeats 2000000 in
theorem moved1_spec {x y z dx dy dz : Int} (hx : 0 ≤ x ∧ x ≤ 7) (hy : 0 ≤ y ∧ y ≤ 7) (hz : 0 ≤ z ∧ z ≤ 7) (h1 : -7 ≤ dx ∧ dx ≤ 7) (h2 : -7 ≤ dy ∧ dy ≤ 7) (h3 : -7 ≤ dz ∧ dz ≤ 7) {b1 b2 b3 : Nat} (w : World)
  (B1 : Blk w b1 #[.int .i64 dx] 3) (B2 : Blk w b2 #[.int .i64 dy] 3) (B3 : Blk w b3 #[.int .i64 dz] 3) :
  Calls Tryz.prog 131 #[cV x y z, .pointer (some ⟨b1, 0, none⟩), .pointer (some ⟨b2, 0, none⟩), .pointer (some ⟨b3, 0, none⟩)] w fun e w' => e = .returned (cV (x + dx) (y + dy) (z + dz)) ∧ Below w.heap.size w w' := by
 have c1 := B1.cell; have l1 := B1.lt; have c2 := B2.cell; have l2 := B2.lt; have c3 := B3.cell; have l3 := B3.lt
 clear B1 B2 B3
 go_enter Tryz.func131, Tryz.ntmps131
 go_wp2_with fail
 exact bodyPost_ret (v := cV (x + dx) (y + dy) (z + dz)) (by simp [results, Tryz.results131, go_sem]) rfl ⟨rfl, (by repeat (first | with_reducible exact bel_refl _ | with_reducible assumption | with_reducible refine bel_drewN ?_ _ | with_reducible refine bel_drew ?_ | with_reducible refine bel_alloc ?_ _ | with_reducible refine bel_row ?_ ?_ _ | with_reducible refine bel_set ?_ ?_ _ | refine bel_trans ?_ (by with_reducible assumption) | (simp; done) | (simp; omega)))⟩
end Go.Proofs.YtkfimbonmnoglaaGreatDoor
end
section
namespace Go.Proofs.YtkfimbonmnoglaaGreatDoor
open Go.RowKit Go.Rel Go.Draw Go.Solid
set_option maxRecDepth 100000
def shC (dx dy dz : Int) (c : Cl) : Cl := (c.1 + dx, c.2.1 + dy, c.2.2 + dz)
set_option maxHeartbeats 2000000 in
theorem moved_ok (s : Sol) (hs : s ≠ 0) {dx dy dz : Int} (h1 : -7 ≤ dx ∧ dx ≤ 7) (h2 : -7 ≤ dy ∧ dy ≤ 7) (h3 : -7 ≤ dz ∧ dz ≤ 7) (hst : stays (shC dx dy dz) s = true) (w : World) (hT : Tab w) : Calls Tryz.prog 73 #[solV s, .int .i64 dx, .int .i64 dy, .int .i64 dz] w fun e w' => e = .returned (.tuple #[solV (imgS (shC dx dy dz) s), .int .i64 0]) ∧ Below w.heap.size w w' := by
 obtain ⟨Y, hY⟩ : ∃ Y, Y = imgS (shC dx dy dz) s := ⟨_, rfl⟩
 have e0 : (s == 0#512) = false := by rw [beq_eq_false_iff_ne]; exact hs
 have HM : Hid (∀ W b1 b2 b3, Blk W b1 #[.int .i64 dx] 3 → Blk W b2 #[.int .i64 dy] 3 → Blk W b3 #[.int .i64 dz] 3 → Tab W → Calls Tryz.prog 128 #[solV s, .func (.func 131) #[] #[.pointer (some ⟨b1, 0, none⟩), .pointer (some ⟨b2, 0, none⟩), .pointer (some ⟨b3, 0, none⟩)]] W fun e w' => e = .returned (.tuple #[solV Y, .bool true]) ∧ Below W.heap.size W w') := Lib.hid (by
  intro W b1 b2 b3 hB1 hB2 hB3 hTW
  have := mapped_spec (w := W) s (shC dx dy dz) (fid := 131) (lb := #[.pointer (some ⟨b1, 0, none⟩), .pointer (some ⟨b2, 0, none⟩), .pointer (some ⟨b3, 0, none⟩)]) (Inv := fun W => Blk W b1 #[.int .i64 dx] 3 ∧ Blk W b2 #[.int .i64 dy] 3 ∧ Blk W b3 #[.int .i64 dz] 3)
   (fun A B r h hg hr => ⟨h.1.gb hg (fun e => by have := hr _ e.symm; have := hB1.lt; omega), h.2.1.gb hg (fun e => by have := hr _ e.symm; have := hB2.lt; omega), h.2.2.gb hg (fun e => by have := hr _ e.symm; have := hB3.lt; omega)⟩) ⟨hB1, hB2, hB3⟩ hTW (enters_of Tryz.func131 (by kernel_rfl) rfl) (fun c A hA hc => by
    have hG := inG_iff.1 hc
    exact moved1_spec hG.1 hG.2.1 hG.2.2 h1 h2 h3 A hA.1 hA.2.1 hA.2.2)
  rw [hst, if_pos rfl, ← hY] at this
  exact this)
 rw [← hY]
 have HT := Lib.hid hT
 have HI : ∀ d : Int, -7 ≤ d ∧ d ≤ 7 → Hid (∀ W, Calls Tryz.prog 122 #[.int .i64 d, .int .i64 (-7), .int .i64 7] W fun e w' => e = .returned (.bool true) ∧ w' = W) := fun d hd => Lib.hid (fun W => by
  refine (in_spec d (-7) 7 W).mono ?_
  rintro e w' ⟨rfl, rfl⟩
  exact ⟨by simp; omega, rfl⟩)
 have I1 := HI _ h1; have I2 := HI _ h2; have I3 := HI _ h3
 clear hY hst hT HI h1 h2 h3 hs
 go_enter Tryz.func73, Tryz.ntmps73
 go_wp2_with fail
 refine (I1.out _).mono ?_
 rintro e w0 ⟨rfl, rfl⟩
 go_wp2_with fail
 refine (I2.out _).mono ?_
 rintro e w0 ⟨rfl, rfl⟩
 go_wp2_with fail
 refine (I3.out _).mono ?_
 rintro e w0 ⟨rfl, rfl⟩
 go_wp2_with fail
 refine (HM.out _ (w.heap.size + 1) (w.heap.size + 1 + 1) (w.heap.size + 1 + 1 + 1) (by repeat (first | with_reducible assumption | (refine Blk.at _ _ ?_; (simp; done)) | with_reducible refine Blk.alloc ?_ _ | with_reducible refine Blk.drew ?_ | with_reducible refine Blk.rowS ?_ _ | with_reducible refine Blk.rowO ?_ _ (by simp))) (by repeat (first | with_reducible assumption | (refine Blk.at _ _ ?_; (simp; done)) | with_reducible refine Blk.alloc ?_ _ | with_reducible refine Blk.drew ?_ | with_reducible refine Blk.rowS ?_ _ | with_reducible refine Blk.rowO ?_ _ (by simp))) (by repeat (first | with_reducible assumption | (refine Blk.at _ _ ?_; (simp; done)) | with_reducible refine Blk.alloc ?_ _ | with_reducible refine Blk.drew ?_ | with_reducible refine Blk.rowS ?_ _ | with_reducible refine Blk.rowO ?_ _ (by simp))) (HT.out.grow (by repeat (first | with_reducible exact bel_refl _ | with_reducible assumption | with_reducible refine bel_drewN ?_ _ | with_reducible refine bel_drew ?_ | with_reducible refine bel_alloc ?_ _ | with_reducible refine bel_row ?_ ?_ _ | with_reducible refine bel_set ?_ ?_ _ | refine bel_trans ?_ (by with_reducible assumption) | (simp; done) | (simp; omega))))).mono ?_
 rintro e w1 ⟨rfl, hb1⟩
 have hbw : Below w.heap.size w w1 := bel_trans (by repeat (first | with_reducible exact bel_refl _ | with_reducible assumption | with_reducible refine bel_drewN ?_ _ | with_reducible refine bel_drew ?_ | with_reducible refine bel_alloc ?_ _ | with_reducible refine bel_row ?_ ?_ _ | with_reducible refine bel_set ?_ ?_ _ | refine bel_trans ?_ (by with_reducible assumption) | (simp; done) | (simp; omega))) hb1
 have B4 : Blk w1 (w.heap.size + 1 + 1 + 1 + 1) #[.int .u64 0, .int .u64 0, .int .u64 0, .int .u64 0, .int .u64 0, .int .u64 0, .int .u64 0, .int .u64 0] 26 := Blk.grow (by repeat (first | with_reducible assumption | (refine Blk.at _ _ ?_; (simp; done)) | with_reducible refine Blk.alloc ?_ _ | with_reducible refine Blk.drew ?_ | with_reducible refine Blk.rowS ?_ _ | with_reducible refine Blk.rowO ?_ _ (by simp))) hb1
 have B5 := B4.alloc (.cells #[.int .u64 (pl Y 0), .int .u64 (pl Y 1), .int .u64 (pl Y 2), .int .u64 (pl Y 3), .int .u64 (pl Y 4), .int .u64 (pl Y 5), .int .u64 (pl Y 6), .int .u64 (pl Y 7)] 26)
 have r5 := B5.row; have l5 := B5.lt
 have cF := (B5.rowS #[.int .u64 (pl Y 0), .int .u64 (pl Y 1), .int .u64 (pl Y 2), .int .u64 (pl Y 3), .int .u64 (pl Y 4), .int .u64 (pl Y 5), .int .u64 (pl Y 6), .int .u64 (pl Y 7)]).cell
 have hb5 := bel_row (bel_alloc hbw (.cells #[.int .u64 (pl Y 0), .int .u64 (pl Y 1), .int .u64 (pl Y 2), .int .u64 (pl Y 3), .int .u64 (pl Y 4), .int .u64 (pl Y 5), .int .u64 (pl Y 6), .int .u64 (pl Y 7)] 26)) (g := w.heap.size + 1 + 1 + 1 + 1) (by omega) #[.int .u64 (pl Y 0), .int .u64 (pl Y 1), .int .u64 (pl Y 2), .int .u64 (pl Y 3), .int .u64 (pl Y 4), .int .u64 (pl Y 5), .int .u64 (pl Y 6), .int .u64 (pl Y 7)]
 have l4 := B4.lt
 have B6 : Blk (w1.alloc (.cells #[.int .u64 (pl Y 0), .int .u64 (pl Y 1), .int .u64 (pl Y 2), .int .u64 (pl Y 3), .int .u64 (pl Y 4), .int .u64 (pl Y 5), .int .u64 (pl Y 6), .int .u64 (pl Y 7)] 26)) w1.heap.size #[.int .u64 (pl Y 0), .int .u64 (pl Y 1), .int .u64 (pl Y 2), .int .u64 (pl Y 3), .int .u64 (pl Y 4), .int .u64 (pl Y 5), .int .u64 (pl Y 6), .int .u64 (pl Y 7)] 26 := Blk.new _ _ _
 have c6 := (B6.rowO (g := w.heap.size + 1 + 1 + 1 + 1) #[.int .u64 0, .int .u64 0, .int .u64 0, .int .u64 0, .int .u64 0, .int .u64 0, .int .u64 0, .int .u64 0] (by omega)).cell
 have l6 := B6.lt
 clear hb1 B6
 go_upto_region 8 with fail
 rw [← B5.rw]
 go_wp2_with fail
 exact bodyPost_ret (v := .tuple #[solV Y, .int .i64 0]) (by simp [results, Tryz.results73, go_sem, cF]) rfl ⟨rfl, hb5⟩
end Go.Proofs.YtkfimbonmnoglaaGreatDoor
end
section
namespace Go.Proofs.YtkfimbonmnoglaaGreatDoor
open Go.RowKit Go.Rel Go.Draw Go.Solid
set_option maxRecDepth 100000
set_option maxHeartbeats 2000000 in
theorem moved_off (s : Sol) (hs : s ≠ 0) {dx dy dz : Int} (h1 : -7 ≤ dx ∧ dx ≤ 7) (h2 : -7 ≤ dy ∧ dy ≤ 7) (h3 : -7 ≤ dz ∧ dz ≤ 7) (hst : stays (shC dx dy dz) s = false) (w : World) (hT : Tab w) : Calls Tryz.prog 73 #[solV s, .int .i64 dx, .int .i64 dy, .int .i64 dz] w fun e w' => e = .returned (.tuple #[solV 0, .int .i64 20]) ∧ Below w.heap.size w w' := by
 obtain ⟨Y, hY⟩ : ∃ Y : Sol, Y = 0 := ⟨_, rfl⟩
 have e0 : (s == 0#512) = false := by rw [beq_eq_false_iff_ne]; exact hs
 have HM : Hid (∀ W b1 b2 b3, Blk W b1 #[.int .i64 dx] 3 → Blk W b2 #[.int .i64 dy] 3 → Blk W b3 #[.int .i64 dz] 3 → Tab W → Calls Tryz.prog 128 #[solV s, .func (.func 131) #[] #[.pointer (some ⟨b1, 0, none⟩), .pointer (some ⟨b2, 0, none⟩), .pointer (some ⟨b3, 0, none⟩)]] W fun e w' => e = .returned (.tuple #[solV Y, .bool false]) ∧ Below W.heap.size W w') := Lib.hid (by
  intro W b1 b2 b3 hB1 hB2 hB3 hTW
  have := mapped_spec (w := W) s (shC dx dy dz) (fid := 131) (lb := #[.pointer (some ⟨b1, 0, none⟩), .pointer (some ⟨b2, 0, none⟩), .pointer (some ⟨b3, 0, none⟩)]) (Inv := fun W => Blk W b1 #[.int .i64 dx] 3 ∧ Blk W b2 #[.int .i64 dy] 3 ∧ Blk W b3 #[.int .i64 dz] 3)
   (fun A B r h hg hr => ⟨h.1.gb hg (fun e => by have := hr _ e.symm; have := hB1.lt; omega), h.2.1.gb hg (fun e => by have := hr _ e.symm; have := hB2.lt; omega), h.2.2.gb hg (fun e => by have := hr _ e.symm; have := hB3.lt; omega)⟩) ⟨hB1, hB2, hB3⟩ hTW (enters_of Tryz.func131 (by kernel_rfl) rfl) (fun c A hA hc => by
    have hG := inG_iff.1 hc
    exact moved1_spec hG.1 hG.2.1 hG.2.2 h1 h2 h3 A hA.1 hA.2.1 hA.2.2)
  rw [hst, if_neg (by simp), ← hY] at this
  exact this)
 rw [← hY]
 have HT := Lib.hid hT
 have HI : ∀ d : Int, -7 ≤ d ∧ d ≤ 7 → Hid (∀ W, Calls Tryz.prog 122 #[.int .i64 d, .int .i64 (-7), .int .i64 7] W fun e w' => e = .returned (.bool true) ∧ w' = W) := fun d hd => Lib.hid (fun W => by
  refine (in_spec d (-7) 7 W).mono ?_
  rintro e w' ⟨rfl, rfl⟩
  exact ⟨by simp; omega, rfl⟩)
 have I1 := HI _ h1; have I2 := HI _ h2; have I3 := HI _ h3
 have HY := Lib.hid hY
 clear hY hst hT HI h1 h2 h3 hs
 go_enter Tryz.func73, Tryz.ntmps73
 go_wp2_with fail
 refine (I1.out _).mono ?_
 rintro e w0 ⟨rfl, rfl⟩
 go_wp2_with fail
 refine (I2.out _).mono ?_
 rintro e w0 ⟨rfl, rfl⟩
 go_wp2_with fail
 refine (I3.out _).mono ?_
 rintro e w0 ⟨rfl, rfl⟩
 go_wp2_with fail
 refine (HM.out _ (w.heap.size + 1) (w.heap.size + 1 + 1) (w.heap.size + 1 + 1 + 1) (by repeat (first | with_reducible assumption | (refine Blk.at _ _ ?_; (simp; done)) | with_reducible refine Blk.alloc ?_ _ | with_reducible refine Blk.drew ?_ | with_reducible refine Blk.rowS ?_ _ | with_reducible refine Blk.rowO ?_ _ (by simp))) (by repeat (first | with_reducible assumption | (refine Blk.at _ _ ?_; (simp; done)) | with_reducible refine Blk.alloc ?_ _ | with_reducible refine Blk.drew ?_ | with_reducible refine Blk.rowS ?_ _ | with_reducible refine Blk.rowO ?_ _ (by simp))) (by repeat (first | with_reducible assumption | (refine Blk.at _ _ ?_; (simp; done)) | with_reducible refine Blk.alloc ?_ _ | with_reducible refine Blk.drew ?_ | with_reducible refine Blk.rowS ?_ _ | with_reducible refine Blk.rowO ?_ _ (by simp))) (HT.out.grow (by repeat (first | with_reducible exact bel_refl _ | with_reducible assumption | with_reducible refine bel_drewN ?_ _ | with_reducible refine bel_drew ?_ | with_reducible refine bel_alloc ?_ _ | with_reducible refine bel_row ?_ ?_ _ | with_reducible refine bel_set ?_ ?_ _ | refine bel_trans ?_ (by with_reducible assumption) | (simp; done) | (simp; omega))))).mono ?_
 rintro e w1 ⟨rfl, hb1⟩
 have hbw : Below w.heap.size w w1 := bel_trans (by repeat (first | with_reducible exact bel_refl _ | with_reducible assumption | with_reducible refine bel_drewN ?_ _ | with_reducible refine bel_drew ?_ | with_reducible refine bel_alloc ?_ _ | with_reducible refine bel_row ?_ ?_ _ | with_reducible refine bel_set ?_ ?_ _ | refine bel_trans ?_ (by with_reducible assumption) | (simp; done) | (simp; omega))) hb1
 have B4 : Blk w1 (w.heap.size + 1 + 1 + 1 + 1) #[.int .u64 0, .int .u64 0, .int .u64 0, .int .u64 0, .int .u64 0, .int .u64 0, .int .u64 0, .int .u64 0] 26 := Blk.grow (by repeat (first | with_reducible assumption | (refine Blk.at _ _ ?_; (simp; done)) | with_reducible refine Blk.alloc ?_ _ | with_reducible refine Blk.drew ?_ | with_reducible refine Blk.rowS ?_ _ | with_reducible refine Blk.rowO ?_ _ (by simp))) hb1
 have B5 := B4.alloc (.cells #[.int .u64 (pl Y 0), .int .u64 (pl Y 1), .int .u64 (pl Y 2), .int .u64 (pl Y 3), .int .u64 (pl Y 4), .int .u64 (pl Y 5), .int .u64 (pl Y 6), .int .u64 (pl Y 7)] 26)
 have r5 := B5.row; have l5 := B5.lt
 have cF := (B5.rowS #[.int .u64 0, .int .u64 0, .int .u64 0, .int .u64 0, .int .u64 0, .int .u64 0, .int .u64 0, .int .u64 0]).cell
 have hb5 := bel_row (bel_alloc hbw (.cells #[.int .u64 (pl Y 0), .int .u64 (pl Y 1), .int .u64 (pl Y 2), .int .u64 (pl Y 3), .int .u64 (pl Y 4), .int .u64 (pl Y 5), .int .u64 (pl Y 6), .int .u64 (pl Y 7)] 26)) (g := w.heap.size + 1 + 1 + 1 + 1) (by omega) #[.int .u64 0, .int .u64 0, .int .u64 0, .int .u64 0, .int .u64 0, .int .u64 0, .int .u64 0, .int .u64 0]
 have l4 := B4.lt
 have B6 : Blk (w1.alloc (.cells #[.int .u64 (pl Y 0), .int .u64 (pl Y 1), .int .u64 (pl Y 2), .int .u64 (pl Y 3), .int .u64 (pl Y 4), .int .u64 (pl Y 5), .int .u64 (pl Y 6), .int .u64 (pl Y 7)] 26)) w1.heap.size #[.int .u64 (pl Y 0), .int .u64 (pl Y 1), .int .u64 (pl Y 2), .int .u64 (pl Y 3), .int .u64 (pl Y 4), .int .u64 (pl Y 5), .int .u64 (pl Y 6), .int .u64 (pl Y 7)] 26 := Blk.new _ _ _
 have c6 := (B6.rowO (g := w.heap.size + 1 + 1 + 1 + 1) #[.int .u64 0, .int .u64 0, .int .u64 0, .int .u64 0, .int .u64 0, .int .u64 0, .int .u64 0, .int .u64 0] (by omega)).cell
 have l6 := B6.lt
 clear hb1 B6
 go_upto_region 7 with fail
 rw [← B5.rw]
 go_wp2_with fail
 exact bodyPost_ret (v := .tuple #[.agg #[.int .u64 0, .int .u64 0, .int .u64 0, .int .u64 0, .int .u64 0, .int .u64 0, .int .u64 0, .int .u64 0], .int .i64 20]) (by simp [results, Tryz.results73, go_sem, cF]) rfl ⟨by rw [show solV Y = .agg #[.int .u64 0, .int .u64 0, .int .u64 0, .int .u64 0, .int .u64 0, .int .u64 0, .int .u64 0, .int .u64 0] by rw [HY.out]; simp only [solV, pl_zero]], hb5⟩
end Go.Proofs.YtkfimbonmnoglaaGreatDoor
end
section
namespace Go.Proofs.YtkfimbonmnoglaaGreatDoor
open Go.RowKit Go.Rel Go.Draw Go.Solid
set_option maxRecDepth 100000
set_option maxHeartbeats 2000000 in
theorem moved_zero (s : Sol) (hs : s = 0) (dx dy dz : Int) (w : World) : Calls Tryz.prog 73 #[solV s, .int .i64 dx, .int .i64 dy, .int .i64 dz] w fun e w' => e = .returned (.tuple #[solV s, .int .i64 0]) ∧ Below w.heap.size w w' := by
 have e0 : (s == 0#512) = true := by rw [beq_iff_eq]; exact hs
 clear hs
 go_enter Tryz.func73, Tryz.ntmps73
 go_wp2_with fail
 exact bodyPost_ret (v := .tuple #[solV s, .int .i64 0]) (by simp [results, Tryz.results73, go_sem]) rfl ⟨rfl, (by repeat (first | with_reducible exact bel_refl _ | with_reducible assumption | with_reducible refine bel_drewN ?_ _ | with_reducible refine bel_drew ?_ | with_reducible refine bel_alloc ?_ _ | with_reducible refine bel_row ?_ ?_ _ | with_reducible refine bel_set ?_ ?_ _ | refine bel_trans ?_ (by with_reducible assumption) | (simp; done) | (simp; omega)))⟩
set_option maxHeartbeats 2000000 in
theorem moved_far0 (s : Sol) (hs : s ≠ 0) {dx dy dz : Int} (h0 : (decide (-7 ≤ dx) && decide (dx ≤ 7)) = false) (w : World) : Calls Tryz.prog 73 #[solV s, .int .i64 dx, .int .i64 dy, .int .i64 dz] w fun e w' => e = .returned (.tuple #[.agg #[.int .u64 0, .int .u64 0, .int .u64 0, .int .u64 0, .int .u64 0, .int .u64 0, .int .u64 0, .int .u64 0], .int .i64 20]) ∧ Below w.heap.size w w' := by
 have e0 : (s == 0#512) = false := by rw [beq_eq_false_iff_ne]; exact hs
 have I0 : Hid (∀ W, Calls Tryz.prog 122 #[.int .i64 dx, .int .i64 (-7), .int .i64 7] W fun e w' => e = .returned (.bool false) ∧ w' = W) := Lib.hid (fun W => by
  refine (in_spec dx (-7) 7 W).mono ?_
  rintro e w' ⟨rfl, rfl⟩
  exact ⟨by rw [h0], rfl⟩)
 clear h0 hs
 go_enter Tryz.func73, Tryz.ntmps73
 go_wp2_with fail
 refine (I0.out _).mono ?_
 rintro e w0 ⟨rfl, rfl⟩
 go_wp2_with fail
 exact bodyPost_ret (v := .tuple #[.agg #[.int .u64 0, .int .u64 0, .int .u64 0, .int .u64 0, .int .u64 0, .int .u64 0, .int .u64 0, .int .u64 0], .int .i64 20]) (by simp [results, Tryz.results73, go_sem]) rfl ⟨rfl, (by repeat (first | with_reducible exact bel_refl _ | with_reducible assumption | with_reducible refine bel_drewN ?_ _ | with_reducible refine bel_drew ?_ | with_reducible refine bel_alloc ?_ _ | with_reducible refine bel_row ?_ ?_ _ | with_reducible refine bel_set ?_ ?_ _ | refine bel_trans ?_ (by with_reducible assumption) | (simp; done) | (simp; omega)))⟩
set_option maxHeartbeats 2000000 in
theorem moved_far1 (s : Sol) (hs : s ≠ 0) {dx dy dz : Int} (h0 : (decide (-7 ≤ dx) && decide (dx ≤ 7)) = true) (h1 : (decide (-7 ≤ dy) && decide (dy ≤ 7)) = false) (w : World) : Calls Tryz.prog 73 #[solV s, .int .i64 dx, .int .i64 dy, .int .i64 dz] w fun e w' => e = .returned (.tuple #[.agg #[.int .u64 0, .int .u64 0, .int .u64 0, .int .u64 0, .int .u64 0, .int .u64 0, .int .u64 0, .int .u64 0], .int .i64 20]) ∧ Below w.heap.size w w' := by
 have e0 : (s == 0#512) = false := by rw [beq_eq_false_iff_ne]; exact hs
 have I0 : Hid (∀ W, Calls Tryz.prog 122 #[.int .i64 dx, .int .i64 (-7), .int .i64 7] W fun e w' => e = .returned (.bool true) ∧ w' = W) := Lib.hid (fun W => by
  refine (in_spec dx (-7) 7 W).mono ?_
  rintro e w' ⟨rfl, rfl⟩
  exact ⟨by rw [h0], rfl⟩)
 have I1 : Hid (∀ W, Calls Tryz.prog 122 #[.int .i64 dy, .int .i64 (-7), .int .i64 7] W fun e w' => e = .returned (.bool false) ∧ w' = W) := Lib.hid (fun W => by
  refine (in_spec dy (-7) 7 W).mono ?_
  rintro e w' ⟨rfl, rfl⟩
  exact ⟨by rw [h1], rfl⟩)
 clear h0 h1 hs
 go_enter Tryz.func73, Tryz.ntmps73
 go_wp2_with fail
 refine (I0.out _).mono ?_
 rintro e w0 ⟨rfl, rfl⟩
 go_wp2_with fail
 refine (I1.out _).mono ?_
 rintro e w0 ⟨rfl, rfl⟩
 go_wp2_with fail
 exact bodyPost_ret (v := .tuple #[.agg #[.int .u64 0, .int .u64 0, .int .u64 0, .int .u64 0, .int .u64 0, .int .u64 0, .int .u64 0, .int .u64 0], .int .i64 20]) (by simp [results, Tryz.results73, go_sem]) rfl ⟨rfl, (by repeat (first | with_reducible exact bel_refl _ | with_reducible assumption | with_reducible refine bel_drewN ?_ _ | with_reducible refine bel_drew ?_ | with_reducible refine bel_alloc ?_ _ | with_reducible refine bel_row ?_ ?_ _ | with_reducible refine bel_set ?_ ?_ _ | refine bel_trans ?_ (by with_reducible assumption) | (simp; done) | (simp; omega)))⟩
set_option maxHeartbeats 2000000 in
theorem moved_far2 (s : Sol) (hs : s ≠ 0) {dx dy dz : Int} (h0 : (decide (-7 ≤ dx) && decide (dx ≤ 7)) = true) (h1 : (decide (-7 ≤ dy) && decide (dy ≤ 7)) = true) (h2 : (decide (-7 ≤ dz) && decide (dz ≤ 7)) = false) (w : World) : Calls Tryz.prog 73 #[solV s, .int .i64 dx, .int .i64 dy, .int .i64 dz] w fun e w' => e = .returned (.tuple #[.agg #[.int .u64 0, .int .u64 0, .int .u64 0, .int .u64 0, .int .u64 0, .int .u64 0, .int .u64 0, .int .u64 0], .int .i64 20]) ∧ Below w.heap.size w w' := by
 have e0 : (s == 0#512) = false := by rw [beq_eq_false_iff_ne]; exact hs
 have I0 : Hid (∀ W, Calls Tryz.prog 122 #[.int .i64 dx, .int .i64 (-7), .int .i64 7] W fun e w' => e = .returned (.bool true) ∧ w' = W) := Lib.hid (fun W => by
  refine (in_spec dx (-7) 7 W).mono ?_
  rintro e w' ⟨rfl, rfl⟩
  exact ⟨by rw [h0], rfl⟩)
 have I1 : Hid (∀ W, Calls Tryz.prog 122 #[.int .i64 dy, .int .i64 (-7), .int .i64 7] W fun e w' => e = .returned (.bool true) ∧ w' = W) := Lib.hid (fun W => by
  refine (in_spec dy (-7) 7 W).mono ?_
  rintro e w' ⟨rfl, rfl⟩
  exact ⟨by rw [h1], rfl⟩)
 have I2 : Hid (∀ W, Calls Tryz.prog 122 #[.int .i64 dz, .int .i64 (-7), .int .i64 7] W fun e w' => e = .returned (.bool false) ∧ w' = W) := Lib.hid (fun W => by
  refine (in_spec dz (-7) 7 W).mono ?_
  rintro e w' ⟨rfl, rfl⟩
  exact ⟨by rw [h2], rfl⟩)
 clear h0 h1 h2 hs
 go_enter Tryz.func73, Tryz.ntmps73
 go_wp2_with fail
 refine (I0.out _).mono ?_
 rintro e w0 ⟨rfl, rfl⟩
 go_wp2_with fail
 refine (I1.out _).mono ?_
 rintro e w0 ⟨rfl, rfl⟩
 go_wp2_with fail
 refine (I2.out _).mono ?_
 rintro e w0 ⟨rfl, rfl⟩
 go_wp2_with fail
 exact bodyPost_ret (v := .tuple #[.agg #[.int .u64 0, .int .u64 0, .int .u64 0, .int .u64 0, .int .u64 0, .int .u64 0, .int .u64 0, .int .u64 0], .int .i64 20]) (by simp [results, Tryz.results73, go_sem]) rfl ⟨rfl, (by repeat (first | with_reducible exact bel_refl _ | with_reducible assumption | with_reducible refine bel_drewN ?_ _ | with_reducible refine bel_drew ?_ | with_reducible refine bel_alloc ?_ _ | with_reducible refine bel_row ?_ ?_ _ | with_reducible refine bel_set ?_ ?_ _ | refine bel_trans ?_ (by with_reducible assumption) | (simp; done) | (simp; omega)))⟩
end Go.Proofs.YtkfimbonmnoglaaGreatDoor
end
section
namespace Go.Proofs.YtkfimbonmnoglaaGreatDoor
open Go.RowKit Go.Rel Go.Draw Go.Solid
set_option maxRecDepth 100000
set_option maxHeartbeats 2000000 in
theorem right_0 {t x y z : Int} (h0 : (decide (0 ≤ t) && decide (t ≤ 23)) = false) (w : World) : Calls Tryz.prog 88 #[.agg #[.int .i64 t, .int .i64 x, .int .i64 y, .int .i64 z]] w fun e w' => e = .returned (.bool false) ∧ Below w.heap.size w w' := by
 have I0 : Hid (∀ W, Calls Tryz.prog 122 #[.int .i64 t, .int .i64 (0), .int .i64 23] W fun e w' => e = .returned (.bool false) ∧ w' = W) := Lib.hid (fun W => by
  refine (in_spec t (0) 23 W).mono ?_
  rintro e w' ⟨rfl, rfl⟩
  exact ⟨by rw [h0], rfl⟩)
 clear h0
 go_enter Tryz.func88, Tryz.ntmps88
 go_wp2_with fail
 refine (I0.out _).mono ?_
 rintro e w0 ⟨rfl, rfl⟩
 go_wp2_with fail
 go_ret
 exact ⟨rfl, (by repeat (first | with_reducible exact bel_refl _ | with_reducible assumption | with_reducible refine bel_drewN ?_ _ | with_reducible refine bel_drew ?_ | with_reducible refine bel_alloc ?_ _ | with_reducible refine bel_row ?_ ?_ _ | with_reducible refine bel_set ?_ ?_ _ | refine bel_trans ?_ (by with_reducible assumption) | (simp; done) | (simp; omega)))⟩
set_option maxHeartbeats 2000000 in
theorem right_1 {t x y z : Int} (h0 : (decide (0 ≤ t) && decide (t ≤ 23)) = true) (h1 : (decide (-7 ≤ x) && decide (x ≤ 7)) = false) (w : World) : Calls Tryz.prog 88 #[.agg #[.int .i64 t, .int .i64 x, .int .i64 y, .int .i64 z]] w fun e w' => e = .returned (.bool false) ∧ Below w.heap.size w w' := by
 have I0 : Hid (∀ W, Calls Tryz.prog 122 #[.int .i64 t, .int .i64 (0), .int .i64 23] W fun e w' => e = .returned (.bool true) ∧ w' = W) := Lib.hid (fun W => by
  refine (in_spec t (0) 23 W).mono ?_
  rintro e w' ⟨rfl, rfl⟩
  exact ⟨by rw [h0], rfl⟩)
 have I1 : Hid (∀ W, Calls Tryz.prog 122 #[.int .i64 x, .int .i64 (-7), .int .i64 7] W fun e w' => e = .returned (.bool false) ∧ w' = W) := Lib.hid (fun W => by
  refine (in_spec x (-7) 7 W).mono ?_
  rintro e w' ⟨rfl, rfl⟩
  exact ⟨by rw [h1], rfl⟩)
 clear h0 h1
 go_enter Tryz.func88, Tryz.ntmps88
 go_wp2_with fail
 refine (I0.out _).mono ?_
 rintro e w0 ⟨rfl, rfl⟩
 go_wp2_with fail
 refine (I1.out _).mono ?_
 rintro e w0 ⟨rfl, rfl⟩
 go_wp2_with fail
 go_ret
 exact ⟨rfl, (by repeat (first | with_reducible exact bel_refl _ | with_reducible assumption | with_reducible refine bel_drewN ?_ _ | with_reducible refine bel_drew ?_ | with_reducible refine bel_alloc ?_ _ | with_reducible refine bel_row ?_ ?_ _ | with_reducible refine bel_set ?_ ?_ _ | refine bel_trans ?_ (by with_reducible assumption) | (simp; done) | (simp; omega)))⟩
set_option maxHeartbeats 2000000 in
theorem right_2 {t x y z : Int} (h0 : (decide (0 ≤ t) && decide (t ≤ 23)) = true) (h1 : (decide (-7 ≤ x) && decide (x ≤ 7)) = true) (h2 : (decide (-7 ≤ y) && decide (y ≤ 7)) = false) (w : World) : Calls Tryz.prog 88 #[.agg #[.int .i64 t, .int .i64 x, .int .i64 y, .int .i64 z]] w fun e w' => e = .returned (.bool false) ∧ Below w.heap.size w w' := by
 have I0 : Hid (∀ W, Calls Tryz.prog 122 #[.int .i64 t, .int .i64 (0), .int .i64 23] W fun e w' => e = .returned (.bool true) ∧ w' = W) := Lib.hid (fun W => by
  refine (in_spec t (0) 23 W).mono ?_
  rintro e w' ⟨rfl, rfl⟩
  exact ⟨by rw [h0], rfl⟩)
 have I1 : Hid (∀ W, Calls Tryz.prog 122 #[.int .i64 x, .int .i64 (-7), .int .i64 7] W fun e w' => e = .returned (.bool true) ∧ w' = W) := Lib.hid (fun W => by
  refine (in_spec x (-7) 7 W).mono ?_
  rintro e w' ⟨rfl, rfl⟩
  exact ⟨by rw [h1], rfl⟩)
 have I2 : Hid (∀ W, Calls Tryz.prog 122 #[.int .i64 y, .int .i64 (-7), .int .i64 7] W fun e w' => e = .returned (.bool false) ∧ w' = W) := Lib.hid (fun W => by
  refine (in_spec y (-7) 7 W).mono ?_
  rintro e w' ⟨rfl, rfl⟩
  exact ⟨by rw [h2], rfl⟩)
 clear h0 h1 h2
 go_enter Tryz.func88, Tryz.ntmps88
 go_wp2_with fail
 refine (I0.out _).mono ?_
 rintro e w0 ⟨rfl, rfl⟩
 go_wp2_with fail
 refine (I1.out _).mono ?_
 rintro e w0 ⟨rfl, rfl⟩
 go_wp2_with fail
 refine (I2.out _).mono ?_
 rintro e w0 ⟨rfl, rfl⟩
 go_wp2_with fail
 go_ret
 exact ⟨rfl, (by repeat (first | with_reducible exact bel_refl _ | with_reducible assumption | with_reducible refine bel_drewN ?_ _ | with_reducible refine bel_drew ?_ | with_reducible refine bel_alloc ?_ _ | with_reducible refine bel_row ?_ ?_ _ | with_reducible refine bel_set ?_ ?_ _ | refine bel_trans ?_ (by with_reducible assumption) | (simp; done) | (simp; omega)))⟩
set_option maxHeartbeats 2000000 in
theorem right_3 {t x y z : Int} (h0 : (decide (0 ≤ t) && decide (t ≤ 23)) = true) (h1 : (decide (-7 ≤ x) && decide (x ≤ 7)) = true) (h2 : (decide (-7 ≤ y) && decide (y ≤ 7)) = true) (h3 : (decide (-7 ≤ z) && decide (z ≤ 7)) = false) (w : World) : Calls Tryz.prog 88 #[.agg #[.int .i64 t, .int .i64 x, .int .i64 y, .int .i64 z]] w fun e w' => e = .returned (.bool false) ∧ Below w.heap.size w w' := by
 have I0 : Hid (∀ W, Calls Tryz.prog 122 #[.int .i64 t, .int .i64 (0), .int .i64 23] W fun e w' => e = .returned (.bool true) ∧ w' = W) := Lib.hid (fun W => by
  refine (in_spec t (0) 23 W).mono ?_
  rintro e w' ⟨rfl, rfl⟩
  exact ⟨by rw [h0], rfl⟩)
 have I1 : Hid (∀ W, Calls Tryz.prog 122 #[.int .i64 x, .int .i64 (-7), .int .i64 7] W fun e w' => e = .returned (.bool true) ∧ w' = W) := Lib.hid (fun W => by
  refine (in_spec x (-7) 7 W).mono ?_
  rintro e w' ⟨rfl, rfl⟩
  exact ⟨by rw [h1], rfl⟩)
 have I2 : Hid (∀ W, Calls Tryz.prog 122 #[.int .i64 y, .int .i64 (-7), .int .i64 7] W fun e w' => e = .returned (.bool true) ∧ w' = W) := Lib.hid (fun W => by
  refine (in_spec y (-7) 7 W).mono ?_
  rintro e w' ⟨rfl, rfl⟩
  exact ⟨by rw [h2], rfl⟩)
 have I3 : Hid (∀ W, Calls Tryz.prog 122 #[.int .i64 z, .int .i64 (-7), .int .i64 7] W fun e w' => e = .returned (.bool false) ∧ w' = W) := Lib.hid (fun W => by
  refine (in_spec z (-7) 7 W).mono ?_
  rintro e w' ⟨rfl, rfl⟩
  exact ⟨by rw [h3], rfl⟩)
 clear h0 h1 h2 h3
 go_enter Tryz.func88, Tryz.ntmps88
 go_wp2_with fail
 refine (I0.out _).mono ?_
 rintro e w0 ⟨rfl, rfl⟩
 go_wp2_with fail
 refine (I1.out _).mono ?_
 rintro e w0 ⟨rfl, rfl⟩
 go_wp2_with fail
 refine (I2.out _).mono ?_
 rintro e w0 ⟨rfl, rfl⟩
 go_wp2_with fail
 refine (I3.out _).mono ?_
 rintro e w0 ⟨rfl, rfl⟩
 go_wp2_with fail
 go_ret
 exact ⟨rfl, (by repeat (first | with_reducible exact bel_refl _ | with_reducible assumption | with_reducible refine bel_drewN ?_ _ | with_reducible refine bel_drew ?_ | with_reducible refine bel_alloc ?_ _ | with_reducible refine bel_row ?_ ?_ _ | with_reducible refine bel_set ?_ ?_ _ | refine bel_trans ?_ (by with_reducible assumption) | (simp; done) | (simp; omega)))⟩
set_option maxHeartbeats 2000000 in
theorem right_4 {t x y z : Int} (h0 : (decide (0 ≤ t) && decide (t ≤ 23)) = true) (h1 : (decide (-7 ≤ x) && decide (x ≤ 7)) = true) (h2 : (decide (-7 ≤ y) && decide (y ≤ 7)) = true) (h3 : (decide (-7 ≤ z) && decide (z ≤ 7)) = true) (w : World) : Calls Tryz.prog 88 #[.agg #[.int .i64 t, .int .i64 x, .int .i64 y, .int .i64 z]] w fun e w' => e = .returned (.bool true) ∧ Below w.heap.size w w' := by
 have I0 : Hid (∀ W, Calls Tryz.prog 122 #[.int .i64 t, .int .i64 (0), .int .i64 23] W fun e w' => e = .returned (.bool true) ∧ w' = W) := Lib.hid (fun W => by
  refine (in_spec t (0) 23 W).mono ?_
  rintro e w' ⟨rfl, rfl⟩
  exact ⟨by rw [h0], rfl⟩)
 have I1 : Hid (∀ W, Calls Tryz.prog 122 #[.int .i64 x, .int .i64 (-7), .int .i64 7] W fun e w' => e = .returned (.bool true) ∧ w' = W) := Lib.hid (fun W => by
  refine (in_spec x (-7) 7 W).mono ?_
  rintro e w' ⟨rfl, rfl⟩
  exact ⟨by rw [h1], rfl⟩)
 have I2 : Hid (∀ W, Calls Tryz.prog 122 #[.int .i64 y, .int .i64 (-7), .int .i64 7] W fun e w' => e = .returned (.bool true) ∧ w' = W) := Lib.hid (fun W => by
  refine (in_spec y (-7) 7 W).mono ?_
  rintro e w' ⟨rfl, rfl⟩
  exact ⟨by rw [h2], rfl⟩)
 have I3 : Hid (∀ W, Calls Tryz.prog 122 #[.int .i64 z, .int .i64 (-7), .int .i64 7] W fun e w' => e = .returned (.bool true) ∧ w' = W) := Lib.hid (fun W => by
  refine (in_spec z (-7) 7 W).mono ?_
  rintro e w' ⟨rfl, rfl⟩
  exact ⟨by rw [h3], rfl⟩)
 clear h0 h1 h2 h3
 go_enter Tryz.func88, Tryz.ntmps88
 go_wp2_with fail
 refine (I0.out _).mono ?_
 rintro e w0 ⟨rfl, rfl⟩
 go_wp2_with fail
 refine (I1.out _).mono ?_
 rintro e w0 ⟨rfl, rfl⟩
 go_wp2_with fail
 refine (I2.out _).mono ?_
 rintro e w0 ⟨rfl, rfl⟩
 go_wp2_with fail
 refine (I3.out _).mono ?_
 rintro e w0 ⟨rfl, rfl⟩
 go_wp2_with fail
 go_ret
 exact ⟨rfl, (by repeat (first | with_reducible exact bel_refl _ | with_reducible assumption | with_reducible refine bel_drewN ?_ _ | with_reducible refine bel_drew ?_ | with_reducible refine bel_alloc ?_ _ | with_reducible refine bel_row ?_ ?_ _ | with_reducible refine bel_set ?_ ?_ _ | refine bel_trans ?_ (by with_reducible assumption) | (simp; done) | (simp; omega)))⟩
end Go.Proofs.YtkfimbonmnoglaaGreatDoor
end
