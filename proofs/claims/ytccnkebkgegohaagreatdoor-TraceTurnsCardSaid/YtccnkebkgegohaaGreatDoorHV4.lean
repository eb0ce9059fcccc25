import Derived.Test.YtccnkebkgegohaaGreatDoorHU4
/-
  Given contracts of functions of the program, and laws for them, one behind the other.
-/
set_option linter.unusedVariables false
set_option linter.unusedSimpArgs false
set_option linter.unusedSectionVars false
section
namespace Go.Proofs.YtccnkebkgegohaaGreatDoor
open Go.RowKit Go.Rel
set_option maxRecDepth 100000
/-! slices.Delete, its walk -/
def JD (base g cap : Nat) (m : List Ac) (i : Nat) (cur : Array Value) (a : Bool) (W : World) : Prop := (a = false → OwnB W base m g cap cur) ∧ (a = true → OwnB W base (dropL m i) g cap (delC cur m i))
set_option maxHeartbeats 16000000 in
theorem Delete119 (base n cap g i : Nat) (m : List Ac) (cur : Array Value) (w : World) (OB : OwnB w base m g cap cur) (hn : m.length = n) (hi : i < n) (h60 : n ≤ 1048576) :
  Calls Tryz.prog 119 #[.slice (some ⟨g, 0, none⟩) n cap, .int .i64 (i : Int), .int .i64 (i + 1 : Int)] w fun e w' => ∃ u, e = .returned u ∧ OwnA w' base u (dropL m i) ∧ Below base w w' := by
 have HOB := Lib.hid OB
 have HN := Lib.hid hn
 have hnc : n ≤ cap := by rw [← hn]; exact OB.le
 have hcM : cap ≤ 9223372036854775807 := by have := OB.lim; unfold maxLen at this; omega
 have hbg := OB.base
 clear OB hn
 have hik : (i : Int) + 1 ≤ (n : Int) := by omega
 have h0i : (0 : Int) ≤ (i : Int) + 1 := by omega
 have hne : ((i : Int) == (i : Int) + 1) = false := by simp; omega
 go_enter Tryz.func119, Tryz.ntmps119
 go_wp2_with fail
 refine wp_region_val (Below base) (fun L vs W => JD base g cap m i cur (L 6) W) [Is (.slice (some ⟨g, 0, none⟩) n cap), Is (.int .i64 (i : Int)), Is (.slice (some ⟨g, 0, none⟩) i cap), Is (.slice (some ⟨g, 0, none⟩) n cap), Is (.int .i64 (i + 1 : Int)), VSl (sliced (some ⟨g, 0, none⟩) (i + 1) n cap 10), Is (.slice (some ⟨g, 0, none⟩) (i + (n - (i + 1))) cap), Is (.slice (some ⟨g, 0, none⟩) (i + (n - (i + 1))) cap)] (by kernel_rfl) (by kernel_rfl) rfl (Below.refl base) (fun _ _ _ => Below.trans) (stable_mem ⟨fun _ _ _ h _ => h, fun _ _ _ h _ => h, fun _ _ _ h _ => h, fun _ _ _ h _ => h, fun _ _ _ h _ => h, VSl.stab, fun _ _ _ h _ => h, fun _ _ _ h _ => h, trivial⟩) w (Below.drew (Below.refl _ _)) (⟨(fun _ => HOB.out.grw (bel_drew (bel_refl _))), (fun e => by cases e)⟩) ?_
 iterate 2 (refine val_cons ?_ (fun _ => ?_); · intro L vs w1 hvs hat hb hI hF; (try simp [factsI, Region.binds, Is] at hF); go_simp; (first | exact Below.refl _ _ | exact ⟨Below.refl _ _, hI⟩))
 refine val_cons ?_ (fun v2 => ?_)
 ·intro L vs w1 hvs hat hb hI hF; try simp [factsI, Region.binds, Is] at hF
  have hic : i ≤ cap := by omega
  go_simp
  first | exact Below.refl _ _ | exact ⟨Below.refl _ _, hI⟩
 iterate 2 (refine val_cons ?_ (fun _ => ?_); · intro L vs w1 hvs hat hb hI hF; (try simp [factsI, Region.binds, Is] at hF); go_simp; (first | exact Below.refl _ _ | exact ⟨Below.refl _ _, hI⟩))
 refine val_cons ?_ (fun v5 => ?_)
 ·intro L vs w1 hvs hat hb hI hF; try simp [factsI, Region.binds, Is] at hF
  go_simp
  first | exact ⟨Below.refl _ _, hI, (by unfold VSl; rfl)⟩ | (refine ⟨Below.refl _ _, ?_⟩; unfold VSl; rfl)
 refine val_cons ?_ (fun v6 => ?_)
 ·intro L vs w1 hvs hat hb hI hF; try simp [factsI, Region.binds, Is] at hF
  have h6 := hat.self
  have hv5 : v5 = sliced (some ⟨g, 0, none⟩) (i + 1) n cap 10 := by have := hF.2; unfold VSl at this; exact this
  have OB := hI.1 h6
  have hr := del_append OB HN.out hi
  subst hv5
  refine step_append (v := .slice (some ⟨g, 0, none⟩) i cap) (v7 := sliced (some ⟨g, 0, none⟩) (i + 1) n cap 10) rfl rfl ?_ ?_ hr ?_
  ·have h2 := hF.1
   subst h2
   go_simp
  ·go_simp
  simp [upd]
  exact ⟨blw_row (Below.refl _ _) hbg _, (fun e => by cases e), fun _ => OB.del (by rw [HN.out]; exact hi)⟩
 refine val_cons ?_ (fun v7 => ?_)
 ·intro L vs w1 hvs hat hb hI hF; try simp [factsI, Region.binds, Is] at hF
  go_simp
  first | exact Below.refl _ _ | exact ⟨Below.refl _ _, hI⟩ | skip
 refine val_nil ?_
 intro vs w1 hvs hb hI hF
 simp [Is, Nat.forall_lt_succ_right] at hF
 have e0 := hF.1.1.1.1.1.1.1
 have e1 := hF.1.1.1.1.1.1.2
 have e2 := hF.1.1.1.1.1.2
 have e3 := hF.1.1.1.1.2
 have e4 := hF.1.1.1.2
 have e5 := hF.1.1.2
 have e6 := hF.1.2
 have e7 := hF.2
 clear hF
 simp only [Act.put, List.setIfInBounds_toArray, List.set_cons_succ, List.set_cons_zero, e0, e1, e2, e3, e4, e6, e7]
 clear e0 e1 e2 e3 e4 e6 e7
 have OB := Lib.hid (hI.2 rfl)
 clear hvs hI e5
 have hlen : (dropL m i).length = i + (n - (i + 1)) := by rw [dropL_len (by rw [HN.out]; exact hi), HN.out]; omega
 have hcs := OB.out.size
 have hzl : (Builtin.zeroCells (Value.agg #[.int .u8 0, .int .i64 0, .int .u64 0, .int .u64 0, .int .u64 0, .int .u64 0, .int .u64 0, .int .u64 0, .int .u64 0, .int .u64 0]).cells (n - (i + (n - (i + 1))))).toList.length = (n - (i + (n - (i + 1)))) * 10 := by rw [zeroCells_len]; rfl
 have hr := run_clear_rows (P := Tryz.prog) w1 28 46 0 (.agg #[.int .u8 0, .int .i64 0, .int .u64 0, .int .u64 0, .int .u64 0, .int .u64 0, .int .u64 0, .int .u64 0, .int .u64 0, .int .u64 0]) Tryz.underlying28 (fun _ => Tryz.zeroValue46 _) (by decide) g ((i + (n - (i + 1))) * 10) (n - (i + (n - (i + 1)))) (cap - (i + (n - (i + 1)))) (by omega) (delC cur m i) 46 OB.out.blk (by rw [hcs]; show _ + (n - (i + (n - (i + 1)))) * 10 ≤ _; omega)
 go_wp2_with fail
 refine bodyPost_ret (v := .slice (some ⟨g, 0, none⟩) (i + (n - (i + 1))) cap) (by simp [results, Tryz.results119, go_sem]) rfl ⟨_, rfl, ?_, hb.trans (blw_row (Below.refl _ _) hbg _)⟩
 have h2 := OB.out.clear (vs := (Builtin.zeroCells (Value.agg #[.int .u8 0, .int .i64 0, .int .u64 0, .int .u64 0, .int .u64 0, .int .u64 0, .int .u64 0, .int .u64 0, .int .u64 0, .int .u64 0]).cells (n - (i + (n - (i + 1))))).toList) (by rw [hzl, hlen, hcs]; omega)
 rw [hlen] at h2
 exact own_len h2.own hlen
end Go.Proofs.YtccnkebkgegohaaGreatDoor
end
section
namespace Go.Proofs.YtccnkebkgegohaaGreatDoor
open Go.RowKit Go.Rel
set_option maxRecDepth 100000
/-! Undo -/
set_option maxHeartbeats 4000000 in
theorem Undo_err (b : Sol) (p q : Option Addr) (n c k d : Nat) (i y : Int) (hne : (y != 0) = true) (w : World) (H : Hid (∀ w', Below w.heap.size w w' → Calls Tryz.prog 116 #[.agg #[.int .u64 (pl b 0), .int .u64 (pl b 1), .int .u64 (pl b 2), .int .u64 (pl b 3), .int .u64 (pl b 4), .int .u64 (pl b 5), .int .u64 (pl b 6), .int .u64 (pl b 7), .slice p n c, .slice q k d], .int .i64 i] w' fun e w'' => ∃ pt, e = .returned (.tuple #[.pointer pt, .int .i64 y]) ∧ Below w'.heap.size w' w'')) :
  Calls Tryz.prog 57 #[.agg #[.int .u64 (pl b 0), .int .u64 (pl b 1), .int .u64 (pl b 2), .int .u64 (pl b 3), .int .u64 (pl b 4), .int .u64 (pl b 5), .int .u64 (pl b 6), .int .u64 (pl b 7), .slice p n c, .slice q k d], .int .i64 i] w fun e w' => e = .returned (.tuple #[.agg #[.int .u64 0, .int .u64 0, .int .u64 0, .int .u64 0, .int .u64 0, .int .u64 0, .int .u64 0, .int .u64 0, .slice none 0 0, .slice none 0 0], .int .i64 y]) ∧ Below w.heap.size w w' := by
 go_enter Tryz.func57, Tryz.ntmps57
 go_wp2_with fail
 refine (H.out _ bel_by).mono ?_
 rintro e w1 ⟨pt, rfl, hb⟩
 have b1 : Blk w1 (w.heap.size + 1) #[.int .u64 0, .int .u64 0, .int .u64 0, .int .u64 0, .int .u64 0, .int .u64 0, .int .u64 0, .int .u64 0, .slice none 0 0, .slice none 0 0] 30 := Blk.grow blk_by hb
 have hB1 : Below w.heap.size w w1 := bel_trans bel_by hb
 have r1 := b1.row
 have l1 := b1.lt
 rw [← b1.rw]
 clear b1 hb
 go_wp2_with fail
 refine bodyPost_ret (v := .tuple #[.agg #[.int .u64 0, .int .u64 0, .int .u64 0, .int .u64 0, .int .u64 0, .int .u64 0, .int .u64 0, .int .u64 0, .slice none 0 0, .slice none 0 0], .int .i64 y]) (by simp [results, Tryz.results57, go_sem, *]) rfl ⟨rfl, blw_row hB1 (by omega) _⟩
set_option maxHeartbeats 8000000 in
theorem Undo_late (b : Sol) (p q : Option Addr) (n c k d : Nat) (i : Nat) (w : World) (l : List Sol) (m : List Ac) (s : Stn) (hk : m.length = k) (hi : i < k) (hl : lastU l m i m.length = false) (H : Hid (∀ w', Below w.heap.size w w' → Calls Tryz.prog 116 #[.agg #[.int .u64 (pl b 0), .int .u64 (pl b 1), .int .u64 (pl b 2), .int .u64 (pl b 3), .int .u64 (pl b 4), .int .u64 (pl b 5), .int .u64 (pl b 6), .int .u64 (pl b 7), .slice p n c, .slice q k d], .int .i64 (i : Int)] w' fun e w'' => ∃ bp, e = .returned (.tuple #[.pointer (some ⟨bp, 0, none⟩), .int .i64 0]) ∧ PastAt bp b (.slice p n c) (.slice q k d) l m s w'' ∧ Below w'.heap.size w' w'')) :
  Calls Tryz.prog 57 #[.agg #[.int .u64 (pl b 0), .int .u64 (pl b 1), .int .u64 (pl b 2), .int .u64 (pl b 3), .int .u64 (pl b 4), .int .u64 (pl b 5), .int .u64 (pl b 6), .int .u64 (pl b 7), .slice p n c, .slice q k d], .int .i64 (i : Int)] w fun e w' => e = .returned (.tuple #[.agg #[.int .u64 0, .int .u64 0, .int .u64 0, .int .u64 0, .int .u64 0, .int .u64 0, .int .u64 0, .int .u64 0, .slice none 0 0, .slice none 0 0], .int .i64 46]) ∧ Below w.heap.size w w' := by
 have HK := Lib.hid hk
 have HL := Lib.hid hl
 clear hk hl
 go_enter Tryz.func57, Tryz.ntmps57
 go_wp2_with fail
 refine (H.out _ bel_by).mono ?_
 rintro e w1 ⟨bp, rfl, hP, hb⟩
 have g2 : Blk w1 (w.heap.size + 1) #[.int .u64 0, .int .u64 0, .int .u64 0, .int .u64 0, .int .u64 0, .int .u64 0, .int .u64 0, .int .u64 0, .slice none 0 0, .slice none 0 0] 30 := Blk.grow blk_by hb
 have hB1 : Below w.heap.size w w1 := bel_trans bel_by hb
 have HI := Lib.hid (isLast115 w1 hP i (by rw [HK.out]; exact hi))
 rw [HL.out] at HI
 clear hP hb H
 go_wp2_with fail
 refine HI.out.mono ?_
 rintro e w2 ⟨rfl, hb⟩
 have G2 := g2.grow hb
 have hB2 := bel_trans hB1 hb
 have r1 := G2.row
 have l1 := G2.lt
 rw [← G2.rw]
 clear G2 g2 hb HI
 go_wp2_with fail
 refine bodyPost_ret (v := .tuple #[.agg #[.int .u64 0, .int .u64 0, .int .u64 0, .int .u64 0, .int .u64 0, .int .u64 0, .int .u64 0, .int .u64 0, .slice none 0 0, .slice none 0 0], .int .i64 46]) (by simp [results, Tryz.results57, go_sem, *]) rfl ⟨rfl, blw_row hB2 (by omega) _⟩
set_option maxHeartbeats 16000000 in
theorem Undo_yes (b : Sol) (p q : Option Addr) (n c k d : Nat) (i : Nat) (w : World) (l : List Sol) (m : List Ac) (s : Stn) (hk : m.length = k) (hi : i < k) (h60 : k ≤ 60) (h8 : l.length ≤ 8) (HV : Hid (SlS w (.slice p n c) l)) (HA : Hid (SlA w (.slice q k d) m)) (hl : lastU l m i m.length = true) (H : Hid (∀ w', Below w.heap.size w w' → Calls Tryz.prog 116 #[.agg #[.int .u64 (pl b 0), .int .u64 (pl b 1), .int .u64 (pl b 2), .int .u64 (pl b 3), .int .u64 (pl b 4), .int .u64 (pl b 5), .int .u64 (pl b 6), .int .u64 (pl b 7), .slice p n c, .slice q k d], .int .i64 (i : Int)] w' fun e w'' => ∃ bp, e = .returned (.tuple #[.pointer (some ⟨bp, 0, none⟩), .int .i64 0]) ∧ PastAt bp b (.slice p n c) (.slice q k d) l m s w'' ∧ Below w'.heap.size w' w'')) :
  Calls Tryz.prog 57 #[.agg #[.int .u64 (pl b 0), .int .u64 (pl b 1), .int .u64 (pl b 2), .int .u64 (pl b 3), .int .u64 (pl b 4), .int .u64 (pl b 5), .int .u64 (pl b 6), .int .u64 (pl b 7), .slice p n c, .slice q k d], .int .i64 (i : Int)] w (HRes b l (dropL m i) 0 w) := by
 have HK := Lib.hid hk
 have HL := Lib.hid hl
 clear hk hl
 go_enter Tryz.func57, Tryz.ntmps57
 go_wp2_with fail
 refine (H.out _ bel_by).mono ?_
 rintro e w1 ⟨bp, rfl, hP, hb⟩
 have g0 : Blk w1 w.heap.size #[.int .u64 (pl b 0), .int .u64 (pl b 1), .int .u64 (pl b 2), .int .u64 (pl b 3), .int .u64 (pl b 4), .int .u64 (pl b 5), .int .u64 (pl b 6), .int .u64 (pl b 7), .slice p n c, .slice q k d] 30 := Blk.grow blk_by hb
 have g2 : Blk w1 (w.heap.size + 1) #[.int .u64 0, .int .u64 0, .int .u64 0, .int .u64 0, .int .u64 0, .int .u64 0, .int .u64 0, .int .u64 0, .slice none 0 0, .slice none 0 0] 30 := Blk.grow blk_by hb
 have hB1 : Below w.heap.size w w1 := bel_trans bel_by hb
 have HI := Lib.hid (isLast115 w1 hP i (by rw [HK.out]; exact hi))
 rw [HL.out] at HI
 have HP := Lib.hid hP
 clear hP hb H
 go_wp2_with fail
 refine HI.out.mono ?_
 rintro e w2 ⟨rfl, hb⟩
 have G0 := g0.grow hb
 have G2 := g2.grow hb
 have hB2 := bel_trans hB1 hb
 have HP2 := Lib.hid (HP.out.grow hb)
 have c0 := G0.cell
 have l0 := G0.lt
 have l2 := G2.lt
 clear g0 g2 hb HI HP hB1
 go_wp2_with fail
 refine (CloneAc_spec _ m w2 (HA.out.mono hB2) (by rw [HK.out]; omega)).mono ?_
 rintro e w3 ⟨u, rfl, hO, hb⟩
 have hB3 := bel_trans hB2 hb
 have hb23 := hb
 refine Veil.out ?_
 obtain ⟨g, cap, cur, rfl, OB⟩ := OwnA.opn hO (fun e => by have := HK.out; rw [e] at this; simp at this; omega)
 have HOB := Lib.hid OB
 refine Veil.on ?_
 have hs3 := hb.size
 clear hO OB hb c0 l0 G0 l2
 have hn1 : m.length = k := HK.out
 rw [hn1]
 clear hn1
 have hw : IntKind.i64.wrap ((i : Int) + 1) = (i : Int) + 1 := IntWalk.i64_in _ (by omega)
 go_wp2_with fail
 refine (Delete119 w2.heap.size k cap g i m cur w3 HOB.out HK.out hi (by omega)).mono ?_
 rintro e w4 ⟨u2, rfl, hO, hb⟩
 have hB4 : Below w.heap.size w w4 := hB3.trans (hb.mono hB2.size)
 have HO := Lib.hid hO
 have hb24 := hb23.trans hb
 have HP4 := Lib.hid (HP2.out.grow hb24)
 have G4 := G2.grow hb24
 have hle : (dropL m i).length ≤ 1048576 := by rw [dropL_len (by rw [HK.out]; exact hi), HK.out]; omega
 clear hO hb hb23 hb24 HP2 G2 hs3 HOB
 go_wp2_with fail
 refine (with_spec w4 HP4.out (HV.out.mono hB4) h8 u2 (dropL m i) (OwnA.sl HO.out) hle).mono ?_
 rintro e w5 ⟨pv, bv, rfl, hS, hA, hb⟩
 have hB5 := bel_trans hB4 hb
 have G5 := G4.grow hb
 have l4 := G4.lt
 refine Veil.out ?_
 have HSA := Lib.hid (And.intro hS hA)
 obtain ⟨p', n', c', rfl⟩ := own_shape hS
 obtain ⟨q', k', d', rfl⟩ := own_shape hA
 refine Veil.on ?_
 clear hS hA hb G4 HP4 HO
 have r5 := G5.row
 have l5 := G5.lt
 have G5' := Lib.hid G5
 rw [← G5.rw]
 clear G5
 go_wp2_with fail
 refine bodyPost_ret (v := .tuple #[.agg #[.int .u64 (pl b 0), .int .u64 (pl b 1), .int .u64 (pl b 2), .int .u64 (pl b 3), .int .u64 (pl b 4), .int .u64 (pl b 5), .int .u64 (pl b 6), .int .u64 (pl b 7), .slice p' n' c', .slice q' k' d'], .int .i64 0]) (by simp [results, Tryz.results57, go_sem, *]) rfl ?_
 have hBf : Below w.heap.size w (w5.setRow (w.heap.size + 1) #[.int .u64 (pl b 0), .int .u64 (pl b 1), .int .u64 (pl b 2), .int .u64 (pl b 3), .int .u64 (pl b 4), .int .u64 (pl b 5), .int .u64 (pl b 6), .int .u64 (pl b 7), .slice p' n' c', .slice q' k' d']) := blw_row hB5 (by omega) _
 exact ⟨p', n', c', q', k', d', rfl, OwnS.sl (own_rowT HSA.out.1 G5'.out (by decide) _), OwnA.sl (own_rowT HSA.out.2 G5'.out (by decide) _), hBf⟩
end Go.Proofs.YtccnkebkgegohaaGreatDoor
end
section
namespace Go.Proofs.YtccnkebkgegohaaGreatDoor
open Go.RowKit Go.Rel
set_option maxRecDepth 100000
/-! Undo, of the reference -/
set_option maxHeartbeats 4000000 in
theorem refUndo_no (b : Sol) (p q : Option Addr) (n c k d : Nat) (i y : Int) (hne : (y != 0) = true) (L : List Int) (w : World) (H : Hid (∀ w', Below w.heap.size w w' → Calls Tryz.prog 48 #[.agg #[.int .u64 (pl b 0), .int .u64 (pl b 1), .int .u64 (pl b 2), .int .u64 (pl b 3), .int .u64 (pl b 4), .int .u64 (pl b 5), .int .u64 (pl b 6), .int .u64 (pl b 7), .slice p n c, .slice q k d]] w' fun e w'' => ∃ u, e = .returned (.tuple #[u, .int .i64 y]) ∧ SlI w'' u L ∧ Below w'.heap.size w' w'')) :
  Calls Tryz.prog 58 #[.agg #[.int .u64 (pl b 0), .int .u64 (pl b 1), .int .u64 (pl b 2), .int .u64 (pl b 3), .int .u64 (pl b 4), .int .u64 (pl b 5), .int .u64 (pl b 6), .int .u64 (pl b 7), .slice p n c, .slice q k d], .int .i64 i] w fun e w' => e = .returned (.tuple #[.agg #[.int .u64 0, .int .u64 0, .int .u64 0, .int .u64 0, .int .u64 0, .int .u64 0, .int .u64 0, .int .u64 0, .slice none 0 0, .slice none 0 0], .int .i64 y]) ∧ Below w.heap.size w w' := by
 go_enter Tryz.func58, Tryz.ntmps58
 go_wp2_with fail
 refine (H.out _ bel_by).mono ?_
 rintro e w1 ⟨u, rfl, hS, hb⟩
 have g0 : Blk w1 w.heap.size #[.int .u64 (pl b 0), .int .u64 (pl b 1), .int .u64 (pl b 2), .int .u64 (pl b 3), .int .u64 (pl b 4), .int .u64 (pl b 5), .int .u64 (pl b 6), .int .u64 (pl b 7), .slice p n c, .slice q k d] 30 := Blk.grow blk_by hb
 have g2 : Blk w1 (w.heap.size + 1) #[.int .u64 0, .int .u64 0, .int .u64 0, .int .u64 0, .int .u64 0, .int .u64 0, .int .u64 0, .int .u64 0, .slice none 0 0, .slice none 0 0] 30 := Blk.grow blk_by hb
 have hB1 : Below w.heap.size w w1 := bel_trans bel_by hb
 have HS := Lib.hid hS
 have c0 := g0.cell
 have l0 := g0.lt
 clear hb H hS
 have r2 := g2.row
 have l2 := g2.lt
 have hne2 : w.heap.size ≠ w.heap.size + 1 := by omega
 rw [← g2.rw]
 clear g2
 go_wp2_with fail
 refine bodyPost_ret (v := .tuple #[.agg #[.int .u64 0, .int .u64 0, .int .u64 0, .int .u64 0, .int .u64 0, .int .u64 0, .int .u64 0, .int .u64 0, .slice none 0 0, .slice none 0 0], .int .i64 y]) (by simp [results, Tryz.results58, go_sem, *]) rfl ⟨rfl, blw_row hB1 (by omega) _⟩
set_option maxHeartbeats 4000000 in
theorem refUndo_neg (b : Sol) (p q : Option Addr) (n c k d : Nat) (i : Int) (hi : i < 0) (L : List Int) (w : World) (H : Hid (∀ w', Below w.heap.size w w' → Calls Tryz.prog 48 #[.agg #[.int .u64 (pl b 0), .int .u64 (pl b 1), .int .u64 (pl b 2), .int .u64 (pl b 3), .int .u64 (pl b 4), .int .u64 (pl b 5), .int .u64 (pl b 6), .int .u64 (pl b 7), .slice p n c, .slice q k d]] w' fun e w'' => ∃ u, e = .returned (.tuple #[u, .int .i64 0]) ∧ SlI w'' u L ∧ Below w'.heap.size w' w'')) :
  Calls Tryz.prog 58 #[.agg #[.int .u64 (pl b 0), .int .u64 (pl b 1), .int .u64 (pl b 2), .int .u64 (pl b 3), .int .u64 (pl b 4), .int .u64 (pl b 5), .int .u64 (pl b 6), .int .u64 (pl b 7), .slice p n c, .slice q k d], .int .i64 i] w fun e w' => e = .returned (.tuple #[.agg #[.int .u64 0, .int .u64 0, .int .u64 0, .int .u64 0, .int .u64 0, .int .u64 0, .int .u64 0, .int .u64 0, .slice none 0 0, .slice none 0 0], .int .i64 1]) ∧ Below w.heap.size w w' := by
 go_enter Tryz.func58, Tryz.ntmps58
 go_wp2_with fail
 refine (H.out _ bel_by).mono ?_
 rintro e w1 ⟨u, rfl, hS, hb⟩
 have g0 : Blk w1 w.heap.size #[.int .u64 (pl b 0), .int .u64 (pl b 1), .int .u64 (pl b 2), .int .u64 (pl b 3), .int .u64 (pl b 4), .int .u64 (pl b 5), .int .u64 (pl b 6), .int .u64 (pl b 7), .slice p n c, .slice q k d] 30 := Blk.grow blk_by hb
 have g2 : Blk w1 (w.heap.size + 1) #[.int .u64 0, .int .u64 0, .int .u64 0, .int .u64 0, .int .u64 0, .int .u64 0, .int .u64 0, .int .u64 0, .slice none 0 0, .slice none 0 0] 30 := Blk.grow blk_by hb
 have hB1 : Below w.heap.size w w1 := bel_trans bel_by hb
 have HS := Lib.hid hS
 have c0 := g0.cell
 have l0 := g0.lt
 clear hb H hS
 have r2 := g2.row
 have l2 := g2.lt
 have hne2 : w.heap.size ≠ w.heap.size + 1 := by omega
 rw [← g2.rw]
 clear g2
 go_wp2_with fail
 refine bodyPost_ret (v := .tuple #[.agg #[.int .u64 0, .int .u64 0, .int .u64 0, .int .u64 0, .int .u64 0, .int .u64 0, .int .u64 0, .int .u64 0, .slice none 0 0, .slice none 0 0], .int .i64 1]) (by simp [results, Tryz.results58, go_sem, *]) rfl ⟨rfl, blw_row hB1 (by omega) _⟩
set_option maxHeartbeats 4000000 in
theorem refUndo_big (b : Sol) (p q : Option Addr) (n c k d : Nat) (i : Int) (h0 : 0 ≤ i) (hi : (k : Int) ≤ i) (L : List Int) (w : World) (H : Hid (∀ w', Below w.heap.size w w' → Calls Tryz.prog 48 #[.agg #[.int .u64 (pl b 0), .int .u64 (pl b 1), .int .u64 (pl b 2), .int .u64 (pl b 3), .int .u64 (pl b 4), .int .u64 (pl b 5), .int .u64 (pl b 6), .int .u64 (pl b 7), .slice p n c, .slice q k d]] w' fun e w'' => ∃ u, e = .returned (.tuple #[u, .int .i64 0]) ∧ SlI w'' u L ∧ Below w'.heap.size w' w'')) :
  Calls Tryz.prog 58 #[.agg #[.int .u64 (pl b 0), .int .u64 (pl b 1), .int .u64 (pl b 2), .int .u64 (pl b 3), .int .u64 (pl b 4), .int .u64 (pl b 5), .int .u64 (pl b 6), .int .u64 (pl b 7), .slice p n c, .slice q k d], .int .i64 i] w fun e w' => e = .returned (.tuple #[.agg #[.int .u64 0, .int .u64 0, .int .u64 0, .int .u64 0, .int .u64 0, .int .u64 0, .int .u64 0, .int .u64 0, .slice none 0 0, .slice none 0 0], .int .i64 1]) ∧ Below w.heap.size w w' := by
 go_enter Tryz.func58, Tryz.ntmps58
 go_wp2_with fail
 refine (H.out _ bel_by).mono ?_
 rintro e w1 ⟨u, rfl, hS, hb⟩
 have g0 : Blk w1 w.heap.size #[.int .u64 (pl b 0), .int .u64 (pl b 1), .int .u64 (pl b 2), .int .u64 (pl b 3), .int .u64 (pl b 4), .int .u64 (pl b 5), .int .u64 (pl b 6), .int .u64 (pl b 7), .slice p n c, .slice q k d] 30 := Blk.grow blk_by hb
 have g2 : Blk w1 (w.heap.size + 1) #[.int .u64 0, .int .u64 0, .int .u64 0, .int .u64 0, .int .u64 0, .int .u64 0, .int .u64 0, .int .u64 0, .slice none 0 0, .slice none 0 0] 30 := Blk.grow blk_by hb
 have hB1 : Below w.heap.size w w1 := bel_trans bel_by hb
 have HS := Lib.hid hS
 have c0 := g0.cell
 have l0 := g0.lt
 clear hb H hS
 have r2 := g2.row
 have l2 := g2.lt
 have hne2 : w.heap.size ≠ w.heap.size + 1 := by omega
 rw [← g2.rw]
 clear g2
 go_wp2_with fail
 refine bodyPost_ret (v := .tuple #[.agg #[.int .u64 0, .int .u64 0, .int .u64 0, .int .u64 0, .int .u64 0, .int .u64 0, .int .u64 0, .int .u64 0, .slice none 0 0, .slice none 0 0], .int .i64 1]) (by simp [results, Tryz.results58, go_sem, *]) rfl ⟨rfl, blw_row hB1 (by omega) _⟩
set_option maxHeartbeats 4000000 in
theorem refUndo_late (b : Sol) (p q : Option Addr) (n c k d : Nat) (i : Nat) (hi : i < k) (L : List Int) (hh : (L.any fun y => y == (i : Int)) = false) (w : World) (H : Hid (∀ w', Below w.heap.size w w' → Calls Tryz.prog 48 #[.agg #[.int .u64 (pl b 0), .int .u64 (pl b 1), .int .u64 (pl b 2), .int .u64 (pl b 3), .int .u64 (pl b 4), .int .u64 (pl b 5), .int .u64 (pl b 6), .int .u64 (pl b 7), .slice p n c, .slice q k d]] w' fun e w'' => ∃ u, e = .returned (.tuple #[u, .int .i64 0]) ∧ SlI w'' u L ∧ Below w'.heap.size w' w'')) :
  Calls Tryz.prog 58 #[.agg #[.int .u64 (pl b 0), .int .u64 (pl b 1), .int .u64 (pl b 2), .int .u64 (pl b 3), .int .u64 (pl b 4), .int .u64 (pl b 5), .int .u64 (pl b 6), .int .u64 (pl b 7), .slice p n c, .slice q k d], .int .i64 (i : Int)] w fun e w' => e = .returned (.tuple #[.agg #[.int .u64 0, .int .u64 0, .int .u64 0, .int .u64 0, .int .u64 0, .int .u64 0, .int .u64 0, .int .u64 0, .slice none 0 0, .slice none 0 0], .int .i64 46]) ∧ Below w.heap.size w w' := by
 go_enter Tryz.func58, Tryz.ntmps58
 go_wp2_with fail
 refine (H.out _ bel_by).mono ?_
 rintro e w1 ⟨u, rfl, hS, hb⟩
 have g0 : Blk w1 w.heap.size #[.int .u64 (pl b 0), .int .u64 (pl b 1), .int .u64 (pl b 2), .int .u64 (pl b 3), .int .u64 (pl b 4), .int .u64 (pl b 5), .int .u64 (pl b 6), .int .u64 (pl b 7), .slice p n c, .slice q k d] 30 := Blk.grow blk_by hb
 have g2 : Blk w1 (w.heap.size + 1) #[.int .u64 0, .int .u64 0, .int .u64 0, .int .u64 0, .int .u64 0, .int .u64 0, .int .u64 0, .int .u64 0, .slice none 0 0, .slice none 0 0] 30 := Blk.grow blk_by hb
 have hB1 : Below w.heap.size w w1 := bel_trans bel_by hb
 have HS := Lib.hid hS
 have c0 := g0.cell
 have l0 := g0.lt
 clear hb H hS
 go_wp2_with fail
 refine (Has120_spec u L i w1 HS.out).mono ?_
 rw [hh]
 rintro e w2 ⟨rfl, hb⟩
 have hB2 := bel_trans hB1 hb
 replace g0 := g0.grow hb
 replace g2 := g2.grow hb
 clear hb HS c0 l0
 have r2 := g2.row
 have l2 := g2.lt
 have hne2 : w.heap.size ≠ w.heap.size + 1 := by omega
 rw [← g2.rw]
 clear g2
 go_wp2_with fail
 refine bodyPost_ret (v := .tuple #[.agg #[.int .u64 0, .int .u64 0, .int .u64 0, .int .u64 0, .int .u64 0, .int .u64 0, .int .u64 0, .int .u64 0, .slice none 0 0, .slice none 0 0], .int .i64 46]) (by simp [results, Tryz.results58, go_sem, *]) rfl ⟨rfl, blw_row hB2 (by omega) _⟩
@[irreducible] def VHd (base : Nat) (b : Sol) (p : Option Addr) (n c : Nat) (m : List Ac) (v : Value) (W : World) : Prop := ∃ bv, v = .agg #[.int .u64 (pl b 0), .int .u64 (pl b 1), .int .u64 (pl b 2), .int .u64 (pl b 3), .int .u64 (pl b 4), .int .u64 (pl b 5), .int .u64 (pl b 6), .int .u64 (pl b 7), .slice p n c, bv] ∧ OwnA W base bv m
theorem VHd.stab {base : Nat} {b : Sol} {p : Option Addr} {n c : Nat} {m : List Ac} (v : Value) (W W' : World) (h : VHd base b p n c m v W) (g : Grows W W') : VHd base b p n c m v W' := by
 unfold VHd at *; obtain ⟨bv, h1, h2⟩ := h; exact ⟨bv, h1, own_grow h2 g⟩
set_option maxHeartbeats 8000000 in
theorem refUndo_yes (b : Sol) (p q : Option Addr) (n c k d : Nat) (i : Nat) (hi : i < k) (L : List Int) (hh : (L.any fun y => y == (i : Int)) = true) (l : List Sol) (m : List Ac) (w : World) (hk : m.length = k) (hkd : k ≤ d) (hd : d ≤ 9223372036854775807) (hlen : k ≤ 1048576) (HV : Hid (SlS w (.slice p n c) l)) (HA : Hid (SlN w (.slice q k d) m)) (H : Hid (∀ w', Below w.heap.size w w' → Calls Tryz.prog 48 #[.agg #[.int .u64 (pl b 0), .int .u64 (pl b 1), .int .u64 (pl b 2), .int .u64 (pl b 3), .int .u64 (pl b 4), .int .u64 (pl b 5), .int .u64 (pl b 6), .int .u64 (pl b 7), .slice p n c, .slice q k d]] w' fun e w'' => ∃ u, e = .returned (.tuple #[u, .int .i64 0]) ∧ SlI w'' u L ∧ Below w'.heap.size w' w'')) :
  Calls Tryz.prog 58 #[.agg #[.int .u64 (pl b 0), .int .u64 (pl b 1), .int .u64 (pl b 2), .int .u64 (pl b 3), .int .u64 (pl b 4), .int .u64 (pl b 5), .int .u64 (pl b 6), .int .u64 (pl b 7), .slice p n c, .slice q k d], .int .i64 (i : Int)] w (HRes b l (dropL m i) 0 w) := by
 have HK := Lib.hid hk
 clear hk
 go_enter Tryz.func58, Tryz.ntmps58
 go_wp2_with fail
 refine (H.out _ bel_by).mono ?_
 rintro e w1 ⟨u, rfl, hS, hb⟩
 have g0 : Blk w1 w.heap.size #[.int .u64 (pl b 0), .int .u64 (pl b 1), .int .u64 (pl b 2), .int .u64 (pl b 3), .int .u64 (pl b 4), .int .u64 (pl b 5), .int .u64 (pl b 6), .int .u64 (pl b 7), .slice p n c, .slice q k d] 30 := Blk.grow blk_by hb
 have g2 : Blk w1 (w.heap.size + 1) #[.int .u64 0, .int .u64 0, .int .u64 0, .int .u64 0, .int .u64 0, .int .u64 0, .int .u64 0, .int .u64 0, .slice none 0 0, .slice none 0 0] 30 := Blk.grow blk_by hb
 have hB1 : Below w.heap.size w w1 := bel_trans bel_by hb
 have HS := Lib.hid hS
 have c0 := g0.cell
 have l0 := g0.lt
 clear hb H hS
 go_wp2_with fail
 refine (Has120_spec u L i w1 HS.out).mono ?_
 rw [hh]
 rintro e w2 ⟨rfl, hb⟩
 have hB2 := bel_trans hB1 hb
 replace g0 := g0.grow hb
 replace g2 := g2.grow hb
 clear hb HS c0 l0
 have c0 := g0.cell
 have l0 := g0.lt
 have l2 := g2.lt
 go_wp2_with fail
 refine wp_region_grow 7 [Is (.pointer (some ⟨w.heap.size, 0, none⟩)), Is (.agg #[.int .u64 (pl b 0), .int .u64 (pl b 1), .int .u64 (pl b 2), .int .u64 (pl b 3), .int .u64 (pl b 4), .int .u64 (pl b 5), .int .u64 (pl b 6), .int .u64 (pl b 7), .slice p n c]), Is (.pointer (some ⟨w.heap.size, 9, none⟩)), Is (.slice q k d), Is (.int .i64 (i : Int)), VAc (w.heap.size + 1 + 1) (dropL m i), VHd (w.heap.size + 1 + 1) b p n c (dropL m i)] (by kernel_rfl) (by kernel_rfl) rfl ⟨fun _ _ _ h _ => h, fun _ _ _ h _ => h, fun _ _ _ h _ => h, fun _ _ _ h _ => h, fun _ _ _ h _ => h, VAc.stable, VHd.stab, trivial⟩ ?_
 simp only [List.take_succ_cons, List.take_zero, List.drop_succ_cons, List.drop_zero]
 iterate 5 (refine rel_cons ?_ (fun _ => ?_); · intro w1 hb hF; have hc := (Grows.cells hb).1; have hf := (Grows.cells hb).2; (try simp [facts, Is] at hF); go_simp; exact Grows.refl _)
 refine rel_cons ?_ (fun v5 => ?_)
 ·intro w1 hb hF; have hc := (Grows.cells hb).1; have hf := (Grows.cells hb).2; try simp [facts, Is] at hF
  have hbw := bel_trans hB2 hb
  have hsz := hb.size
  go_simp
  refine (drop121_spec q k d i m w1 (HA.out.mono hbw) HK.out hi hkd hd hlen).mono ?_
  rintro e w' ⟨x, rfl, hO, hB⟩
  exact ⟨_, rfl, hB, by unfold VAc; exact own_weak hO (by omega)⟩
 refine rel_cons ?_ (fun v6 => ?_)
 ·intro w1 hb hF; have hc := (Grows.cells hb).1; have hf := (Grows.cells hb).2; try simp [facts, Is] at hF
  have hV := hF.2
  have h0 := hF.1
  clear hF
  subst h0
  unfold VAc at hV
  refine Exists.elim (own_shape' hV) (fun p' h => Exists.elim h (fun c' h => ?_))
  have hv := h.1
  subst hv
  have HH := Lib.hid hV
  clear hV h
  go_simp
  exact ⟨Grows.refl _, by unfold VHd; exact ⟨_, rfl, HH.out⟩⟩
 refine rel_nil ?_
 intro w1 hb hF
 simp [Is, Nat.forall_lt_succ_right] at hF
 have e0 := hF.1.1.1.1.1.1
 have e1 := hF.1.1.1.1.1.2
 have e2 := hF.1.1.1.1.2
 have e3 := hF.1.1.1.2
 have e4 := hF.1.1.2
 have e5 := hF.1.2
 have e6 := hF.2
 clear hF
 simp only [Act.put, List.setIfInBounds_toArray, List.set_cons_succ, List.set_cons_zero, e0, e1, e2, e3, e4]
 clear e0 e1 e2 e3 e4
 unfold VHd at e6
 refine Veil.out ?_
 obtain ⟨bv, rfl, hO⟩ := e6
 obtain ⟨q', d', rfl, _, _⟩ := own_shape' hO
 refine Veil.on ?_
 have hB3 := bel_trans hB2 hb
 have G2 := g2.grow hb
 have HO := Lib.hid hO
 clear e5 hO g0 g2 hb c0 l0
 have r2 := G2.row
 have G2' := Lib.hid G2
 have l2' := G2.lt
 rw [← G2.rw]
 clear G2
 generalize hLL : (dropL m i).length = LL at *
 go_wp2_with fail
 refine bodyPost_ret (v := .tuple #[.agg #[.int .u64 (pl b 0), .int .u64 (pl b 1), .int .u64 (pl b 2), .int .u64 (pl b 3), .int .u64 (pl b 4), .int .u64 (pl b 5), .int .u64 (pl b 6), .int .u64 (pl b 7), .slice p n c, .slice q' LL d'], .int .i64 0]) (by simp [results, Tryz.results58, go_sem, *]) rfl ?_
 have hBf : Below w.heap.size w (w1.setRow (w.heap.size + 1) #[.int .u64 (pl b 0), .int .u64 (pl b 1), .int .u64 (pl b 2), .int .u64 (pl b 3), .int .u64 (pl b 4), .int .u64 (pl b 5), .int .u64 (pl b 6), .int .u64 (pl b 7), .slice p n c, .slice q' LL d']) := blw_row hB3 (by omega) _
 exact ⟨p, n, c, q', LL, d', rfl, HV.out.mono hBf, OwnA.sl (own_rowT HO.out G2'.out (by decide) _), hBf⟩
end Go.Proofs.YtccnkebkgegohaaGreatDoor
end
