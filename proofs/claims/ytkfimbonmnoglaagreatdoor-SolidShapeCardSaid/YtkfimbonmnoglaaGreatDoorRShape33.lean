import Derived.Test.YtkfimbonmnoglaaGreatDoorRShape32
import Derived.Deep.Cut
/-
  Given contracts of functions of the program, and laws for them, one behind the other.
-/
set_option linter.unusedVariables false
set_option linter.unusedSimpArgs false
set_option linter.unusedSectionVars false
section
namespace Go.Proofs.YtkfimbonmnoglaaGreatDoor
open Go.RowKit Go.Rel Go.Draw Go.Solid
set_option maxRecDepth 100000
attribute [local go_sem] Oper.semAt_some
theorem full_block : blockM (0, 0, 0) (7, 7, 7) = (~~~0#512, 0) := by decide +kernel
theorem inner_block : blockM (1, 1, 1) (6, 6, 6) = (innerS, 0) := by decide +kernel
theorem full_less (s : Sol) : (~~~0#512) &&& ~~~s = ~~~s := by
 apply BitVec.eq_of_getLsbD_eq
 intro i hi
 rw [BitVec.getLsbD_and, BitVec.getLsbD_not (x := 0#512), BitVec.getLsbD_zero]
 simp [hi]
set_option maxHeartbeats 4000000 in
theorem refFull_spec (w : World) : Calls Tryz.prog 109 #[] w fun e w' => e = .returned (solV (~~~0#512)) ∧ Below w.heap.size w w' := by
 have HB := Lib.hid fun W => refBlock_n (0, 0, 0) (7, 7, 7) W
 rw [full_block] at HB
 obtain ⟨qv, hqv⟩ : ∃ q : Sol, q = (~~~0#512) := ⟨_, rfl⟩
 rw [← hqv] at HB ⊢
 clear hqv
 go_enter Tryz.func109, Tryz.ntmps109
 go_wp2_with fail
 obtain ⟨W0, hW0⟩ : ∃ W0, W0 = w.alloc (.cells #[.int .u64 0, .int .u64 0, .int .u64 0, .int .u64 0, .int .u64 0, .int .u64 0, .int .u64 0, .int .u64 0] 26) := ⟨_, rfl⟩
 have b0 : Blk W0 w.heap.size #[.int .u64 0, .int .u64 0, .int .u64 0, .int .u64 0, .int .u64 0, .int .u64 0, .int .u64 0, .int .u64 0] 26 ∧ Below w.heap.size w W0 := by
  rw [hW0]
  exact ⟨Blk.new _ _ _, (by repeat (first | with_reducible exact bel_refl _ | with_reducible assumption | with_reducible refine bel_drewN ?_ _ | with_reducible refine bel_drew ?_ | with_reducible refine bel_alloc ?_ _ | with_reducible refine bel_row ?_ ?_ _ | with_reducible refine bel_set ?_ ?_ _ | refine bel_trans ?_ (by with_reducible assumption) | (simp; done) | (simp; omega)))⟩
 rw [← hW0]
 clear hW0
 refine (HB.out _).mono ?_
 rintro e w2 ⟨rfl, hb⟩
 obtain ⟨wC, hwC⟩ : ∃ x, x = w2.alloc (.cells #[.int .u64 (pl qv 0), .int .u64 (pl qv 1), .int .u64 (pl qv 2), .int .u64 (pl qv 3), .int .u64 (pl qv 4), .int .u64 (pl qv 5), .int .u64 (pl qv 6), .int .u64 (pl qv 7)] 26) := ⟨_, rfl⟩
 obtain ⟨gC, hgC⟩ : ∃ x, x = w2.heap.size := ⟨_, rfl⟩
 have k0 : Blk wC gC #[.int .u64 (pl qv 0), .int .u64 (pl qv 1), .int .u64 (pl qv 2), .int .u64 (pl qv 3), .int .u64 (pl qv 4), .int .u64 (pl qv 5), .int .u64 (pl qv 6), .int .u64 (pl qv 7)] 26 ∧ Blk wC w.heap.size #[.int .u64 0, .int .u64 0, .int .u64 0, .int .u64 0, .int .u64 0, .int .u64 0, .int .u64 0, .int .u64 0] 26 ∧ Below w.heap.size w wC := by
  rw [hwC, hgC]
  exact ⟨Blk.new _ _ _, (b0.1.grow hb).alloc _, bel_alloc (bel_trans b0.2 hb) _⟩
 have hgo : w.heap.size < gC := by rw [hgC]; exact (b0.1.grow hb).lt
 go_upto_region 2 with fail
 rw [← hwC, ← hgC]
 clear hwC hgC hb
 have cs := (k0.1.rowO #[.int .u64 0, .int .u64 0, .int .u64 0, .int .u64 0, .int .u64 0, .int .u64 0, .int .u64 0, .int .u64 0] (g := w.heap.size) (by omega)).cell; have ls := (k0.1.rowO #[.int .u64 0, .int .u64 0, .int .u64 0, .int .u64 0, .int .u64 0, .int .u64 0, .int .u64 0, .int .u64 0] (g := w.heap.size) (by omega)).lt
 have r2 := k0.2.1.row; have l2 := k0.2.1.lt
 have cF := (k0.2.1.rowS #[.int .u64 (pl qv 0), .int .u64 (pl qv 1), .int .u64 (pl qv 2), .int .u64 (pl qv 3), .int .u64 (pl qv 4), .int .u64 (pl qv 5), .int .u64 (pl qv 6), .int .u64 (pl qv 7)]).cell
 have hb5 := bel_row k0.2.2 (g := w.heap.size) (by omega) #[.int .u64 (pl qv 0), .int .u64 (pl qv 1), .int .u64 (pl qv 2), .int .u64 (pl qv 3), .int .u64 (pl qv 4), .int .u64 (pl qv 5), .int .u64 (pl qv 6), .int .u64 (pl qv 7)]
 rw [← k0.2.1.rw]
 clear k0 hgo b0
 go_wp2_with fail
 exact bodyPost_ret (v := solV qv) (by simp [results, Tryz.results109, go_sem, cF]) rfl ⟨rfl, hb5⟩
set_option maxHeartbeats 4000000 in
theorem refInner_spec (w : World) : Calls Tryz.prog 110 #[] w fun e w' => e = .returned (solV innerS) ∧ Below w.heap.size w w' := by
 have HB := Lib.hid fun W => refBlock_n (1, 1, 1) (6, 6, 6) W
 rw [inner_block] at HB
 obtain ⟨qv, hqv⟩ : ∃ q : Sol, q = innerS := ⟨_, rfl⟩
 rw [← hqv] at HB ⊢
 clear hqv
 go_enter Tryz.func110, Tryz.ntmps110
 go_wp2_with fail
 obtain ⟨W0, hW0⟩ : ∃ W0, W0 = w.alloc (.cells #[.int .u64 0, .int .u64 0, .int .u64 0, .int .u64 0, .int .u64 0, .int .u64 0, .int .u64 0, .int .u64 0] 26) := ⟨_, rfl⟩
 have b0 : Blk W0 w.heap.size #[.int .u64 0, .int .u64 0, .int .u64 0, .int .u64 0, .int .u64 0, .int .u64 0, .int .u64 0, .int .u64 0] 26 ∧ Below w.heap.size w W0 := by
  rw [hW0]
  exact ⟨Blk.new _ _ _, (by repeat (first | with_reducible exact bel_refl _ | with_reducible assumption | with_reducible refine bel_drewN ?_ _ | with_reducible refine bel_drew ?_ | with_reducible refine bel_alloc ?_ _ | with_reducible refine bel_row ?_ ?_ _ | with_reducible refine bel_set ?_ ?_ _ | refine bel_trans ?_ (by with_reducible assumption) | (simp; done) | (simp; omega)))⟩
 rw [← hW0]
 clear hW0
 refine (HB.out _).mono ?_
 rintro e w2 ⟨rfl, hb⟩
 obtain ⟨wC, hwC⟩ : ∃ x, x = w2.alloc (.cells #[.int .u64 (pl qv 0), .int .u64 (pl qv 1), .int .u64 (pl qv 2), .int .u64 (pl qv 3), .int .u64 (pl qv 4), .int .u64 (pl qv 5), .int .u64 (pl qv 6), .int .u64 (pl qv 7)] 26) := ⟨_, rfl⟩
 obtain ⟨gC, hgC⟩ : ∃ x, x = w2.heap.size := ⟨_, rfl⟩
 have k0 : Blk wC gC #[.int .u64 (pl qv 0), .int .u64 (pl qv 1), .int .u64 (pl qv 2), .int .u64 (pl qv 3), .int .u64 (pl qv 4), .int .u64 (pl qv 5), .int .u64 (pl qv 6), .int .u64 (pl qv 7)] 26 ∧ Blk wC w.heap.size #[.int .u64 0, .int .u64 0, .int .u64 0, .int .u64 0, .int .u64 0, .int .u64 0, .int .u64 0, .int .u64 0] 26 ∧ Below w.heap.size w wC := by
  rw [hwC, hgC]
  exact ⟨Blk.new _ _ _, (b0.1.grow hb).alloc _, bel_alloc (bel_trans b0.2 hb) _⟩
 have hgo : w.heap.size < gC := by rw [hgC]; exact (b0.1.grow hb).lt
 go_upto_region 2 with fail
 rw [← hwC, ← hgC]
 clear hwC hgC hb
 have cs := (k0.1.rowO #[.int .u64 0, .int .u64 0, .int .u64 0, .int .u64 0, .int .u64 0, .int .u64 0, .int .u64 0, .int .u64 0] (g := w.heap.size) (by omega)).cell; have ls := (k0.1.rowO #[.int .u64 0, .int .u64 0, .int .u64 0, .int .u64 0, .int .u64 0, .int .u64 0, .int .u64 0, .int .u64 0] (g := w.heap.size) (by omega)).lt
 have r2 := k0.2.1.row; have l2 := k0.2.1.lt
 have cF := (k0.2.1.rowS #[.int .u64 (pl qv 0), .int .u64 (pl qv 1), .int .u64 (pl qv 2), .int .u64 (pl qv 3), .int .u64 (pl qv 4), .int .u64 (pl qv 5), .int .u64 (pl qv 6), .int .u64 (pl qv 7)]).cell
 have hb5 := bel_row k0.2.2 (g := w.heap.size) (by omega) #[.int .u64 (pl qv 0), .int .u64 (pl qv 1), .int .u64 (pl qv 2), .int .u64 (pl qv 3), .int .u64 (pl qv 4), .int .u64 (pl qv 5), .int .u64 (pl qv 6), .int .u64 (pl qv 7)]
 rw [← k0.2.1.rw]
 clear k0 hgo b0
 go_wp2_with fail
 exact bodyPost_ret (v := solV qv) (by simp [results, Tryz.results110, go_sem, cF]) rfl ⟨rfl, hb5⟩
set_option maxHeartbeats 4000000 in
theorem refParts_spec (s : Sol) (w : World) : Calls Tryz.prog 38 #[solV s] w fun e w' => ∃ u, e = .returned u ∧ OwnSo w' w.heap.size u (partsS s) ∧ Below w.heap.size w w' := by
 have HC := Lib.hid fun W => refClasses_spec s false W
 obtain ⟨l, hl⟩ : ∃ l, l = partsS s := ⟨_, rfl⟩
 have hl2 : classesS (stepsL false) s = l := hl.symm
 rw [hl2] at HC
 rw [← hl]
 clear hl hl2
 go_enter Tryz.func38, Tryz.ntmps38
 go_wp2_with fail
 refine (HC.out _).mono ?_
 rintro e w1 ⟨u, rfl, hO, hb⟩
 have HE := Lib.hid (And.intro (own_weak hO (by simp) : OwnSo w1 w.heap.size u l) (bel_trans ((by repeat (first | with_reducible exact bel_refl _ | with_reducible assumption | with_reducible refine bel_drewN ?_ _ | with_reducible refine bel_drew ?_ | with_reducible refine bel_alloc ?_ _ | with_reducible refine bel_row ?_ ?_ _ | with_reducible refine bel_set ?_ ?_ _ | refine bel_trans ?_ (by with_reducible assumption) | (simp; done) | (simp; omega))) : Below w.heap.size w (w.alloc (.cells #[.int .u64 (pl s 0), .int .u64 (pl s 1), .int .u64 (pl s 2), .int .u64 (pl s 3), .int .u64 (pl s 4), .int .u64 (pl s 5), .int .u64 (pl s 6), .int .u64 (pl s 7)] 26))) hb))
 clear hO hb
 go_wp2_with fail
 go_ret
 exact ⟨_, rfl, HE.out⟩
def CvI (N : Nat) (l : List Sol) (a b : Bool) (v u : Value) (W : World) : Prop := (a = true → OwnSo W N v l) ∧ (b = true → OwnSo W N u l)
theorem CvI.start (N : Nat) (l : List Sol) (v u : Value) (W : World) : CvI N l false false v u W := ⟨fun e => (by cases e), fun e => (by cases e)⟩
theorem CvI.bel {N : Nat} {l : List Sol} {a b : Bool} {v u : Value} {W W' : World} (h : CvI N l a b v u W) (hb : Below W.heap.size W W') : CvI N l a b v u W' := ⟨fun e => own_wide (h.1 e) hb, fun e => own_wide (h.2 e) hb⟩
theorem CvI.p1 {N : Nat} {l : List Sol} {v u x : Value} {W : World} (h : OwnSo W N x l) : CvI N l true false x u W := ⟨fun _ => h, fun e => (by cases e)⟩
theorem CvI.p2 {N : Nat} {l : List Sol} {v x : Value} {W : World} (h : CvI N l true false v x W) : CvI N l true true v v W := ⟨h.1, fun _ => h.1 rfl⟩
theorem CvI.g2 {N : Nat} {l : List Sol} {a : Bool} {v u : Value} {W : World} (h : CvI N l a true v u W) : OwnSo W N u l := h.2 rfl
theorem cavQ_len (L : List Sol) (i : Nat) : (cavQ L i).length ≤ i := by
 unfold cavQ
 exact Nat.le_trans (List.length_filter_le _ _) (by rw [List.length_take]; omega)
attribute [local irreducible] CvI cavQ innerS classesS cavsS subS
set_option maxHeartbeats 16000000 in
theorem refCavities_spec (s : Sol) (w : World) : Calls Tryz.prog 40 #[solV s] w fun e w' => ∃ u, e = .returned u ∧ OwnSo w' w.heap.size u (cavsS s) ∧ Below w.heap.size w w' := by
 have HFu := Lib.hid fun W => refFull_spec W
 have HIn := Lib.hid fun W => refInner_spec W
 have HLe := Lib.hid fun W => refLess_spec (~~~0#512) s W
 rw [full_less] at HLe
 have HCl := Lib.hid fun W => refClasses_spec (~~~s) true W
 obtain ⟨fu, hfu⟩ : ∃ x : Sol, x = ~~~0#512 := ⟨_, rfl⟩
 rw [← hfu] at HFu HLe
 obtain ⟨ns, hns⟩ : ∃ x : Sol, x = ~~~s := ⟨_, rfl⟩
 obtain ⟨R, hR⟩ : ∃ R, R = cavsS s := ⟨_, rfl⟩
 rw [← hR]
 have hRE : R = cavQ (classesS (stepsL true) ns) (classesS (stepsL true) ns).length := by rw [hR, hns]; exact (cavQ_end s).symm
 rw [← hns] at HLe HCl
 have hlen : (classesS (stepsL true) ns).length ≤ 512 := classes_len _ _
 obtain ⟨L0, hL0⟩ : ∃ l, l = classesS (stepsL true) ns := ⟨_, rfl⟩
 rw [← hL0] at HCl hRE hlen
 obtain ⟨n, hn⟩ : ∃ n, n = L0.length := ⟨_, rfl⟩
 rw [← hn] at hRE hlen
 have HRE := Lib.hid hRE
 have HN := Lib.hid hn
 have HNL := Lib.hid hlen
 have HIs := Lib.hid fun x W => refIn_spec x innerS W
 obtain ⟨is, his⟩ : ∃ x, x = innerS := ⟨_, rfl⟩
 rw [← his] at HIn HIs
 have HIE := Lib.hid his
 clear hfu hns hR hRE hlen hL0 hn his
 go_enter Tryz.func40, Tryz.ntmps40
 go_wp2_with fail
 obtain ⟨wS0, hwS⟩ : ∃ x, x = w.alloc (.cells #[.int .u64 (pl s 0), .int .u64 (pl s 1), .int .u64 (pl s 2), .int .u64 (pl s 3), .int .u64 (pl s 4), .int .u64 (pl s 5), .int .u64 (pl s 6), .int .u64 (pl s 7)] 26) := ⟨_, rfl⟩
 have HS0 : Hid (Blk wS0 (w.heap.size) #[.int .u64 (pl s 0), .int .u64 (pl s 1), .int .u64 (pl s 2), .int .u64 (pl s 3), .int .u64 (pl s 4), .int .u64 (pl s 5), .int .u64 (pl s 6), .int .u64 (pl s 7)] 26 ∧ Below w.heap.size w wS0) := Lib.hid (by rw [hwS]; exact ⟨Blk.at _ _ (by simp), (by repeat (first | with_reducible exact bel_refl _ | with_reducible assumption | with_reducible refine bel_drewN ?_ _ | with_reducible refine bel_drew ?_ | with_reducible refine bel_alloc ?_ _ | with_reducible refine bel_row ?_ ?_ _ | with_reducible refine bel_set ?_ ?_ _ | refine bel_trans ?_ (by with_reducible assumption) | (simp; done) | (simp; omega)))⟩)
 have HO0 : Hid True := Lib.hid trivial
 rw [← hwS]
 clear hwS
 refine wp_region_val (Below wS0.heap.size) (fun L vs W => CvI (w.heap.size + 1) L0 (L 3) (L 4) (vs 3) (vs 4) W ∧ Below wS0.heap.size wS0 W) [Is (solV fu), Is (solV s), Is (solV ns), AnyV, AnyV] (by kernel_rfl) (by kernel_rfl) rfl (Below.refl wS0.heap.size) (fun _ _ _ => Below.trans) (stable_mem ⟨fun _ _ _ h _ => h, fun _ _ _ h _ => h, fun _ _ _ h _ => h, fun _ _ _ h _ => h, fun _ _ _ h _ => h, trivial⟩) wS0 (Below.drew (Below.refl _ _)) (And.intro (CvI.start _ _ _ _ _) (Below.drew (Below.refl _ _))) ?_
 refine val_cons ?_ (fun v0 => ?_)
 ·intro L vs w1 hvs hat hb hI hF; try simp [factsI, Region.binds, Is] at hF
  have hbg := hI.2
  have HI9 := Lib.hid hI; clear hI
  go_simp
  refine (HFu.out _).mono ?_
  rintro e w2 ⟨rfl, hb2⟩
  have hle := HI9.out.2.size
  have hII := And.intro (HI9.out.1.bel hb2) (HI9.out.2.trans (hb2.mono hle))
  first | exact ⟨rfl, hb2.mono hle, hII⟩ | exact ⟨_, rfl, hb2.mono hle, hII, rfl⟩
 refine val_cons ?_ (fun v1 => ?_)
 ·intro L vs w1 hvs hat hb hI hF; try simp [factsI, Region.binds, Is] at hF
  have hbg := hI.2
  have HI9 := Lib.hid hI; clear hI
  have D0 := (HS0.out.1).grow (show Below _ _ _ from hbg); have cD := D0.cell; have lD := D0.lt; clear D0
  go_simp
  first | exact ⟨Below.refl _ _, HI9.out.1⟩ | exact ⟨Below.refl _ _, HI9.out.1, trivial⟩ | exact ⟨Below.refl _ _, HI9.out⟩ | exact ⟨Below.refl _ _, HI9.out, trivial⟩ | exact ⟨Below.refl _ _, HI9.out.1, HI9.out.2, trivial⟩
 refine val_cons ?_ (fun v2 => ?_)
 ·intro L vs w1 hvs hat hb hI hF; try simp [factsI, Region.binds, Is] at hF
  have hbg := hI.2
  have HI9 := Lib.hid hI; clear hI
  go_simp
  refine (HLe.out _).mono ?_
  rintro e w2 ⟨rfl, hb2⟩
  have hle := HI9.out.2.size
  have hII := And.intro (HI9.out.1.bel hb2) (HI9.out.2.trans (hb2.mono hle))
  first | exact ⟨rfl, hb2.mono hle, hII⟩ | exact ⟨_, rfl, hb2.mono hle, hII, rfl⟩
 refine val_cons ?_ (fun v3 => ?_)
 ·intro L vs w1 hvs hat hb hI hF; try simp [factsI, Region.binds, Is] at hF
  have h3 : L 3 = false := hat.self
  have h4 := hat.later 60 4 (by kernel_rfl)
  have hbg := hI.2
  have HI9 := Lib.hid hI; clear hI
  go_simp
  refine (HCl.out _).mono ?_
  rintro e w2 ⟨u9, rfl, hO9, hb2⟩
  have hle := HI9.out.2.size
  have h99 : CvI (w.heap.size + 1) L0 true (L 4) u9 (vs 4) w2 := by rw [h4]; exact CvI.p1 (v := u9) (own_weak hO9 (by have := HS0.out.1.lt; omega))
  refine ⟨_, rfl, hb2.mono hle, ?_, trivial⟩
  simpa [upd, h4] using And.intro h99 (HI9.out.2.trans (hb2.mono hle))
 refine val_cons ?_ (fun v4 => ?_)
 ·intro L vs w1 hvs hat hb hI hF; try simp [factsI, Region.binds, Is] at hF
  have h3 := hat.ahead 60 3 (by kernel_rfl)
  have h4 : L 4 = false := hat.self
  have hv3 : vs 3 = v3 := hvs 3 (by omega)
  rw [h3, h4, hv3] at hI
  have hbg := hI.2
  have HI9 := Lib.hid hI; clear hI
  have h99 := HI9.out.1.p2
  go_simp
  exact ⟨Below.refl _ _, by simpa [upd, hv3] using h99⟩
 refine val_nil ?_
 intro vs w1 hvs hb hI hF
 simp [Is, Nat.forall_lt_succ_right] at hF
 have e0 := hF.1.1.1.1
 have e1 := hF.1.1.1.2
 have e2 := hF.1.1.2
 have e3 := hF.1.2
 have e4 := hF.2
 clear hF
 simp only [Act.put, List.setIfInBounds_toArray, List.set_cons_succ, List.set_cons_zero, e0, e1, e2, e3]
 clear e0 e1 e2 e3
 have hv4 : vs 4 = v4 := hvs 4 (by omega)
 have hO4 : OwnSo w1 (w.heap.size + 1) v4 L0 := by have h := hI.1.g2; rwa [hv4] at h
 have hbg := hI.2
 obtain ⟨a4, c4, hv4e, hS4⟩ := OwnSo.opened hO4
 rw [← HN.out] at hv4e
 have HW := Lib.hid (And.intro hS4 (And.intro (HS0.out.1.grow hbg) (bel_trans HS0.out.2 hbg)))
 obtain ⟨wA, hwA⟩ : ∃ x, x = w1 := ⟨_, rfl⟩
 rw [← hwA] at HW ⊢
 clear hI hb hvs hbg hO4 hS4 hwA HS0
 subst hv4e
 go_wp2_with fail
 go_loopw [4, 5] (fun ov iv wx => ∃ i : Nat, i ≤ n ∧ iv = .int .i64 i ∧ Hid (OwnSo wx wA.heap.size ov (cavQ L0 i) ∧ Below wA.heap.size wA wx)) (fun _ iv _ => n - (intOf iv).toNat)
 case atStart => exact ⟨0, by omega, rfl, Lib.hid ⟨by rw [cavQ_zero]; exact OwnSo.nil _ _, Below.refl _ _⟩⟩
 case round =>
  obtain ⟨i, hi, rfl, HI⟩ := hrel
  obtain ⟨wB, hwB⟩ : ∃ wB, wB = wr := ⟨_, rfl⟩
  rw [← hwB] at HI ⊢
  clear hwB
  by_cases hlt : i < n
  ·obtain ⟨x, hx⟩ : ∃ x, L0[i]? = some x := ⟨_, List.getElem?_eq_getElem (by rw [← HN.out]; exact hlt)⟩
   obtain ⟨b4, o4, rfl, hC4⟩ := HW.out.1.at hx
   have HX := Lib.hid (And.intro hx (hC4.mono HI.out.2 hC4.1))
   have HQS := Lib.hid (cavQ_step hx)
   have hiI : (i : Int) < (n : Int) := by omega
   have HI1 := Lib.hid fun W => HIs.out x W
   obtain ⟨q, hq⟩ : ∃ q, q = subS x is := ⟨_, rfl⟩
   rw [← hq] at HI1
   rw [← HIE.out, ← hq] at HQS
   have hlq := cavQ_len L0 i
   have hn5 := HNL.out
   clear hx hC4 hq
   go_wp2_with fail
   refine wp_region_val Grows (fun _ _ _ => True) [Is (.slice (some ⟨b4, o4, none⟩) n c4), Is (.int .i64 (i : Nat)), Is (.pointer (some ⟨b4, o4 + i * 8, none⟩)), Is (solV x), Is (solV is), Is (.bool q)] (by kernel_rfl) (by kernel_rfl) rfl Grows.refl (fun _ _ _ => Grows.trans) (stable_mem ⟨fun _ _ _ h _ => h, fun _ _ _ h _ => h, fun _ _ _ h _ => h, fun _ _ _ h _ => h, fun _ _ _ h _ => h, fun _ _ _ h _ => h, trivial⟩) wB (Below.drew (Below.refl _ _)) trivial ?_
   refine val_cons ?_ (fun v0 => ?_)
   ·intro L vs w1 hvs hat hb hI hF; try simp [factsI, Region.binds, Is] at hF
    have hc := (Grows.cells hb).1
    clear hI
    go_simp
    try simp [upd]
    try first | exact Grows.refl _ | exact trivial | exact ⟨Grows.refl _, trivial⟩
   refine val_cons ?_ (fun v1 => ?_)
   ·intro L vs w1 hvs hat hb hI hF; try simp [factsI, Region.binds, Is] at hF
    have hc := (Grows.cells hb).1
    clear hI
    go_simp
    try simp [upd]
    try first | exact Grows.refl _ | exact trivial | exact ⟨Grows.refl _, trivial⟩
   refine val_cons ?_ (fun v2 => ?_)
   ·intro L vs w1 hvs hat hb hI hF; try simp [factsI, Region.binds, Is] at hF
    have hc := (Grows.cells hb).1
    clear hI
    go_simp
    try simp [upd]
    try first | exact Grows.refl _ | exact trivial | exact ⟨Grows.refl _, trivial⟩
   refine val_cons ?_ (fun v3 => ?_)
   ·intro L vs w1 hvs hat hb hI hF; try simp [factsI, Region.binds, Is] at hF
    have hCw := Cells.mono (HX.out.2) (show Below _ _ _ from hb) (HX.out.2).1
    have cz := sol_cells hCw HX.out.1
    obtain ⟨z0, z1, z2, z3, z4, z5, z6, z7⟩ := cz
    have lz := hCw.1
    clear hCw
    go_simp
    first | exact Grows.refl _ | exact ⟨Grows.refl _, trivial⟩
   refine val_cons ?_ (fun v4 => ?_)
   ·intro L vs w1 hvs hat hb hI hF; try simp [factsI, Region.binds, Is] at hF
    have hb0 := hb
    go_simp
    refine (HIn.out _).mono ?_
    rintro e w2 ⟨rfl, hb2⟩
    first | exact ⟨rfl, hb2⟩ | exact ⟨_, rfl, hb2, trivial, rfl⟩ | exact ⟨_, rfl, hb2, rfl⟩
   refine val_cons ?_ (fun v5 => ?_)
   ·intro L vs w1 hvs hat hb hI hF; try simp [factsI, Region.binds, Is] at hF
    have hb0 := hb
    go_simp
    refine (HI1.out _).mono ?_
    rintro e w2 ⟨rfl, hb2⟩
    first | exact ⟨rfl, hb2⟩ | exact ⟨_, rfl, hb2, trivial, rfl⟩ | exact ⟨_, rfl, hb2, rfl⟩
   refine val_nil ?_
   intro vs w1 hvs hb hI hF
   simp [Is, Nat.forall_lt_succ_right] at hF
   simp only [Act.put, List.setIfInBounds_toArray, List.set_cons_succ, List.set_cons_zero, hF]
   clear hF
   have hbB : Below wB.heap.size wB w1 := hb
   have HE := Lib.hid (And.intro (own_wide HI.out.1 hbB) (And.intro (HI.out.2.trans (hbB.mono HI.out.2.size)) (HX.out.2.mono hbB HX.out.2.1)))
   obtain ⟨wC, hwC⟩ : ∃ x, x = w1 := ⟨_, rfl⟩
   rw [← hwC] at HE ⊢
   clear hwC hbB hb hvs HI
   cases q with
   | false =>
    have HQ2 : Hid (cavQ L0 (i + 1) = cavQ L0 i) := Lib.hid (by rw [HQS.out]; rfl)
    go_wp2_with fail
    go_roundw
    case rel => exact ⟨i + 1, by omega, by go_num, Lib.hid ⟨by rw [HQ2.out]; exact HE.out.1, HE.out.2.1⟩⟩
    case measure => simp [intOf]; omega
   | true =>
    have HQ2 : Hid (cavQ L0 (i + 1) = cavQ L0 i ++ [x]) := Lib.hid (by rw [HQS.out]; rfl)
    have hsz := HE.out.2.1.size
    obtain ⟨v2, W2, hr2, hO2, hb2, _⟩ := app_one (World.ownsRow.alloc HE.out.1 (.cells #[.int .u64 (pl x 0), .int .u64 (pl x 1), .int .u64 (pl x 2), .int .u64 (pl x 3), .int .u64 (pl x 4), .int .u64 (pl x 5), .int .u64 (pl x 6), .int .u64 (pl x 7)] 26)) (Blk.new wC #[.int .u64 (pl x 0), .int .u64 (pl x 1), .int .u64 (pl x 2), .int .u64 (pl x 3), .int .u64 (pl x 4), .int .u64 (pl x 5), .int .u64 (pl x 6), .int .u64 (pl x 7)] 26) (by have := HNL.out; omega) (by simp; omega)
    have HR2 := Lib.hid hr2
    have HF := Lib.hid (And.intro hO2 ((bel_alloc HE.out.2.1 _).trans hb2))
    obtain ⟨z0, z1, z2, z3, z4, z5, z6, z7⟩ := sol_cells HE.out.2.2 HX.out.1
    have lz := HE.out.2.2.1
    clear hsz hr2 hO2 hb2
    go_wp2_with (first | (at_builtin; refine wpList_append_run rfl _ _ _ _ rfl _ _ rfl rfl HR2.out ?_))
    go_roundw
    case rel => exact ⟨i + 1, by omega, by go_num, Lib.hid ⟨by rw [HQ2.out]; exact HF.out.1, HF.out.2⟩⟩
    case measure => simp [intOf]; omega
  ·obtain rfl : i = n := by omega
   have HE : Hid (OwnSo wB w.heap.size _ R ∧ Below w.heap.size w wB) := Lib.hid ⟨by rw [HRE.out]; exact own_weak HI.out.1 HW.out.2.2.size, HW.out.2.2.trans (HI.out.2.mono HW.out.2.2.size)⟩
   go_wp2_with fail
   go_ret
   exact ⟨_, rfl, HE.out⟩
end Go.Proofs.YtkfimbonmnoglaaGreatDoor
end
