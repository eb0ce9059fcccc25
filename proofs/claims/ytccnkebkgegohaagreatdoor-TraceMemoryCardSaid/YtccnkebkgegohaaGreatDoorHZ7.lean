import Derived.Test.YtccnkebkgegohaaGreatDoorHZ2
/-
  Given contracts of functions of the program, and laws for them, one behind the other.
-/
set_option linter.unusedVariables false
set_option linter.unusedSimpArgs false
set_option linter.unusedSectionVars false
section
namespace Go.Proofs.YtccnkebkgegohaaGreatDoor
open Go.RowKit Go.Rel
set_option maxRecDepth 100000
/-! Steps of a bad history; lists of lists compared; Normal and Equal of the reference -/
set_option maxHeartbeats 4000000 in
theorem Steps_bad {b : Sol} {v av : Value} {l : List Sol} {m : List Ac} {x : Nat × Int} (h : begunM b l m = .inl x) (w : World) (Hv : SlS w v l) (Hav : SlA w av m) :
  Calls Tryz.prog 69 #[.agg #[.int .u64 (pl b 0), .int .u64 (pl b 1), .int .u64 (pl b 2), .int .u64 (pl b 3), .int .u64 (pl b 4), .int .u64 (pl b 5), .int .u64 (pl b 6), .int .u64 (pl b 7), v, av]] w fun e w' => e = .returned (.tuple #[.slice none 0 0, .int .i64 x.2]) ∧ Below w.heap.size w w' := by
 have H := Lib.hid fun w' (hb : Below w.heap.size w w') => begun_bad h w' (Hv.mono hb) (Hav.mono hb)
 have hne := begunM_bad h
 clear h Hv Hav
 go_enter Tryz.func69, Tryz.ntmps69
 go_wp2_with fail
 refine (H.out _ bel_by).mono ?_
 rintro e w1 ⟨rfl, hb⟩
 have hB1 : Below w.heap.size w w1 := bel_trans bel_by hb
 clear hb
 go_wp2_with fail
 refine bodyPost_ret (by simp [results, Tryz.results69, go_sem]) rfl ⟨rfl, hB1⟩
end Go.Proofs.YtccnkebkgegohaaGreatDoor
end
section
namespace Go.Proofs.YtccnkebkgegohaaGreatDoor
open Go.RowKit Go.Rel
set_option maxRecDepth 100000
/-! results in memory of their own -/
def ORes (b : Sol) (l : List Sol) (M : List Ac) (E : Int) (w : World) (e : Ending) (w' : World) : Prop :=
 ∃ p n c q k d, e = .returned (.tuple #[.agg #[.int .u64 (pl b 0), .int .u64 (pl b 1), .int .u64 (pl b 2), .int .u64 (pl b 3), .int .u64 (pl b 4), .int .u64 (pl b 5), .int .u64 (pl b 6), .int .u64 (pl b 7), .slice p n c, .slice q k d], .int .i64 E]) ∧ OwnS w' w.heap.size (.slice p n c) l ∧ OwnA w' w.heap.size (.slice q k d) M ∧ Below w.heap.size w w'
theorem ores_zero {x : Int} {w w' : World} (hb : Below w.heap.size w w') : ORes 0 [] [] x w (.returned (.tuple #[.agg #[.int .u64 0, .int .u64 0, .int .u64 0, .int .u64 0, .int .u64 0, .int .u64 0, .int .u64 0, .int .u64 0, .slice none 0 0, .slice none 0 0], .int .i64 x])) w' := by
 refine ⟨none, 0, 0, none, 0, 0, ?_, World.ownsRow_nil _ _ _ _, World.ownsRow_nil _ _ _ _, hb⟩
 rw [zero_hist]
theorem ores_own {b : Sol} {l : List Sol} {M : List Ac} {E : Int} {w w' : World} {pv bv : Value} (hS : OwnS w' w.heap.size pv l) (hA : OwnA w' w.heap.size bv M) (hb : Below w.heap.size w w') : ORes b l M E w (.returned (.tuple #[.agg #[.int .u64 (pl b 0), .int .u64 (pl b 1), .int .u64 (pl b 2), .int .u64 (pl b 3), .int .u64 (pl b 4), .int .u64 (pl b 5), .int .u64 (pl b 6), .int .u64 (pl b 7), pv, bv], .int .i64 E])) w' := by
 obtain ⟨p, c, rfl, _, _⟩ := own_shape' hS
 obtain ⟨q, d, rfl, _, _⟩ := own_shape' hA
 exact ⟨_, _, _, _, _, _, rfl, hS, hA, hb⟩
set_option maxHeartbeats 16000000 in
theorem Act_goO (b : Sol) (p q : Option Addr) (n c k d : Nat) (a : Ac) (w : World) (r : Bool) (x2 y2 : Int) (l : List Sol) (m : List Ac) (s : Stn) (hk : m.length = k) (hkd : k ≤ d) (HA : Hid (SlN w (.slice q k d) m)) (h60 : k ≤ 60) (h8 : l.length ≤ 8) (HV : Hid (SlS w (.slice p n c) l)) (hn2 : (y2 != 0) = r)
  (H : Hid (∀ w', Below w.heap.size w w' → Calls Tryz.prog 89 #[.agg #[.int .u64 (pl b 0), .int .u64 (pl b 1), .int .u64 (pl b 2), .int .u64 (pl b 3), .int .u64 (pl b 4), .int .u64 (pl b 5), .int .u64 (pl b 6), .int .u64 (pl b 7), .slice p n c, .slice q k d]] w' fun e w'' => ∃ bp, e = .returned (.tuple #[.pointer (some ⟨bp, 0, none⟩), .int .i64 0, .int .i64 0]) ∧ w'.heap.size ≤ bp ∧ PastAt bp b (.slice p n c) (.slice q k d) l m s w'' ∧ Below w'.heap.size w' w''))
  (H2 : Hid (∀ w', Below w.heap.size w w' → ∀ pv bv, SlS w' pv l → SlA w' bv (m ++ [a]) → Calls Tryz.prog 27 #[.agg #[.int .u64 (pl b 0), .int .u64 (pl b 1), .int .u64 (pl b 2), .int .u64 (pl b 3), .int .u64 (pl b 4), .int .u64 (pl b 5), .int .u64 (pl b 6), .int .u64 (pl b 7), pv, bv]] w' fun e w'' => e = .returned (.tuple #[.int .i64 x2, .int .i64 y2]) ∧ Below w'.heap.size w' w'')) :
  Calls Tryz.prog 40 #[.agg #[.int .u64 (pl b 0), .int .u64 (pl b 1), .int .u64 (pl b 2), .int .u64 (pl b 3), .int .u64 (pl b 4), .int .u64 (pl b 5), .int .u64 (pl b 6), .int .u64 (pl b 7), .slice p n c, .slice q k d], .agg #[.int .u8 a.1, .int .i64 a.2.1, .int .u64 (pl a.2.2 0), .int .u64 (pl a.2.2 1), .int .u64 (pl a.2.2 2), .int .u64 (pl a.2.2 3), .int .u64 (pl a.2.2 4), .int .u64 (pl a.2.2 5), .int .u64 (pl a.2.2 6), .int .u64 (pl a.2.2 7)]] w fun e w' => if r = true then e = .returned (.tuple #[.agg #[.int .u64 0, .int .u64 0, .int .u64 0, .int .u64 0, .int .u64 0, .int .u64 0, .int .u64 0, .int .u64 0, .slice none 0 0, .slice none 0 0], .int .i64 y2]) ∧ Below w.heap.size w w' else ORes b l (m ++ [a]) 0 w e w' := by
 go_enter Tryz.func40, Tryz.ntmps40
 go_wp2_with fail
 refine (H.out _ bel_by).mono ?_
 rintro e wb ⟨bp, rfl, hbp, hP, hb⟩
 have hB1 : Below w.heap.size w wb := bel_trans bel_by hb
 have g0 : Blk wb w.heap.size #[.int .u64 (pl b 0), .int .u64 (pl b 1), .int .u64 (pl b 2), .int .u64 (pl b 3), .int .u64 (pl b 4), .int .u64 (pl b 5), .int .u64 (pl b 6), .int .u64 (pl b 7), .slice p n c, .slice q k d] 30 := Blk.grow blk_by hb
 have g1 : Blk wb (w.heap.size + 1) #[.int .u8 a.1, .int .i64 a.2.1, .int .u64 (pl a.2.2 0), .int .u64 (pl a.2.2 1), .int .u64 (pl a.2.2 2), .int .u64 (pl a.2.2 3), .int .u64 (pl a.2.2 4), .int .u64 (pl a.2.2 5), .int .u64 (pl a.2.2 6), .int .u64 (pl a.2.2 7)] 46 := Blk.grow blk_by hb
 have g2 : Blk wb (w.heap.size + 1 + 1) #[.int .u64 0, .int .u64 0, .int .u64 0, .int .u64 0, .int .u64 0, .int .u64 0, .int .u64 0, .int .u64 0, .slice none 0 0, .slice none 0 0] 30 := Blk.grow blk_by hb
 have c0 := g0.cell
 have l0 := g0.lt
 have c1 := g1.cell
 have l1 := g1.lt
 have l2 := g2.lt
 have HP := Lib.hid hP
 have HK := Lib.hid hk
 have H92 : Hid (∀ w', Below wb.heap.size wb w' → ∀ u, SlA w' u (m ++ [a]) → Calls Tryz.prog 92 #[.pointer (some ⟨bp, 0, none⟩), u] w' fun e w'' => ∃ pv bv, e = .returned (.agg #[.int .u64 (pl b 0), .int .u64 (pl b 1), .int .u64 (pl b 2), .int .u64 (pl b 3), .int .u64 (pl b 4), .int .u64 (pl b 5), .int .u64 (pl b 6), .int .u64 (pl b 7), pv, bv]) ∧ OwnS w'' w'.heap.size pv l ∧ OwnA w'' w'.heap.size bv (m ++ [a]) ∧ Below w'.heap.size w' w'') := Lib.hid fun w' hw u hu => with_spec w' (HP.out.grow hw) (HV.out.mono (bel_trans hB1 hw)) h8 u (m ++ [a]) hu (by rw [List.length_append, HK.out]; simp; omega)
 clear hb hP hbp hk H HP
 go_wp2_with fail
 refine wp_region_grow 15 [Is (.pointer (some ⟨bp, 0, none⟩)), Is (.pointer (some ⟨w.heap.size, 9, none⟩)), Is (.slice q k d), Is (.pointer (some ⟨w.heap.size, 9, none⟩)), Is (.slice q k d), Is (.int .i64 (k : Int)), Is (.pointer (some ⟨w.heap.size, 9, none⟩)), Is (.slice q k d), Is (.int .i64 (k : Int)), VSNf m, Is (.agg #[.int .u8 a.1, .int .i64 a.2.1, .int .u64 (pl a.2.2 0), .int .u64 (pl a.2.2 1), .int .u64 (pl a.2.2 2), .int .u64 (pl a.2.2 3), .int .u64 (pl a.2.2 4), .int .u64 (pl a.2.2 5), .int .u64 (pl a.2.2 6), .int .u64 (pl a.2.2 7)]), VS1 [a], VSA1 (m ++ [a]), VHist (w.heap.size + 1 + 1 + 1) b l (m ++ [a]), VBk (w.heap.size + 1 + 1 + 1) #[.int .u64 0, .int .u64 0, .int .u64 0, .int .u64 0, .int .u64 0, .int .u64 0, .int .u64 0, .int .u64 0, .slice none 0 0, .slice none 0 0] 30] (by kernel_rfl) (by kernel_rfl) rfl ⟨fun _ _ _ h _ => h, fun _ _ _ h _ => h, fun _ _ _ h _ => h, fun _ _ _ h _ => h, fun _ _ _ h _ => h, fun _ _ _ h _ => h, fun _ _ _ h _ => h, fun _ _ _ h _ => h, fun _ _ _ h _ => h, VSNf.stab, fun _ _ _ h _ => h, VS1.stab, VSA1.stab, VHist.stable, VBk.stab, trivial⟩ ?_
 simp only [List.take_succ_cons, List.take_zero, List.drop_succ_cons, List.drop_zero]
 iterate 2 (refine rel_cons ?_ (fun _ => ?_); · intro w1 hb hF; have hc := (Grows.cells hb).1; have hf := (Grows.cells hb).2; (try simp [facts, Is] at hF); go_simp; exact Grows.refl _)
 refine rel_cons ?_ (fun v2 => ?_)
 ·intro w1 hb hF; have hc := (Grows.cells hb).1; have hf := (Grows.cells hb).2; try simp [facts, Is] at hF
  go_simp
  exact Grows.refl _
 iterate 4 (refine rel_cons ?_ (fun _ => ?_); · intro w1 hb hF; have hc := (Grows.cells hb).1; have hf := (Grows.cells hb).2; (try simp [facts, Is] at hF); go_simp; exact Grows.refl _)
 refine rel_cons ?_ (fun v7 => ?_)
 ·intro w1 hb hF; have hc := (Grows.cells hb).1; have hf := (Grows.cells hb).2; try simp [facts, Is] at hF
  go_simp
  exact Grows.refl _
 refine rel_cons ?_ (fun v8 => ?_)
 ·intro w1 hb hF; have hc := (Grows.cells hb).1; have hf := (Grows.cells hb).2; try simp [facts, Is] at hF
  go_simp
  exact Grows.refl _
 refine rel_cons ?_ (fun v9 => ?_)
 ·intro w1 hb hF; have hc := (Grows.cells hb).1; have hf := (Grows.cells hb).2; try simp [facts, Is] at hF
  have h := Lib.hid (sln_take (HA.out.mono (bel_trans hB1 hb)).1 (Nat.le_refl k))
  go_simp
  refine ⟨Grows.refl _, ?_⟩
  unfold VSNf
  have hh := h.out
  rw [List.take_of_length_le (by rw [HK.out]; exact Nat.le_refl _)] at hh
  rw [HK.out]
  first | exact ⟨_, rfl, hh⟩ | skip
 refine rel_cons ?_ (fun v10 => ?_)
 ·intro w1 hb hF; have hc := (Grows.cells hb).1; have hf := (Grows.cells hb).2; try simp [facts, Is] at hF
  go_simp
  exact Grows.refl _
 refine rel_cons ?_ (fun v11 => ?_)
 ·intro w1 hb hF; have hc := (Grows.cells hb).1; have hf := (Grows.cells hb).2; try simp [facts, Is] at hF
  go_simp
  exact ⟨bel_alloc (bel_refl _) _, by unfold VS1; exact ⟨_, rfl, acv_sl (Blk.new _ _ _)⟩⟩
 refine rel_cons ?_ (fun v12 => ?_)
 ·intro w1 hb hF; have hc := (Grows.cells hb).1; have hf := (Grows.cells hb).2; try simp [facts, Is] at hF
  have h9 := hF.1
  have h11 := hF.2
  clear hF
  unfold VSNf at h9
  unfold VS1 at h11
  refine Exists.elim h9 (fun q9 h => ?_)
  have e9 := h.1
  have h9' := h.2
  clear h
  rw [e9] at h9'
  refine Exists.elim (app_full h9' (Exists.elim h11 (fun g h => h.2)) (by simp) (by rw [HK.out]; simp; omega)) (fun v' h => Exists.elim h (fun w' h => ?_))
  subst e9
  refine step_append (v := .slice q9 m.length m.length) (v7 := v11) rfl rfl ?_ ?_ h.1 ?_
  ·go_simp
  ·go_simp
  ·exact ⟨h.2.2, by unfold VSA1; exact OwnA.sl h.2.1⟩
 refine rel_cons ?_ (fun v13 => ?_)
 ·intro w1 hb hF; have hc := (Grows.cells hb).1; have hf := (Grows.cells hb).2; try simp [facts, Is] at hF
  have h12 := hF.2
  have h0 := hF.1
  clear hF
  subst h0
  unfold VSA1 at h12
  have HS := Lib.hid h12; clear h12
  have hsz := hb.size
  go_simp
  refine (H92.out _ hb _ HS.out).mono ?_
  rintro e w2 ⟨pv, bv, rfl, hS, hA, hB⟩
  exact ⟨_, rfl, hB, by unfold VHist; exact ⟨pv, bv, rfl, own_weak hS (by omega), own_weak hA (by omega)⟩⟩
 refine rel_cons ?_ (fun v14 => ?_)
 ·intro w1 hb hF; have hc := (Grows.cells hb).1; have hf := (Grows.cells hb).2; try simp [facts, Is] at hF
  have hsz := hb.size
  go_simp
  exact ⟨bel_alloc (bel_refl _) _, by unfold VBk; exact ⟨_, rfl, (by omega), Blk.new _ _ _⟩⟩
 refine rel_nil ?_
 intro w1 hb hF
 simp [Is, Nat.forall_lt_succ_right] at hF
 have e0 := hF.1.1.1.1.1.1.1.1.1.1.1.1.1.1
 have e1 := hF.1.1.1.1.1.1.1.1.1.1.1.1.1.2
 have e2 := hF.1.1.1.1.1.1.1.1.1.1.1.1.2
 have e3 := hF.1.1.1.1.1.1.1.1.1.1.1.2
 have e4 := hF.1.1.1.1.1.1.1.1.1.1.2
 have e5 := hF.1.1.1.1.1.1.1.1.1.2
 have e6 := hF.1.1.1.1.1.1.1.1.2
 have e7 := hF.1.1.1.1.1.1.1.2
 have e8 := hF.1.1.1.1.1.1.2
 have e9 := hF.1.1.1.1.1.2
 have e10 := hF.1.1.1.1.2
 have e11 := hF.1.1.1.2
 have e12 := hF.1.1.2
 have e13 := hF.1.2
 have e14 := hF.2
 clear hF
 simp only [Act.put, List.setIfInBounds_toArray, List.set_cons_succ, List.set_cons_zero, e0, e1, e2, e3, e4, e5, e6, e7, e8, e10]
 clear e0 e1 e2 e3 e4 e5 e6 e7 e8 e10
 unfold VHist at e13
 unfold VBk at e14
 refine Veil.out ?_
 obtain ⟨pv, bv, rfl, hS, hA⟩ := e13
 obtain ⟨G9, rfl, hG9, g9⟩ := e14
 have HSl := Lib.hid (And.intro hS hA)
 obtain ⟨p', n', c', rfl⟩ := own_shape hS
 obtain ⟨q', k', d', rfl⟩ := own_shape hA
 refine Veil.on ?_
 clear e9 e11 e12 hS hA c0 l0 c1 l1 g0 g1
 have hB2 : Below w.heap.size w w1 := bel_trans hB1 hb
 have G2 := (g2.grow hb).rowO (g := G9) #[.int .u64 (pl b 0), .int .u64 (pl b 1), .int .u64 (pl b 2), .int .u64 (pl b 3), .int .u64 (pl b 4), .int .u64 (pl b 5), .int .u64 (pl b 6), .int .u64 (pl b 7), .slice p' n' c', .slice q' k' d'] (by omega)
 have HS2 : Hid (OwnS (w1.setRow G9 #[.int .u64 (pl b 0), .int .u64 (pl b 1), .int .u64 (pl b 2), .int .u64 (pl b 3), .int .u64 (pl b 4), .int .u64 (pl b 5), .int .u64 (pl b 6), .int .u64 (pl b 7), .slice p' n' c', .slice q' k' d']) (w.heap.size + 1 + 1 + 1) (.slice p' n' c') l ∧ OwnA (w1.setRow G9 #[.int .u64 (pl b 0), .int .u64 (pl b 1), .int .u64 (pl b 2), .int .u64 (pl b 3), .int .u64 (pl b 4), .int .u64 (pl b 5), .int .u64 (pl b 6), .int .u64 (pl b 7), .slice p' n' c', .slice q' k' d']) (w.heap.size + 1 + 1 + 1) (.slice q' k' d') (m ++ [a])) := Lib.hid ⟨own_rowT HSl.out.1 g9 (by decide) _, own_rowT HSl.out.2 g9 (by decide) _⟩
 have hB3 : Below w.heap.size w (w1.setRow G9 #[.int .u64 (pl b 0), .int .u64 (pl b 1), .int .u64 (pl b 2), .int .u64 (pl b 3), .int .u64 (pl b 4), .int .u64 (pl b 5), .int .u64 (pl b 6), .int .u64 (pl b 7), .slice p' n' c', .slice q' k' d']) := blw_row hB2 (by omega) _
 have G9' := g9.rowS #[.int .u64 (pl b 0), .int .u64 (pl b 1), .int .u64 (pl b 2), .int .u64 (pl b 3), .int .u64 (pl b 4), .int .u64 (pl b 5), .int .u64 (pl b 6), .int .u64 (pl b 7), .slice p' n' c', .slice q' k' d']
 have r9 := g9.row
 have l9 := g9.lt
 rw [← g9.rw]
 clear HSl g2 g9 hb
 go_wp2_with fail
 generalize w1.setRow G9 #[.int .u64 (pl b 0), .int .u64 (pl b 1), .int .u64 (pl b 2), .int .u64 (pl b 3), .int .u64 (pl b 4), .int .u64 (pl b 5), .int .u64 (pl b 6), .int .u64 (pl b 7), .slice p' n' c', .slice q' k' d'] = w2 at *
 refine (H2.out _ hB3 _ _ (OwnS.sl HS2.out.1) (OwnA.sl HS2.out.2)).mono ?_
 rintro e w3 ⟨rfl, hb3⟩
 have hB4 : Below w.heap.size w w3 := bel_trans hB3 hb3
 replace G2 := G2.grow hb3
 replace G9' := G9'.grow hb3
 have HS3 := Lib.hid (And.intro (own_grow HS2.out.1 hb3) (own_grow HS2.out.2 hb3))
 clear HS2 hb3 r9 l9 hB1 hB2 hB3 l2
 have hne9 : G9 ≠ w.heap.size + 1 + 1 := by omega
 have c9 := G9'.cell
 have l9 := G9'.lt
 have r2 := G2.row
 have l2 := G2.lt
 rw [← G2.rw]
 clear G9'
 cases r with
 | false =>
  go_wp2_with fail
  refine bodyPost_ret (v := .tuple #[.agg #[.int .u64 (pl b 0), .int .u64 (pl b 1), .int .u64 (pl b 2), .int .u64 (pl b 3), .int .u64 (pl b 4), .int .u64 (pl b 5), .int .u64 (pl b 6), .int .u64 (pl b 7), .slice p' n' c', .slice q' k' d'], .int .i64 0]) (by simp [results, Tryz.results40, go_sem, *]) rfl ?_
  have hBf : Below w.heap.size w (w3.setRow (w.heap.size + 1 + 1) #[.int .u64 (pl b 0), .int .u64 (pl b 1), .int .u64 (pl b 2), .int .u64 (pl b 3), .int .u64 (pl b 4), .int .u64 (pl b 5), .int .u64 (pl b 6), .int .u64 (pl b 7), .slice p' n' c', .slice q' k' d']) := blw_row hB4 (by omega) _
  show ORes b l (m ++ [a]) 0 w _ _
  exact ⟨p', n', c', q', k', d', rfl, own_weak (own_rowT HS3.out.1 G2 (by decide) _) (by omega), own_weak (own_rowT HS3.out.2 G2 (by decide) _) (by omega), hBf⟩
 | true =>
  go_wp2_with fail
  refine bodyPost_ret (v := .tuple #[.agg #[.int .u64 0, .int .u64 0, .int .u64 0, .int .u64 0, .int .u64 0, .int .u64 0, .int .u64 0, .int .u64 0, .slice none 0 0, .slice none 0 0], .int .i64 y2]) (by simp [results, Tryz.results40, go_sem, *]) rfl ?_
  show _ = _ ∧ _
  exact ⟨rfl, blw_row hB4 (by omega) _⟩

theorem Act_o (b : Sol) (v av : Value) (l : List Sol) (m : List Ac) (a : Ac) (w : World) (Hv : SlS w v l) (Hav : SlN w av m) :
  ∃ B L M E, (M.length ≤ m.length + 1) ∧ Hid (∀ w', Below w.heap.size w w' → Calls Tryz.prog 40 #[.agg #[.int .u64 (pl b 0), .int .u64 (pl b 1), .int .u64 (pl b 2), .int .u64 (pl b 3), .int .u64 (pl b 4), .int .u64 (pl b 5), .int .u64 (pl b 6), .int .u64 (pl b 7), v, av], .agg #[.int .u8 a.1, .int .i64 a.2.1, .int .u64 (pl a.2.2 0), .int .u64 (pl a.2.2 1), .int .u64 (pl a.2.2 2), .int .u64 (pl a.2.2 3), .int .u64 (pl a.2.2 4), .int .u64 (pl a.2.2 5), .int .u64 (pl a.2.2 6), .int .u64 (pl a.2.2 7)]] w' (ORes B L M E w')) := by
 have Hv' := Hv
 have Hav' := Hav.1
 obtain ⟨p, c, rfl, _, _⟩ := Hv'
 obtain ⟨q, d, rfl, hkd, _⟩ := Hav'
 have hl : m.length = (m.map acL).length := (List.length_map ..).symm
 by_cases h0 : (checkR b l m).2 = 0
 ·obtain ⟨s, hs⟩ := checkR_ok h0
  have h60 := checkR_len h0
  have h8 := chkPat_ok (begunM_good hs).1
  have H := fun w1 (h1 : Below w.heap.size w w1) => Lib.hid fun w' (hb : Below w1.heap.size w1 w') => begun_good hs w' ((Hv.mono h1).mono hb) ((Hav.1.mono h1).mono hb)
  have H2 := fun w1 (_ : Below w.heap.size w w1) => Lib.hid fun w' (hb : Below w1.heap.size w1 w') => fun pv bv (hp : SlS w' pv l) (ha : SlA w' bv (m ++ [a])) => Check_spec b pv bv l (m ++ [a]) w' hp ha
  by_cases h2 : (checkR b l (m ++ [a])).2 = 0
  ·exact ⟨b, l, m ++ [a], 0, by simp, Lib.hid fun w1 h1 => (Act_goO b p q _ c _ d a w1 false _ _ l m s hl hkd (Lib.hid (Hav.mono h1)) (by omega) h8 (Lib.hid (Hv.mono h1)) (by simpa using h2) (H w1 h1) (H2 w1 h1)).mono fun e w' h => by rw [if_neg (by decide)] at h; exact h⟩
  ·exact ⟨0, [], [], _, by simp, Lib.hid fun w1 h1 => (Act_goO b p q _ c _ d a w1 true _ _ l m s hl hkd (Lib.hid (Hav.mono h1)) (by omega) h8 (Lib.hid (Hv.mono h1)) (by simpa using h2) (H w1 h1) (H2 w1 h1)).mono fun e w' h => by rw [if_pos rfl] at h; obtain ⟨rfl, hb⟩ := h; exact ores_zero hb⟩
 ·have H := fun w1 (h1 : Below w.heap.size w w1) => Lib.hid fun w' (hb : Below w1.heap.size w1 w') => begun_no b l m w' ((Hv.mono h1).mono hb) ((Hav.1.mono h1).mono hb) h0
  exact ⟨0, [], [], _, by simp, Lib.hid fun w1 h1 => (Act_no b p q _ c _ d a w1 _ _ (by simpa using h0) (H w1 h1)).mono fun e w' h => by obtain ⟨rfl, hb⟩ := h; exact ores_zero hb⟩
theorem Normal_ores (b : Sol) (v av : Value) (l : List Sol) (m : List Ac) (w : World) (Hv : SlS w v l) (Hav : SlA w av m) :
  ∃ B L M E, Hid (∀ w', Below w.heap.size w w' → Calls Tryz.prog 55 #[.agg #[.int .u64 (pl b 0), .int .u64 (pl b 1), .int .u64 (pl b 2), .int .u64 (pl b 3), .int .u64 (pl b 4), .int .u64 (pl b 5), .int .u64 (pl b 6), .int .u64 (pl b 7), v, av]] w' (ORes B L M E w')) := by
 cases hg : begunM b l m with
 | inl x => exact ⟨0, [], [], x.2, Lib.hid fun w' hb => (Normal_bad hg w' (Hv.mono hb) (Hav.mono hb)).mono fun e w2 h => by obtain ⟨rfl, h⟩ := h; exact ores_zero h⟩
 | inr s => exact ⟨b, l, normalM l m, 0, Lib.hid fun w' hb => (Normal_good hg w' (Hv.mono hb) (Hav.mono hb)).mono fun e w2 h => by obtain ⟨pv, bv, rfl, h1, h2, h3⟩ := h; exact ores_own h1 h2 h3⟩
theorem Reduced_ores (b : Sol) (v av : Value) (l : List Sol) (m : List Ac) (w : World) (Hv : SlS w v l) (Hav : SlA w av m) :
  ∃ B L M E, Hid (∀ w', Below w.heap.size w w' → Calls Tryz.prog 21 #[.agg #[.int .u64 (pl b 0), .int .u64 (pl b 1), .int .u64 (pl b 2), .int .u64 (pl b 3), .int .u64 (pl b 4), .int .u64 (pl b 5), .int .u64 (pl b 6), .int .u64 (pl b 7), v, av]] w' (ORes B L M E w')) := by
 cases hg : begunM b l m with
 | inl x => exact ⟨0, [], [], x.2, Lib.hid fun w' hb => (Reduced_bad hg w' (Hv.mono hb) (Hav.mono hb)).mono fun e w2 h => by obtain ⟨rfl, h⟩ := h; exact ores_zero h⟩
 | inr s => exact ⟨b, l, _, 0, Lib.hid fun w' hb => (Reduced_good hg w' (Hv.mono hb) (Hav.mono hb)).mono fun e w2 h => by obtain ⟨pv, bv, rfl, h1, h2, h3⟩ := h; exact ores_own h1 h2 h3⟩
/-- a call returns -/
def Rets (w : World) (e : Ending) (w' : World) : Prop := (∃ v, e = .returned v) ∧ Below w.heap.size w w'
theorem Steps_rets (b : Sol) (v av : Value) (l : List Sol) (m : List Ac) (w : World) (Hv : SlS w v l) (Hav : SlA w av m) : Calls Tryz.prog 69 #[.agg #[.int .u64 (pl b 0), .int .u64 (pl b 1), .int .u64 (pl b 2), .int .u64 (pl b 3), .int .u64 (pl b 4), .int .u64 (pl b 5), .int .u64 (pl b 6), .int .u64 (pl b 7), v, av]] w (Rets w) := by
 cases hg : begunM b l m with
 | inl x => exact (Steps_bad hg w Hv Hav).mono fun e w2 h => ⟨⟨_, h.1⟩, h.2⟩
 | inr s =>
  obtain ⟨t, R, _⟩ := Runs.of hg
  exact (Steps_good hg R.fine R.len w Hv Hav).mono fun e w2 h => by obtain ⟨u, ps, rfl, _, h⟩ := h; exact ⟨⟨_, rfl⟩, h⟩
theorem Merge_rets (b b2 : Sol) (v av v2 av2 : Value) (l l2 : List Sol) (g h : List Ac) (w : World) (Hv : SlS w v l) (Hav : SlA w av g) (Hv2 : SlS w v2 l2) (Hav2 : SlA w av2 h) (hlen : g.length ≤ 14 → h.length ≤ 46) (hg14 : ∀ s, begunM b l g = .inr s → g.length ≤ 14) : Calls Tryz.prog 26 #[.agg #[.int .u64 (pl b 0), .int .u64 (pl b 1), .int .u64 (pl b 2), .int .u64 (pl b 3), .int .u64 (pl b 4), .int .u64 (pl b 5), .int .u64 (pl b 6), .int .u64 (pl b 7), v, av], .agg #[.int .u64 (pl b2 0), .int .u64 (pl b2 1), .int .u64 (pl b2 2), .int .u64 (pl b2 3), .int .u64 (pl b2 4), .int .u64 (pl b2 5), .int .u64 (pl b2 6), .int .u64 (pl b2 7), v2, av2]] w (Rets w) := by
 cases hg : begunM b l g with
 | inl x => exact (Merge_bad1 hg b2 _ _ w Hv Hav).mono fun e w2 h => ⟨⟨_, h.1⟩, h.2⟩
 | inr s =>
  cases hh : begunM b2 l2 h with
  | inl x => exact (Merge_bad2 hg hh w Hv Hav Hv2 Hav2).mono fun e w2 h => ⟨⟨_, h.1⟩, h.2⟩
  | inr s2 =>
   cases e1 : samePat b l b2 l2 with
   | false =>
    exact (Merge_e b b2 _ _ _ _ 43 rfl w (Lib.hid fun w' hb => (together_good hg hh w' (Hv.mono hb) (Hav.mono hb) (Hv2.mono hb) (Hav2.mono hb) false e1).mono fun e w2 h => by obtain ⟨bp, bq, rfl, _, _, h⟩ := h; exact ⟨⟨_, _, rfl⟩, h⟩)).mono fun e w2 h => ⟨⟨_, h.1⟩, h.2⟩
   | true =>
    obtain ⟨rfl, rfl⟩ := samePat_eq e1
    obtain ⟨t, R, _⟩ := Runs.of hg
    obtain ⟨t2, R2, _⟩ := Runs.of hh
    have h14 := hg14 s hg
    have := hlen h14
    exact (Merge_any R R2 (by omega) w Hv Hav Hv2 Hav2).mono fun e w2 h => by obtain ⟨B, L, M, E, p, n, c, q, k, d, rfl, _, _, h⟩ := h; exact ⟨⟨_, rfl⟩, h⟩
end Go.Proofs.YtccnkebkgegohaaGreatDoor
end
section
namespace Go.Proofs.YtccnkebkgegohaaGreatDoor
open Go.RowKit Go.Rel
set_option maxRecDepth 100000
/-! what stays when results are overwritten -/
/-- a row of memory that may be written -/
structure Wk (W : World) (lo hi : Nat) (e : TypeId) (size : Nat) (q : Option Addr) (k cap : Nat) : Prop where
 here : 0 < k → ∃ g cur, q = some ⟨g, 0, none⟩ ∧ (lo ≤ g ∧ g < hi) ∧ Blk W g cur e ∧ cur.size = cap * size ∧ k ≤ cap
theorem Wk.of {W : World} {lo hi : Nat} {e : TypeId} {size : Nat} {q : Option Addr} {k cap : Nat} {xs : List Value} (h : W.ownsRow lo e size (.slice q k cap) k xs) (hh : ∀ g, (Value.slice q k cap).ownBlock = some g → g < hi) : Wk W lo hi e size q k cap := ⟨fun hk => by
 rcases h.2 with ⟨hv, h0⟩ | ⟨g, cap', cur, hv, hb, hg, hnc, hcm, hcs, _⟩
 ·omega
 ·injection hv with h1 h2 h3
  subst h1
  subst h3
  exact ⟨g, cur, rfl, ⟨hb, hh g rfl⟩, hg, hcs, hnc⟩⟩
theorem Wk.set {W : World} {lo hi : Nat} {e e' : TypeId} {size : Nat} {q : Option Addr} {k cap g : Nat} {cur c' : Array Value} (H : Wk W lo hi e size q k cap) (hb : Blk W g cur e') (hc : c'.size = cur.size) : Wk (W.setRow g c') lo hi e size q k cap := ⟨fun hk => by
 obtain ⟨g2, cur2, hq, hr, hb2, hs, hle⟩ := H.here hk
 by_cases hg : g2 = g
 ·subst hg
  have h1 : (some (Obj.cells cur2 e (0, 0)) : Option Obj) = some (Obj.cells cur e' (0, 0)) := by
   unfold Blk at hb hb2
   rw [← hb2, hb]
  injection h1 with h1
  injection h1 with h2 h3
  subst h2
  exact ⟨g2, c', hq, hr, hb2.rowS _, by rw [hc]; exact hs, hle⟩
 ·exact ⟨g2, cur2, hq, hr, hb2.rowO _ (by omega), hs, hle⟩⟩
/-- a history in memory of its own, between two heights -/
structure Pt (W : World) (lo hi : Nat) (pv av : Value) (l : List Sol) (m : List Ac) : Prop where
 s : OwnS W lo pv l
 a : OwnA W lo av m
 hs : ∀ k, pv.ownBlock = some k → k < hi
 ha : ∀ k, av.ownBlock = some k → k < hi
theorem own_row_other {W : World} {lo : Nat} {e : TypeId} {size : Nat} {v : Value} {n : Nat} {xs : List Value} (h : W.ownsRow lo e size v n xs) {g : Nat} (hg : v.ownBlock ≠ some g) (c : Array Value) : (W.setRow g c).ownsRow lo e size v n xs := by
 obtain ⟨hl, h | ⟨g2, cap, cur, hv, hb, hh, hr⟩⟩ := h
 ·exact ⟨hl, .inl h⟩
 ·exact ⟨hl, .inr ⟨g2, cap, cur, hv, hb, (setRow_other W g g2 c (fun e => hg (by rw [hv, e]; rfl))).trans hh, hr⟩⟩
theorem Pt.set {W : World} {lo hi g : Nat} {pv av : Value} {l : List Sol} {m : List Ac} (H : Pt W lo hi pv av l m) (hg : g < lo ∨ hi ≤ g) (c : Array Value) : Pt (W.setRow g c) lo hi pv av l m :=
 ⟨own_row_other H.s (fun e => by have h1 := H.hs g e; have h2 := (H.s.lt g e).1; omega) c, own_row_other H.a (fun e => by have h1 := H.ha g e; have h2 := (H.a.lt g e).1; omega) c, H.hs, H.ha⟩
theorem Pt.grow {W W' : World} {lo hi : Nat} {pv av : Value} {l : List Sol} {m : List Ac} (H : Pt W lo hi pv av l m) (hb : Below W.heap.size W W') : Pt W' lo hi pv av l m := ⟨own_grow H.s hb, own_grow H.a hb, H.hs, H.ha⟩
theorem Wk.grow {W W' : World} {lo hi : Nat} {e : TypeId} {size : Nat} {q : Option Addr} {k cap : Nat} (H : Wk W lo hi e size q k cap) (hb : Below W.heap.size W W') : Wk W' lo hi e size q k cap := ⟨fun hk => by
 obtain ⟨g2, cur2, hq, hr, hb2, hs, hle⟩ := H.here hk
 exact ⟨g2, cur2, hq, hr, hb2.grow hb, hs, hle⟩⟩
/-- all that the law of memory knows while it overwrites what Act and Reduced have told -/
structure St (w : World) (B : Sol) (hv av : Value) (l : List Sol) (m : List Ac) (a : Ac) (b5 : Nat) (pc ac : Value) (S1 b6 : Nat) (B1 : Sol) (q1 : Option Addr) (n1 c1 : Nat) (r1 : Option Addr) (k1 d1 : Nat) (b8 : Nat) (B2 : Sol) (p2 a2 : Value) (L2 : List Sol) (M2 : List Ac) (b10 : Nat) (B3 : Sol) (q3 : Option Addr) (n3 c3 : Nat) (r3 : Option Addr) (k3 d3 : Nat) (W : World) : Prop where
 bel : Below w.heap.size w W
 ord : w.heap.size + 1 < b5 ∧ b5 < S1 ∧ S1 ≤ b6 ∧ b6 < b8 ∧ b8 < b10
 g0 : Blk W w.heap.size #[.int .u64 (pl B 0), .int .u64 (pl B 1), .int .u64 (pl B 2), .int .u64 (pl B 3), .int .u64 (pl B 4), .int .u64 (pl B 5), .int .u64 (pl B 6), .int .u64 (pl B 7), hv, av] 30
 g3 : Blk W (w.heap.size + 1) #[.int .u8 a.1, .int .i64 a.2.1, .int .u64 (pl a.2.2 0), .int .u64 (pl a.2.2 1), .int .u64 (pl a.2.2 2), .int .u64 (pl a.2.2 3), .int .u64 (pl a.2.2 4), .int .u64 (pl a.2.2 5), .int .u64 (pl a.2.2 6), .int .u64 (pl a.2.2 7)] 46
 g5 : Blk W b5 #[.int .u64 (pl B 0), .int .u64 (pl B 1), .int .u64 (pl B 2), .int .u64 (pl B 3), .int .u64 (pl B 4), .int .u64 (pl B 5), .int .u64 (pl B 6), .int .u64 (pl B 7), pc, ac] 30
 cp : Pt W (w.heap.size + 1 + 1) S1 pc ac l m
 g6 : Blk W b6 #[.int .u64 (pl B1 0), .int .u64 (pl B1 1), .int .u64 (pl B1 2), .int .u64 (pl B1 3), .int .u64 (pl B1 4), .int .u64 (pl B1 5), .int .u64 (pl B1 6), .int .u64 (pl B1 7), .slice q1 n1 c1, .slice r1 k1 d1] 30
 ws1 : Wk W S1 b6 24 8 q1 n1 c1
 wa1 : Wk W S1 b6 46 10 r1 k1 d1
 g8 : Blk W b8 #[.int .u64 (pl B2 0), .int .u64 (pl B2 1), .int .u64 (pl B2 2), .int .u64 (pl B2 3), .int .u64 (pl B2 4), .int .u64 (pl B2 5), .int .u64 (pl B2 6), .int .u64 (pl B2 7), p2, a2] 30
 tw : Pt W (b6 + 1) b8 p2 a2 L2 M2
 g10 : Blk W b10 #[.int .u64 (pl B3 0), .int .u64 (pl B3 1), .int .u64 (pl B3 2), .int .u64 (pl B3 3), .int .u64 (pl B3 4), .int .u64 (pl B3 5), .int .u64 (pl B3 6), .int .u64 (pl B3 7), .slice q3 n3 c3, .slice r3 k3 d3] 30
 ws3 : Wk W (b8 + 1) b10 24 8 q3 n3 c3
 wa3 : Wk W (b8 + 1) b10 46 10 r3 k3 d3
section
variable {w : World} {B : Sol} {hv av : Value} {l : List Sol} {m : List Ac} {a : Ac} {b5 : Nat} {pc ac : Value} {S1 b6 : Nat} {B1 : Sol} {q1 : Option Addr} {n1 c1 : Nat} {r1 : Option Addr} {k1 d1 : Nat} {b8 : Nat} {B2 : Sol} {p2 a2 : Value} {L2 : List Sol} {M2 : List Ac} {b10 : Nat} {B3 : Sol} {q3 : Option Addr} {n3 c3 : Nat} {r3 : Option Addr} {k3 d3 : Nat} {W : World}
theorem St.set (H : St w B hv av l m a b5 pc ac S1 b6 B1 q1 n1 c1 r1 k1 d1 b8 B2 p2 a2 L2 M2 b10 B3 q3 n3 c3 r3 k3 d3 W) {g : Nat} {e : TypeId} {cur c' : Array Value} (hb : Blk W g cur e) (hg : (S1 ≤ g ∧ g < b6) ∨ (b8 + 1 ≤ g ∧ g < b10)) (hc : c'.size = cur.size) : St w B hv av l m a b5 pc ac S1 b6 B1 q1 n1 c1 r1 k1 d1 b8 B2 p2 a2 L2 M2 b10 B3 q3 n3 c3 r3 k3 d3 (W.setRow g c') := by
 have ho := H.ord
 exact ⟨blw_row H.bel (by omega) _, ho, H.g0.rowO _ (by omega), H.g3.rowO _ (by omega), H.g5.rowO _ (by omega), H.cp.set (by omega) _, H.g6.rowO _ (by omega), H.ws1.set hb hc, H.wa1.set hb hc, H.g8.rowO _ (by omega), H.tw.set (by omega) _, H.g10.rowO _ (by omega), H.ws3.set hb hc, H.wa3.set hb hc⟩
theorem St.grow {W' : World} (H : St w B hv av l m a b5 pc ac S1 b6 B1 q1 n1 c1 r1 k1 d1 b8 B2 p2 a2 L2 M2 b10 B3 q3 n3 c3 r3 k3 d3 W) (hb : Below W.heap.size W W') : St w B hv av l m a b5 pc ac S1 b6 B1 q1 n1 c1 r1 k1 d1 b8 B2 p2 a2 L2 M2 b10 B3 q3 n3 c3 r3 k3 d3 W' :=
 ⟨bel_trans H.bel hb, H.ord, H.g0.grow hb, H.g3.grow hb, H.g5.grow hb, H.cp.grow hb, H.g6.grow hb, H.ws1.grow hb, H.wa1.grow hb, H.g8.grow hb, H.tw.grow hb, H.g10.grow hb, H.ws3.grow hb, H.wa3.grow hb⟩
end
end Go.Proofs.YtccnkebkgegohaaGreatDoor
end
