import Derived.Test.YtccnkebkgegohaaGreatDoorG23
import Derived.Laws.IdiomStrings
import Derived.Deep.Cut
/-
  Given contracts of functions of the program, and laws for them, one behind the other.
-/
set_option linter.unusedVariables false
set_option linter.unusedSimpArgs false
set_option linter.unusedSectionVars false
section
namespace Go.Proofs.YtccnkebkgegohaaGreatDoor
open Go.RowKit Go.Rel
set_option maxRecDepth 100000
set_option maxHeartbeats 8000000 in
theorem Merge_good {blank : Sol} {v av : Value} {l : List Sol} {acts : List Ac} {s : Stn} (h : begunM blank l acts = .inr s) {v2 av2 : Value} {acts2 : List Ac} {s2 : Stn} (h2 : begunM blank l acts2 = .inr s2) {m : List Ac} (hm : mergeM l acts acts2 = some m) {s3 : Stn} (h3 : begunM blank l m = .inr s3) (w : World) (Hv : SlS w v l) (Hav : SlA w av acts) (Hv2 : SlS w v2 l) (Hav2 : SlA w av2 acts2) :
    Calls Tryz.prog 26 #[.agg #[.int .u64 (pl blank 0), .int .u64 (pl blank 1), .int .u64 (pl blank 2), .int .u64 (pl blank 3), .int .u64 (pl blank 4), .int .u64 (pl blank 5), .int .u64 (pl blank 6), .int .u64 (pl blank 7), v, av], .agg #[.int .u64 (pl blank 0), .int .u64 (pl blank 1), .int .u64 (pl blank 2), .int .u64 (pl blank 3), .int .u64 (pl blank 4), .int .u64 (pl blank 5), .int .u64 (pl blank 6), .int .u64 (pl blank 7), v2, av2]] w fun e w' => ∃ pv bv, e = .returned (.tuple #[.agg #[.int .u64 (pl blank 0), .int .u64 (pl blank 1), .int .u64 (pl blank 2), .int .u64 (pl blank 3), .int .u64 (pl blank 4), .int .u64 (pl blank 5), .int .u64 (pl blank 6), .int .u64 (pl blank 7), pv, bv], .int .i64 0]) ∧ OwnS w' w.heap.size pv l ∧ OwnA w' w.heap.size bv (normalM l m) ∧ Below w.heap.size w w' := by
  have hc : conflictM l (leastA l acts (beyondM l acts l acts2).2.1) (leastA l acts2 (beyondM l acts l acts2).2.2) = none := by
    unfold mergeM at hm
    split at hm
    · cases hm
    · next h => exact h
  have HME : Hid (m = catM [(Value.bool false, (beyondM l acts l acts2).1), (Value.bool false, leastA l acts (beyondM l acts l acts2).2.1), (Value.bool false, leastA l acts2 (beyondM l acts l acts2).2.2)]) := Lib.hid (by
    unfold mergeM at hm
    rw [hc] at hm
    rw [← Option.some.inj hm]
    simp [catM])
  have HCF : Hid (conflR (conflictM l (leastA l acts (beyondM l acts l acts2).2.1) (leastA l acts2 (beyondM l acts l acts2).2.2)) = .tuple #[.agg zeroA, .agg zeroA, .bool false]) := Lib.hid (by rw [hc]; rfl)
  clear hc hm
  have H := Lib.hid fun w' (hb : Below w.heap.size w w') => together_good h h2 w' (Hv.mono hb) (Hav.mono hb) (Hv2.mono hb) (Hav2.mono hb) true (by simp [samePat])
  rw [if_pos rfl] at H
  have hg := begunM_good h
  have hg2 := begunM_good h2
  have h8 := chkPat_ok hg.1
  have hn := hg.2.1
  have hn2 := hg2.2.1
  have HBK := Lib.hid (beyondM_ok l acts l acts2)
  have HFT : Hid ((∀ a ∈ leastA l acts (beyondM l acts l acts2).2.1, fits l.length a = true) ∧ (∀ a ∈ leastA l acts2 (beyondM l acts l acts2).2.2, fits l.length a = true)) := Lib.hid
    ⟨fun a ha => runM_fits hg.2.2 a (actsAt_mem (fun i hi => HBK.out.a i (leastI_mem _ _ i hi)) a ha), fun a ha => runM_fits hg2.2.2 a (actsAt_mem (fun i hi => HBK.out.b i (leastI_mem _ _ i hi)) a ha)⟩
  have HV := Lib.hid (And.intro Hv (And.intro Hav (And.intro Hv2 Hav2)))
  have hla60 : (beyondM l acts l acts2).2.1.length ≤ 60 := Nat.le_trans HBK.out.la hn
  have hlb60 : (beyondM l acts l acts2).2.2.length ≤ 60 := Nat.le_trans HBK.out.lb hn2
  have HL1 : Hid ((leastA l acts (beyondM l acts l acts2).2.1).length ≤ 60) := Lib.hid (by unfold leastA; rw [List.length_map]; exact Nat.le_trans (leastI_len _ _) hla60)
  have HL2 : Hid ((leastA l acts2 (beyondM l acts l acts2).2.2).length ≤ 60) := Lib.hid (by unfold leastA; rw [List.length_map]; exact Nat.le_trans (leastI_len _ _) hlb60)
  clear h h2 Hv Hav Hv2 Hav2 hg hg2
  go_enter Tryz.func26, Tryz.ntmps26
  go_wp2_with fail
  refine (H.out _ (by repeat (first | with_reducible exact bel_refl _ | with_reducible assumption | with_reducible refine bel_drewN ?_ _ | with_reducible refine bel_drew ?_ | with_reducible refine bel_alloc ?_ _ | with_reducible refine bel_row ?_ ?_ _ | with_reducible refine bel_set ?_ ?_ _ | refine bel_trans ?_ (by with_reducible assumption) | (simp; done) | (simp; omega)))).mono ?_
  rintro e w1 ⟨bp, bq, rfl, hP, hQ, hb⟩
  have b1 : Blk w1 (w.heap.size + 1 + 1) #[.int .u64 0, .int .u64 0, .int .u64 0, .int .u64 0, .int .u64 0, .int .u64 0, .int .u64 0, .int .u64 0, .slice none 0 0, .slice none 0 0] 30 := Blk.grow (by repeat (first | with_reducible assumption | (refine Blk.at _ _ ?_; (simp; done)) | with_reducible refine Blk.alloc ?_ _ | with_reducible refine Blk.drew ?_ | with_reducible refine Blk.rowS ?_ _ | with_reducible refine Blk.rowO ?_ _ (by simp))) hb
  have hB1 : Below w.heap.size w w1 := bel_trans (by repeat (first | with_reducible exact bel_refl _ | with_reducible assumption | with_reducible refine bel_drewN ?_ _ | with_reducible refine bel_drew ?_ | with_reducible refine bel_alloc ?_ _ | with_reducible refine bel_row ?_ ?_ _ | with_reducible refine bel_set ?_ ?_ _ | refine bel_trans ?_ (by with_reducible assumption) | (simp; done) | (simp; omega))) hb
  have HPQ := Lib.hid (And.intro hP hQ); clear hP hQ hb H
  have hs1 := b1.lt
  go_wp2_with fail
  refine (beyond_spec w1 HPQ.out.1 HPQ.out.2 (HV.out.2.1.mono hB1) (HV.out.2.2.2.mono hB1) hn hn2).mono ?_
  rintro e w2 ⟨uc, ua, ub, rfl, oc, oa, ob, hb2⟩
  have hB2 : Below w.heap.size w w2 := bel_trans hB1 hb2
  have b2 := b1.grow hb2
  have HO2 : Hid (OwnA w2 w1.heap.size uc (beyondM l acts l acts2).1 ∧ OwnI w2 w1.heap.size ua (beyondM l acts l acts2).2.1 ∧ OwnI w2 w1.heap.size ub (beyondM l acts l acts2).2.2) := Lib.hid ⟨oc, oa, ob⟩
  have HP2 := Lib.hid (And.intro (HPQ.out.1.grow hb2) (HPQ.out.2.grow hb2))
  have hs2 := hb2.size
  clear oc oa ob hb2 b1
  go_wp2_with fail
  refine (least_spec w2 HP2.out.1 (HV.out.2.1.mono hB2) hn ua (beyondM l acts l acts2).2.1 HO2.out.2.1.sl HBK.out.a hla60).mono ?_
  rintro e w3 ⟨u1, rfl, o1, hb3⟩
  have hB3 : Below w.heap.size w w3 := bel_trans hB2 hb3
  have b3 := b2.grow hb3
  have HO3 : Hid (OwnA w3 w1.heap.size uc (beyondM l acts l acts2).1 ∧ OwnI w3 w1.heap.size ub (beyondM l acts l acts2).2.2 ∧ OwnA w3 w2.heap.size u1 (leastA l acts (beyondM l acts l acts2).2.1)) := Lib.hid ⟨own_grow HO2.out.1 hb3, own_grow HO2.out.2.2 hb3, o1⟩
  have HP3 := Lib.hid (And.intro (HP2.out.1.grow hb3) (HP2.out.2.grow hb3))
  have hs3 := hb3.size
  clear o1 hb3 b2
  go_wp2_with fail
  refine (least_spec w3 HP3.out.2 (HV.out.2.2.2.mono hB3) hn2 ub (beyondM l acts l acts2).2.2 HO3.out.2.1.sl HBK.out.b hlb60).mono ?_
  rintro e w4 ⟨u2, rfl, o2, hb4⟩
  have hB4 : Below w.heap.size w w4 := bel_trans hB3 hb4
  have b4 := b3.grow hb4
  have HO4 : Hid (OwnA w4 w1.heap.size uc (beyondM l acts l acts2).1 ∧ OwnA w4 w2.heap.size u1 (leastA l acts (beyondM l acts l acts2).2.1) ∧ OwnA w4 w3.heap.size u2 (leastA l acts2 (beyondM l acts l acts2).2.2)) := Lib.hid ⟨own_grow HO3.out.1 hb4, own_grow HO3.out.2.2 hb4, o2⟩
  have HP4 := Lib.hid (And.intro (HP3.out.1.grow hb4) (HP3.out.2.grow hb4))
  have hs4 := hb4.size
  clear o2 hb4 b3
  go_wp2_with fail
  refine (conflict_spec w4 HP4.out.1 (HV.out.1.mono hB4) h8 u1 u2 _ _ HO4.out.2.1.sl HO4.out.2.2.sl HFT.out.1 HFT.out.2).mono ?_
  rintro e w5 ⟨rfl, hb5⟩
  have hB5 : Below w.heap.size w w5 := bel_trans hB4 hb5
  have b5 := b4.grow hb5
  have HO5 : Hid (OwnA w5 w1.heap.size uc (beyondM l acts l acts2).1 ∧ OwnA w5 w2.heap.size u1 (leastA l acts (beyondM l acts l acts2).2.1) ∧ OwnA w5 w3.heap.size u2 (leastA l acts2 (beyondM l acts l acts2).2.2)) := Lib.hid ⟨own_grow HO4.out.1 hb5, own_grow HO4.out.2.1 hb5, own_grow HO4.out.2.2 hb5⟩
  have HP5 := Lib.hid (And.intro (HP4.out.1.grow hb5) (HP4.out.2.grow hb5))
  have hs5 := hb5.size
  clear hb5 b4
  rw [HCF.out]
  have hlc : ((beyondM l acts l acts2).1).length ≤ 60 := Nat.le_trans HBK.out.lc hn
  have hl1 := HL1.out
  have hl2 := HL2.out
  obtain ⟨w6, hw6⟩ : ∃ w6 : World, w6 = ((w5.alloc (.cells zeroA 46)).alloc (.cells zeroA 46)).alloc (.cells #[uc, u1, u2] 28) := ⟨_, rfl⟩
  have hb6 : Below w5.heap.size w5 w6 := by subst hw6; exact bel_alloc (bel_alloc (bel_alloc (bel_refl _) _) _) _
  have hblk : Blk w6 (w5.heap.size + 1 + 1) #[uc, u1, u2] 28 := by subst hw6; exact Blk.new2 _ _ _ _ _
  have HC6 := Lib.hid (Concat_spec _ [(uc, (beyondM l acts l acts2).1), (u1, leastA l acts (beyondM l acts l acts2).2.1), (u2, leastA l acts2 (beyondM l acts l acts2).2.2)] w6 (three_sl hblk _ _ _) (fun p hp => by
    simp at hp
    rcases hp with rfl | rfl | rfl
    · exact (HO5.out.1.sln).mono hb6
    · exact (HO5.out.2.1.sln).mono hb6
    · exact (HO5.out.2.2.sln).mono hb6) (by simp [catM]; omega))
  have hB6 : Below w.heap.size w w6 := bel_trans hB5 hb6
  have b6 := b5.grow hb6
  have HP6 := Lib.hid (HP5.out.1.grow hb6)
  have hs6 := hb6.size
  have HW6 := Lib.hid hw6
  refine Veil.out ?_
  obtain ⟨pc, cc, rfl, _, _⟩ := own_shape' HO5.out.1
  obtain ⟨pc1, cc1, rfl, _, _⟩ := own_shape' HO5.out.2.1
  obtain ⟨pc2, cc2, rfl, _, _⟩ := own_shape' HO5.out.2.2
  refine Veil.on ?_
  have HML : Hid (m.length ≤ 1048576 ∧ m = catM [(Value.slice pc (beyondM l acts l acts2).1.length cc, (beyondM l acts l acts2).1), (.slice pc1 (leastA l acts (beyondM l acts l acts2).2.1).length cc1, leastA l acts (beyondM l acts l acts2).2.1), (.slice pc2 (leastA l acts2 (beyondM l acts l acts2).2.2).length cc2, leastA l acts2 (beyondM l acts l acts2).2.2)]) := Lib.hid ⟨by rw [HME.out]; simp [catM]; omega, by rw [HME.out]; rfl⟩
  clear hw6 hb6 hblk hlc hl1 hl2 b5 hla60 hlb60
  go_wp2_with fail
  rw [← HW6.out]
  refine HC6.out.mono ?_
  rintro e w7 ⟨u7, rfl, o7, hb7⟩
  have hB7 : Below w.heap.size w w7 := bel_trans hB6 hb7
  have b7 := b6.grow hb7
  have HP7 := Lib.hid (HP6.out.grow hb7)
  have hs7 := hb7.size
  have HO7 : Hid (OwnA w7 w6.heap.size u7 m) := Lib.hid (by rw [HML.out.2]; exact o7)
  clear o7 hb7 b6
  go_wp2_with fail
  refine (with_spec w7 HP7.out (HV.out.1.mono hB7) h8 u7 m HO7.out.sl HML.out.1).mono ?_
  rintro e w8 ⟨pv8, bv8, rfl, hS8, hA8, hb8⟩
  have hB8 : Below w.heap.size w w8 := bel_trans hB7 hb8
  have b8 := b7.grow hb8
  have hs8 := hb8.size
  have HN8 := Lib.hid (And.intro hS8 hA8)
  clear hS8 hA8 hb8 b7
  go_wp2_with fail
  refine (Normal_good h3 w8 HN8.out.1.sl HN8.out.2.sl).mono ?_
  rintro e w9 ⟨pv9, bv9, rfl, hS9, hA9, hb9⟩
  have hB9 : Below w.heap.size w w9 := bel_trans hB8 hb9
  have b9 := b8.grow hb9
  have hs9 := hb9.size
  have HS9 := Lib.hid (And.intro hS9 hA9)
  refine Veil.out ?_
  obtain ⟨p, c, hp, _, _⟩ := own_shape' hS9
  obtain ⟨p', c', hp', _, _⟩ := own_shape' hA9
  subst hp
  subst hp'
  refine Veil.on ?_
  clear hS9 hA9 hb9 b8
  have r1 := b9.row
  rw [← b9.rw]
  clear b9
  go_wp2_with fail
  refine bodyPost_ret (by simp [results, Tryz.results26, go_sem, *]) rfl ⟨_, _, rfl, own_weak (own_row (bp := w.heap.size + 1 + 1) HS9.out.1 (by omega) _) (by omega), own_weak (own_row (bp := w.heap.size + 1 + 1) HS9.out.2 (by omega) _) (by omega), blw_row hB9 (by omega) _⟩
set_option maxHeartbeats 8000000 in
theorem Merge_bad {blank : Sol} {v av : Value} {l : List Sol} {acts : List Ac} {s : Stn} (h : begunM blank l acts = .inr s) {v2 av2 : Value} {acts2 : List Ac} {s2 : Stn} (h2 : begunM blank l acts2 = .inr s2) {m : List Ac} (hm : mergeM l acts acts2 = some m) {x : Nat × Int} (h3 : begunM blank l m = .inl x) (w : World) (Hv : SlS w v l) (Hav : SlA w av acts) (Hv2 : SlS w v2 l) (Hav2 : SlA w av2 acts2) :
    Calls Tryz.prog 26 #[.agg #[.int .u64 (pl blank 0), .int .u64 (pl blank 1), .int .u64 (pl blank 2), .int .u64 (pl blank 3), .int .u64 (pl blank 4), .int .u64 (pl blank 5), .int .u64 (pl blank 6), .int .u64 (pl blank 7), v, av], .agg #[.int .u64 (pl blank 0), .int .u64 (pl blank 1), .int .u64 (pl blank 2), .int .u64 (pl blank 3), .int .u64 (pl blank 4), .int .u64 (pl blank 5), .int .u64 (pl blank 6), .int .u64 (pl blank 7), v2, av2]] w fun e w' => e = .returned (.tuple #[.agg #[.int .u64 0, .int .u64 0, .int .u64 0, .int .u64 0, .int .u64 0, .int .u64 0, .int .u64 0, .int .u64 0, .slice none 0 0, .slice none 0 0], .int .i64 x.2]) ∧ Below w.heap.size w w' := by
  have hc : conflictM l (leastA l acts (beyondM l acts l acts2).2.1) (leastA l acts2 (beyondM l acts l acts2).2.2) = none := by
    unfold mergeM at hm
    split at hm
    · cases hm
    · next h => exact h
  have HME : Hid (m = catM [(Value.bool false, (beyondM l acts l acts2).1), (Value.bool false, leastA l acts (beyondM l acts l acts2).2.1), (Value.bool false, leastA l acts2 (beyondM l acts l acts2).2.2)]) := Lib.hid (by
    unfold mergeM at hm
    rw [hc] at hm
    rw [← Option.some.inj hm]
    simp [catM])
  have HCF : Hid (conflR (conflictM l (leastA l acts (beyondM l acts l acts2).2.1) (leastA l acts2 (beyondM l acts l acts2).2.2)) = .tuple #[.agg zeroA, .agg zeroA, .bool false]) := Lib.hid (by rw [hc]; rfl)
  clear hc hm
  have H := Lib.hid fun w' (hb : Below w.heap.size w w') => together_good h h2 w' (Hv.mono hb) (Hav.mono hb) (Hv2.mono hb) (Hav2.mono hb) true (by simp [samePat])
  rw [if_pos rfl] at H
  have hg := begunM_good h
  have hg2 := begunM_good h2
  have h8 := chkPat_ok hg.1
  have hn := hg.2.1
  have hn2 := hg2.2.1
  have HBK := Lib.hid (beyondM_ok l acts l acts2)
  have HFT : Hid ((∀ a ∈ leastA l acts (beyondM l acts l acts2).2.1, fits l.length a = true) ∧ (∀ a ∈ leastA l acts2 (beyondM l acts l acts2).2.2, fits l.length a = true)) := Lib.hid
    ⟨fun a ha => runM_fits hg.2.2 a (actsAt_mem (fun i hi => HBK.out.a i (leastI_mem _ _ i hi)) a ha), fun a ha => runM_fits hg2.2.2 a (actsAt_mem (fun i hi => HBK.out.b i (leastI_mem _ _ i hi)) a ha)⟩
  have HV := Lib.hid (And.intro Hv (And.intro Hav (And.intro Hv2 Hav2)))
  have hla60 : (beyondM l acts l acts2).2.1.length ≤ 60 := Nat.le_trans HBK.out.la hn
  have hlb60 : (beyondM l acts l acts2).2.2.length ≤ 60 := Nat.le_trans HBK.out.lb hn2
  have HL1 : Hid ((leastA l acts (beyondM l acts l acts2).2.1).length ≤ 60) := Lib.hid (by unfold leastA; rw [List.length_map]; exact Nat.le_trans (leastI_len _ _) hla60)
  have HL2 : Hid ((leastA l acts2 (beyondM l acts l acts2).2.2).length ≤ 60) := Lib.hid (by unfold leastA; rw [List.length_map]; exact Nat.le_trans (leastI_len _ _) hlb60)
  clear h h2 Hv Hav Hv2 Hav2 hg hg2
  go_enter Tryz.func26, Tryz.ntmps26
  go_wp2_with fail
  refine (H.out _ (by repeat (first | with_reducible exact bel_refl _ | with_reducible assumption | with_reducible refine bel_drewN ?_ _ | with_reducible refine bel_drew ?_ | with_reducible refine bel_alloc ?_ _ | with_reducible refine bel_row ?_ ?_ _ | with_reducible refine bel_set ?_ ?_ _ | refine bel_trans ?_ (by with_reducible assumption) | (simp; done) | (simp; omega)))).mono ?_
  rintro e w1 ⟨bp, bq, rfl, hP, hQ, hb⟩
  have b1 : Blk w1 (w.heap.size + 1 + 1) #[.int .u64 0, .int .u64 0, .int .u64 0, .int .u64 0, .int .u64 0, .int .u64 0, .int .u64 0, .int .u64 0, .slice none 0 0, .slice none 0 0] 30 := Blk.grow (by repeat (first | with_reducible assumption | (refine Blk.at _ _ ?_; (simp; done)) | with_reducible refine Blk.alloc ?_ _ | with_reducible refine Blk.drew ?_ | with_reducible refine Blk.rowS ?_ _ | with_reducible refine Blk.rowO ?_ _ (by simp))) hb
  have hB1 : Below w.heap.size w w1 := bel_trans (by repeat (first | with_reducible exact bel_refl _ | with_reducible assumption | with_reducible refine bel_drewN ?_ _ | with_reducible refine bel_drew ?_ | with_reducible refine bel_alloc ?_ _ | with_reducible refine bel_row ?_ ?_ _ | with_reducible refine bel_set ?_ ?_ _ | refine bel_trans ?_ (by with_reducible assumption) | (simp; done) | (simp; omega))) hb
  have HPQ := Lib.hid (And.intro hP hQ); clear hP hQ hb H
  have hs1 := b1.lt
  go_wp2_with fail
  refine (beyond_spec w1 HPQ.out.1 HPQ.out.2 (HV.out.2.1.mono hB1) (HV.out.2.2.2.mono hB1) hn hn2).mono ?_
  rintro e w2 ⟨uc, ua, ub, rfl, oc, oa, ob, hb2⟩
  have hB2 : Below w.heap.size w w2 := bel_trans hB1 hb2
  have b2 := b1.grow hb2
  have HO2 : Hid (OwnA w2 w1.heap.size uc (beyondM l acts l acts2).1 ∧ OwnI w2 w1.heap.size ua (beyondM l acts l acts2).2.1 ∧ OwnI w2 w1.heap.size ub (beyondM l acts l acts2).2.2) := Lib.hid ⟨oc, oa, ob⟩
  have HP2 := Lib.hid (And.intro (HPQ.out.1.grow hb2) (HPQ.out.2.grow hb2))
  have hs2 := hb2.size
  clear oc oa ob hb2 b1
  go_wp2_with fail
  refine (least_spec w2 HP2.out.1 (HV.out.2.1.mono hB2) hn ua (beyondM l acts l acts2).2.1 HO2.out.2.1.sl HBK.out.a hla60).mono ?_
  rintro e w3 ⟨u1, rfl, o1, hb3⟩
  have hB3 : Below w.heap.size w w3 := bel_trans hB2 hb3
  have b3 := b2.grow hb3
  have HO3 : Hid (OwnA w3 w1.heap.size uc (beyondM l acts l acts2).1 ∧ OwnI w3 w1.heap.size ub (beyondM l acts l acts2).2.2 ∧ OwnA w3 w2.heap.size u1 (leastA l acts (beyondM l acts l acts2).2.1)) := Lib.hid ⟨own_grow HO2.out.1 hb3, own_grow HO2.out.2.2 hb3, o1⟩
  have HP3 := Lib.hid (And.intro (HP2.out.1.grow hb3) (HP2.out.2.grow hb3))
  have hs3 := hb3.size
  clear o1 hb3 b2
  go_wp2_with fail
  refine (least_spec w3 HP3.out.2 (HV.out.2.2.2.mono hB3) hn2 ub (beyondM l acts l acts2).2.2 HO3.out.2.1.sl HBK.out.b hlb60).mono ?_
  rintro e w4 ⟨u2, rfl, o2, hb4⟩
  have hB4 : Below w.heap.size w w4 := bel_trans hB3 hb4
  have b4 := b3.grow hb4
  have HO4 : Hid (OwnA w4 w1.heap.size uc (beyondM l acts l acts2).1 ∧ OwnA w4 w2.heap.size u1 (leastA l acts (beyondM l acts l acts2).2.1) ∧ OwnA w4 w3.heap.size u2 (leastA l acts2 (beyondM l acts l acts2).2.2)) := Lib.hid ⟨own_grow HO3.out.1 hb4, own_grow HO3.out.2.2 hb4, o2⟩
  have HP4 := Lib.hid (And.intro (HP3.out.1.grow hb4) (HP3.out.2.grow hb4))
  have hs4 := hb4.size
  clear o2 hb4 b3
  go_wp2_with fail
  refine (conflict_spec w4 HP4.out.1 (HV.out.1.mono hB4) h8 u1 u2 _ _ HO4.out.2.1.sl HO4.out.2.2.sl HFT.out.1 HFT.out.2).mono ?_
  rintro e w5 ⟨rfl, hb5⟩
  have hB5 : Below w.heap.size w w5 := bel_trans hB4 hb5
  have b5 := b4.grow hb5
  have HO5 : Hid (OwnA w5 w1.heap.size uc (beyondM l acts l acts2).1 ∧ OwnA w5 w2.heap.size u1 (leastA l acts (beyondM l acts l acts2).2.1) ∧ OwnA w5 w3.heap.size u2 (leastA l acts2 (beyondM l acts l acts2).2.2)) := Lib.hid ⟨own_grow HO4.out.1 hb5, own_grow HO4.out.2.1 hb5, own_grow HO4.out.2.2 hb5⟩
  have HP5 := Lib.hid (And.intro (HP4.out.1.grow hb5) (HP4.out.2.grow hb5))
  have hs5 := hb5.size
  clear hb5 b4
  rw [HCF.out]
  have hlc : ((beyondM l acts l acts2).1).length ≤ 60 := Nat.le_trans HBK.out.lc hn
  have hl1 := HL1.out
  have hl2 := HL2.out
  obtain ⟨w6, hw6⟩ : ∃ w6 : World, w6 = ((w5.alloc (.cells zeroA 46)).alloc (.cells zeroA 46)).alloc (.cells #[uc, u1, u2] 28) := ⟨_, rfl⟩
  have hb6 : Below w5.heap.size w5 w6 := by subst hw6; exact bel_alloc (bel_alloc (bel_alloc (bel_refl _) _) _) _
  have hblk : Blk w6 (w5.heap.size + 1 + 1) #[uc, u1, u2] 28 := by subst hw6; exact Blk.new2 _ _ _ _ _
  have HC6 := Lib.hid (Concat_spec _ [(uc, (beyondM l acts l acts2).1), (u1, leastA l acts (beyondM l acts l acts2).2.1), (u2, leastA l acts2 (beyondM l acts l acts2).2.2)] w6 (three_sl hblk _ _ _) (fun p hp => by
    simp at hp
    rcases hp with rfl | rfl | rfl
    · exact (HO5.out.1.sln).mono hb6
    · exact (HO5.out.2.1.sln).mono hb6
    · exact (HO5.out.2.2.sln).mono hb6) (by simp [catM]; omega))
  have hB6 : Below w.heap.size w w6 := bel_trans hB5 hb6
  have b6 := b5.grow hb6
  have HP6 := Lib.hid (HP5.out.1.grow hb6)
  have hs6 := hb6.size
  have HW6 := Lib.hid hw6
  refine Veil.out ?_
  obtain ⟨pc, cc, rfl, _, _⟩ := own_shape' HO5.out.1
  obtain ⟨pc1, cc1, rfl, _, _⟩ := own_shape' HO5.out.2.1
  obtain ⟨pc2, cc2, rfl, _, _⟩ := own_shape' HO5.out.2.2
  refine Veil.on ?_
  have HML : Hid (m.length ≤ 1048576 ∧ m = catM [(Value.slice pc (beyondM l acts l acts2).1.length cc, (beyondM l acts l acts2).1), (.slice pc1 (leastA l acts (beyondM l acts l acts2).2.1).length cc1, leastA l acts (beyondM l acts l acts2).2.1), (.slice pc2 (leastA l acts2 (beyondM l acts l acts2).2.2).length cc2, leastA l acts2 (beyondM l acts l acts2).2.2)]) := Lib.hid ⟨by rw [HME.out]; simp [catM]; omega, by rw [HME.out]; rfl⟩
  clear hw6 hb6 hblk hlc hl1 hl2 b5 hla60 hlb60
  go_wp2_with fail
  rw [← HW6.out]
  refine HC6.out.mono ?_
  rintro e w7 ⟨u7, rfl, o7, hb7⟩
  have hB7 : Below w.heap.size w w7 := bel_trans hB6 hb7
  have b7 := b6.grow hb7
  have HP7 := Lib.hid (HP6.out.grow hb7)
  have hs7 := hb7.size
  have HO7 : Hid (OwnA w7 w6.heap.size u7 m) := Lib.hid (by rw [HML.out.2]; exact o7)
  clear o7 hb7 b6
  go_wp2_with fail
  refine (with_spec w7 HP7.out (HV.out.1.mono hB7) h8 u7 m HO7.out.sl HML.out.1).mono ?_
  rintro e w8 ⟨pv8, bv8, rfl, hS8, hA8, hb8⟩
  have hB8 : Below w.heap.size w w8 := bel_trans hB7 hb8
  have b8 := b7.grow hb8
  have hs8 := hb8.size
  have HN8 := Lib.hid (And.intro hS8 hA8)
  clear hS8 hA8 hb8 b7
  go_wp2_with fail
  refine (Normal_bad h3 w8 HN8.out.1.sl HN8.out.2.sl).mono ?_
  rintro e w9 ⟨rfl, hb9⟩
  have hB9 : Below w.heap.size w w9 := bel_trans hB8 hb9
  have b9 := b8.grow hb9
  have r1 := b9.row
  rw [← b9.rw]
  clear b9 b8 hb9
  go_wp2_with fail
  refine bodyPost_ret (by simp [results, Tryz.results26, go_sem, *]) rfl ⟨rfl, blw_row hB9 (by omega) _⟩
end Go.Proofs.YtccnkebkgegohaaGreatDoor
end
section
namespace Go.Proofs.YtccnkebkgegohaaGreatDoor
open Go.RowKit Go.Rel
set_option maxRecDepth 100000
theorem pow2_16 (w : World) : Calls Tryz.prog 243 #[.int .i64 16] w fun e w' => e = .returned (.bool true) ∧ w' = w := by
  go_enter Tryz.func243, Tryz.ntmps243
  go_wp2_with fail
  go_ret
  exact ⟨rfl, rfl⟩
theorem tz64_16 (w : World) (hT : w.cell? ⟨5, 15, none⟩ = some (.int .u8 4)) : Calls Tryz.prog 255 #[.int .u64 16] w fun e w' => e = .returned (.int .i64 4) ∧ w' = w := by
  have e1 : IntKind.u64.wrap (-16) = 18446744073709551600 := by kernel_rfl
  have e2 : bits .and .u64 16 18446744073709551600 = 16 := by kernel_rfl
  have e3 : IntKind.u64.wrap (16 * 285870213051353865) = 4573923408821661840 := by kernel_rfl
  go_enter Tryz.func255, Tryz.ntmps255
  go_wp2_with fail
  go_ret
  exact ⟨rfl, rfl⟩
theorem tz_16 (w : World) (hT : w.cell? ⟨5, 15, none⟩ = some (.int .u8 4)) : Calls Tryz.prog 244 #[.int .u64 16] w fun e w' => e = .returned (.int .i64 4) ∧ w' = w := by
  have H := Lib.hid (tz64_16 w hT)
  clear hT
  go_enter Tryz.func244, Tryz.ntmps244
  go_wp2_with fail
  refine H.out.mono ?_
  rintro e w' ⟨rfl, rfl⟩
  go_wp2_with fail
  go_ret
  exact ⟨rfl, rfl⟩
/-! hexadecimal digits -/
def hexD (d : Nat) : UInt8 := if d < 10 then UInt8.ofNat (48 + d) else UInt8.ofNat (87 + d)
/-- the digits of a number below 16 ^ n -/
def hexN : Nat → Nat → List UInt8
  | 0, u => [hexD (u % 16)]
  | n + 1, u => if u < 16 then [hexD u] else hexN n (u / 16) ++ [hexD (u % 16)]
def hexS (u : Nat) : List UInt8 := hexN 16 u
theorem hexN_more : ∀ (n u : Nat), u < 16 ^ (n + 1) → hexN (n + 1) u = hexN n u
  | 0, u, h => by
    have : u < 16 := by simpa using h
    simp [hexN, this, Nat.mod_eq_of_lt this]
  | n + 1, u, h => by
    have h' : u / 16 < 16 ^ (n + 1) := by rw [Nat.div_lt_iff_lt_mul (by decide)]; rw [Nat.pow_succ] at h; exact h
    rw [hexN]
    split
    · next h1 => rw [hexN, if_pos h1]
    · next h1 =>
      rw [hexN_more n _ h', hexN.eq_2, if_neg h1]
theorem hexN_len : ∀ (n u : Nat), (hexN n u).length ≤ n + 1
  | 0, u => by simp [hexN]
  | n + 1, u => by
    unfold hexN
    split
    · simp
    · have := hexN_len n (u / 16)
      simp; omega
theorem hexS_step {u : Nat} (h : 16 ≤ u) (hu : u < 18446744073709551616) : hexS u = hexS (u / 16) ++ [hexD (u % 16)] := by
  unfold hexS
  have h' : u / 16 < 16 ^ (15 + 1) := by
    have : (16 : Nat) ^ (15 + 1) = 18446744073709551616 := by decide
    omega
  rw [hexN, if_neg (by omega), hexN_more 15 _ h']
theorem hexS_small {u : Nat} (h : u < 16) : hexS u = [hexD u] := by
  unfold hexS; rw [hexN, if_pos h]
end Go.Proofs.YtccnkebkgegohaaGreatDoor
end
section
namespace Go.Proofs.YtccnkebkgegohaaGreatDoor
open Go.RowKit Go.Rel
set_option maxRecDepth 100000
abbrev digitsS : ByteArray := ⟨#[48, 49, 50, 51, 52, 53, 54, 55, 56, 57, 97, 98, 99, 100, 101, 102, 103, 104, 105, 106, 107, 108, 109, 110, 111, 112, 113, 114, 115, 116, 117, 118, 119, 120, 121, 122]⟩
theorem digit_run (r : Nat) (hr : r < 16) (W : World) : (Instr.index 9 (.string digitsS) (.int .u64 r)).run Tryz.prog W = .ok (.int .u8 ((hexD r).toNat : Int)) W := by
  obtain rfl | rfl | rfl | rfl | rfl | rfl | rfl | rfl | rfl | rfl | rfl | rfl | rfl | rfl | rfl | rfl : r = 0 ∨ r = 1 ∨ r = 2 ∨ r = 3 ∨ r = 4 ∨ r = 5 ∨ r = 6 ∨ r = 7 ∨ r = 8 ∨ r = 9 ∨ r = 10 ∨ r = 11 ∨ r = 12 ∨ r = 13 ∨ r = 14 ∨ r = 15 := by omega
  all_goals kernel_rfl
theorem and15 (q : Nat) : bits .and .u64 (q : Int) 15 = ((q % 16 : Nat) : Int) := by
  show IntKind.u64.wrap ((BitVec.ofInt 64 (q : Int) &&& BitVec.ofInt 64 15).toNat : Int) = _
  rw [BitVec.ofInt_natCast]
  have e : (BitVec.ofNat 64 q &&& BitVec.ofInt 64 15).toNat = q % 16 := by
    rw [BitVec.toNat_and]
    have : (BitVec.ofInt 64 15).toNat = 2 ^ 4 - 1 := by decide
    rw [this, Nat.and_two_pow_sub_one_eq_mod, BitVec.toNat_ofNat]
    omega
  rw [e]
  exact IntWalk.u64_in _ (by omega)
theorem zero275 : (Tryz.zeroCells275).size = 65 := by kernel_rfl
/-- the last cells of the array hold these bytes -/
def Tail (cu : Array Value) (L : List UInt8) : Prop := cu.size = 65 ∧ L.length ≤ 65 ∧ ∀ j (h : j < L.length), cu[65 - L.length + j]? = some (.int .u8 ((L[j]).toNat : Int))
theorem Tail.cons {cu : Array Value} {L : List UInt8} (h : Tail cu L) (hl : L.length < 65) (b : UInt8) {i : Nat} (hi : i + L.length + 1 = 65) : Tail (cu.setIfInBounds i (.int .u8 (b.toNat : Int))) (b :: L) := by
  obtain ⟨h1, h2, h3⟩ := h
  refine ⟨by simpa using h1, by simp; omega, fun j hj => ?_⟩
  simp only [List.length_cons] at hj ⊢
  rw [Array.getElem?_setIfInBounds]
  rcases j with _ | j
  · rw [if_pos (by omega), if_pos (by omega)]; rfl
  · rw [if_neg (by omega)]
    have := h3 j (by omega)
    rw [show 65 - (L.length + 1) + (j + 1) = 65 - L.length + j by omega, this]
    rfl
set_option maxHeartbeats 8000000 in
theorem formatBits_hex (u : Nat) (hu : u < 18446744073709551616) (w : World) (hT : w.cell? ⟨5, 15, none⟩ = some (.int .u8 4)) :
    Calls Tryz.prog 227 #[.slice none 0 0, .int .u64 u, .int .i64 16, .bool false, .bool false] w fun e w' => e = .returned (.tuple #[.slice none 0 0, .string ⟨(hexS u).toArray⟩]) ∧ Below w.heap.size w w' := by
  have hlen := hexN_len 16 u
  have HLEN : Hid ((hexS u).length ≤ 17) := Lib.hid hlen
  have HU := Lib.hid hu
  have l5 := block_lt_of_cell hT
  have HT : Hid (∀ W, Below w.heap.size w W → Calls Tryz.prog 244 #[.int .u64 16] W fun e w' => e = .returned (.int .i64 4) ∧ w' = W) := Lib.hid fun W hb => tz_16 W ((hb.cell (p := ⟨5, 15, none⟩) l5).trans hT)
  generalize hs : hexS u = S at *
  have HS := Lib.hid hs
  clear hlen hT hs hu l5
  go_enter Tryz.func227, Tryz.ntmps227
  go_wp2_with fail
  obtain ⟨w0, hw0⟩ : ∃ w0 : World, w0 = w.alloc (.cells Tryz.zeroCells275 275) := ⟨_, rfl⟩
  have hB0 : Below w.heap.size w w0 := by subst hw0; exact bel_alloc (bel_refl _) _
  have hk0 : Blk w0 w.heap.size Tryz.zeroCells275 275 := by subst hw0; exact Blk.new _ _ _
  rw [← hw0]
  clear hw0
  have HK := Lib.hid (And.intro hB0 hk0); clear hB0 hk0
  refine (pow2_16 w0).mono ?_
  rintro e w' ⟨rfl, rfl⟩
  go_wp2_with fail
  refine (HT.out w' HK.out.1).mono ?_
  rintro e w1 ⟨rfl, rfl⟩
  go_wp2_with fail
  go_loopw [1, 13] (fun x y wr => ∃ (q i : Nat) (L : List UInt8) (cu : Array Value), x = .int .u64 q ∧ y = .int .i64 i ∧ Hid (S = hexS q ++ L) ∧ i + L.length = 65 ∧ q < 18446744073709551616 ∧ Hid (Tail cu L) ∧ Blk wr w.heap.size cu 275 ∧ Below w.heap.size w wr) (fun x _ _ => (intOf x).toNat)
  case atStart => exact ⟨u, 65, [], _, rfl, rfl, Lib.hid (by simp [HS.out]), rfl, HU.out, Lib.hid ⟨zero275, by simp, fun j hj => by simp at hj⟩, HK.out.2, HK.out.1⟩
  case round =>
    obtain ⟨q, i, L, cu, rfl, rfl, hSL, hi, hq, hTl, hB, hbel⟩ := hrel
    have hL17 : L.length ≤ 16 := by
      have h1 := HLEN.out
      rw [hSL.out, List.length_append] at h1
      have h2 : 0 < (hexS q).length := by
        by_cases h16 : q < 16
        · rw [hexS_small h16]; simp
        · rw [hexS_step (by omega) hq]; simp
      omega
    obtain ⟨i', rfl⟩ : ∃ i', i = i' + 1 := ⟨i - 1, by omega⟩
    have hcell : wr.cell? ⟨w.heap.size, i', none⟩ = some (cu[i']'(by have := hTl.out.1; omega)) := by
      rw [hB.cell]; simp
    have hfree := hB.free i'
    have hlt := hB.lt
    generalize cu[i']'_ = cv at hcell
    have hi65 : i' < 65 := by omega
    by_cases h16 : 16 ≤ q
    · have hand := and15 q
      have hix := digit_run (q % 16) (by omega)
      have HST := Lib.hid (hexS_step h16 hq)
      have HH := Lib.hid (And.intro hB (And.intro hbel hi))
      have hq16 : (q : Int) / 16 = ((q / 16 : Nat) : Int) := by omega
      have HQ := Lib.hid hq16; clear hq16
      generalize hr : q % 16 = r at *
      clear hr hB hbel hi
      go_wp2_with fail
      go_roundw
      case rel => exact ⟨q / 16, i', hexD r :: L, cu.setIfInBounds i' (.int .u8 ((hexD r).toNat : Int)), by rw [HQ.out], rfl, Lib.hid (by rw [hSL.out, HST.out]; simp), by have := HH.out.2.2; simp; omega, by omega, Lib.hid (hTl.out.cons (by omega) _ (by have := HH.out.2.2; omega)), HH.out.1.set i' _, HH.out.2.1.setCell (by simp) _⟩
      case measure => simp [intOf]; omega
    · have hq16 : q < 16 := by omega
      have hix := digit_run q hq16
      have HFS : Hid (S = hexD q :: L) := Lib.hid (by rw [hSL.out, hexS_small hq16]; rfl)
      have HH := Lib.hid (And.intro hB (And.intro hbel hi))
      clear hB hbel hi
      go_upto_region 30 with (fail)
      obtain ⟨w2, hw2⟩ : ∃ w2 : World, w2 = wr.setCell ⟨w.heap.size, i', none⟩ (.int .u8 ((hexD q).toNat : Int)) := ⟨_, rfl⟩
      have hB2 : Below w.heap.size w w2 := by subst hw2; exact HH.out.2.1.setCell (by simp) _
      have hk2 : Blk w2 w.heap.size (cu.setIfInBounds i' (.int .u8 ((hexD q).toNat : Int))) 275 := by subst hw2; exact HH.out.1.set i' _
      rw [← hw2]
      have hT2 := hTl.out.cons (by omega) (hexD q) (show i' + L.length + 1 = 65 by have := HH.out.2.2; omega)
      have hcv := run_convert_bytes_back (P := Tryz.prog) w2 72 9 5 ⟨w.heap.size, i', none⟩ (65 - i') (hexD q :: L) Tryz.underlying72 Tryz.underlying5 Tryz.underlying9 (fun j hj => by
        rw [Addr.add_lit, hk2.cell]
        have h3 := hT2.2.2 j hj
        rw [← h3]
        congr 1
        have := HH.out.2.2
        simp only [List.length_cons]
        omega)
      have hle : (hexD q :: L).length = 65 - i' := by have := HH.out.2.2; simp; omega
      rw [hle] at hcv
      have hal : Tryz.prog.arrayLen 275 = 65 := by kernel_rfl
      have hse : ∀ W, (sizeOf (Tryz.prog.elem 275)).run Tryz.prog W = .ok 1 W := fun W => by kernel_rfl
      have hsa : (Instr.sliceAt 275 (.pointer (some ⟨w.heap.size, 0, none⟩)) (some (.int .i64 i')) none none).run Tryz.prog w2 = .ok (.slice (some ⟨w.heap.size, i', none⟩) (65 - i') (65 - i')) w2 := by
        rw [run_sliceAt_array_l w2 275 ⟨w.heap.size, 0, none⟩ (by kernel_rfl) .i64 i' (by omega) (by rw [hal]; omega), hse, hal]
        simp only [Result.andThen_ok, slicedAt]
        rw [if_neg (by have := HH.out.2.2; simp; omega), Addr.add_lit]
        simp
      clear hal hse
      have HB2 := Lib.hid hB2
      clear hw2 hT2 hk2 hB2 hcell hfree hlt hle hL17
      go_wp2_with fail
      refine bodyPost_ret (v := .tuple #[.slice none 0 0, .string ⟨(hexD q :: L).toArray⟩]) (by simp [results, Tryz.results227, go_sem]) rfl ⟨by rw [HFS.out], HB2.out⟩
end Go.Proofs.YtccnkebkgegohaaGreatDoor
end
section
namespace Go.Proofs.YtccnkebkgegohaaGreatDoor
open Go.RowKit Go.Rel
set_option maxRecDepth 100000
set_option maxHeartbeats 2000000 in
theorem FormatUintI (u : Nat) (hu : u < 18446744073709551616) (w : World) (hT : w.cell? ⟨5, 15, none⟩ = some (.int .u8 4)) :
    Calls Tryz.prog 205 #[.int .u64 u, .int .i64 16] w fun e w' => e = .returned (.string ⟨(hexS u).toArray⟩) ∧ Below w.heap.size w w' := by
  have H := Lib.hid (formatBits_hex u hu w hT)
  clear hT hu
  go_enter Tryz.func205, Tryz.ntmps205
  go_wp2_with fail
  refine H.out.mono ?_
  rintro e w1 ⟨rfl, hb⟩
  go_wp2_with fail
  go_ret
  exact ⟨rfl, hb⟩
set_option maxHeartbeats 2000000 in
theorem FormatUint16 (u : Nat) (hu : u < 18446744073709551616) (w : World) (hT : w.cell? ⟨5, 15, none⟩ = some (.int .u8 4)) :
    Calls Tryz.prog 172 #[.int .u64 u, .int .i64 16] w fun e w' => e = .returned (.string ⟨(hexS u).toArray⟩) ∧ Below w.heap.size w w' := by
  have H := Lib.hid (FormatUintI u hu w hT)
  clear hT hu
  go_enter Tryz.func172, Tryz.ntmps172
  go_wp2_with fail
  refine H.out.mono ?_
  rintro e w1 ⟨rfl, hb⟩
  go_wp2_with fail
  go_ret
  exact ⟨rfl, hb⟩
theorem idx24 (s : Sol) (k : Nat) (hk : k < 8) (W : World) : (Instr.index 24 (.agg #[.int .u64 (pl s 0), .int .u64 (pl s 1), .int .u64 (pl s 2), .int .u64 (pl s 3), .int .u64 (pl s 4), .int .u64 (pl s 5), .int .u64 (pl s 6), .int .u64 (pl s 7)]) (.int .i64 k)).run Tryz.prog W = .ok (.int .u64 (pl s k)) W := by
  obtain rfl | rfl | rfl | rfl | rfl | rfl | rfl | rfl : k = 0 ∨ k = 1 ∨ k = 2 ∨ k = 3 ∨ k = 4 ∨ k = 5 ∨ k = 6 ∨ k = 7 := by omega
  all_goals kernel_rfl
/-- the planes, as numbers -/
def plN (s : Sol) (k : Nat) : Nat := (plv s k).toNat
theorem plN_lt (s : Sol) (k : Nat) : plN s k < 18446744073709551616 := by unfold plN; have := (plv s k).isLt; omega
theorem pl_plN (s : Sol) (k : Nat) : pl s k = ((plN s k : Nat) : Int) := by unfold pl plN; rfl
def hexV (s : Sol) (k : Nat) : Value := .string ⟨(hexS (plN s k)).toArray⟩
theorem info9 : (Tryz.prog.info? 9).map (fun i => (i.zero, i.size, i.bytes)) = some (some (.string ⟨#[]⟩), 1, 16) := by kernel_rfl
theorem range_snoc {α : Type} (f : Nat → α) (k : Nat) : (List.range (k + 1)).map f = (List.range k).map f ++ [f k] := by rw [List.range_succ, List.map_append]; rfl
set_option maxHeartbeats 2000000 in
theorem Join_one (g cap : Nat) (b sep : ByteArray) (w : World) (hc : w.cell? ⟨g, 0, none⟩ = some (.string b)) :
    Calls Tryz.prog 173 #[.slice (some ⟨g, 0, none⟩) 1 cap, .string sep] w fun e w' => e = .returned (.string b) ∧ Below w.heap.size w w' := by
  go_enter Tryz.func173, Tryz.ntmps173
  go_wp2_with fail
  go_ret
  exact ⟨rfl, Below.refl _ _⟩
set_option maxHeartbeats 8000000 in
theorem solidWrite_one (s : Sol) (hs : ∀ k, 1 ≤ k → k < 8 → plN s k = 0) (w : World) (hT : w.cell? ⟨5, 15, none⟩ = some (.int .u8 4)) :
    Calls Tryz.prog 132 #[.agg #[.int .u64 (pl s 0), .int .u64 (pl s 1), .int .u64 (pl s 2), .int .u64 (pl s 3), .int .u64 (pl s 4), .int .u64 (pl s 5), .int .u64 (pl s 6), .int .u64 (pl s 7)]] w fun e w' => e = .returned (hexV s 0) ∧ Below w.heap.size w w' := by
  have l5 := block_lt_of_cell hT
  have HF : Hid (∀ k W, Below w.heap.size w W → Calls Tryz.prog 172 #[.int .u64 (pl s k), .int .i64 16] W fun e w' => e = .returned (hexV s k) ∧ Below W.heap.size W w') := Lib.hid fun k W hb => by
    rw [pl_plN]; exact FormatUint16 _ (plN_lt s k) W ((hb.cell (p := ⟨5, 15, none⟩) l5).trans hT)
  have HIX := Lib.hid (idx24 s)
  obtain ⟨i9, hi, hz0, hz1, hz2⟩ := info_parts info9
  have HI9 := Lib.hid (And.intro hi (And.intro hz0 (And.intro hz1 hz2))); clear hi hz0 hz1 hz2
  have HZ : Hid (∀ k, 1 ≤ k → k < 8 → hexV s k = .string ⟨#[48]⟩) := Lib.hid fun k h1 h2 => by unfold hexV; rw [hs k h1 h2]; rfl
  have hv : ∀ k, ∃ b, hexV s k = .string b := fun k => ⟨_, rfl⟩
  have HVV := Lib.hid hv
  clear hT l5 hs hv
  generalize hexV s = hx at *
  go_enter Tryz.func132, Tryz.ntmps132
  go_wp2_with fail
  go_loopw [3, 7] (fun u y wr => ∃ k : Nat, k ≤ 8 ∧ y = .int .i64 k ∧ Hid (wr.ownsRow w.heap.size 9 1 u k ((List.range k).map hx)) ∧ Below w.heap.size w wr) (fun _ y _ => 8 - (intOf y).toNat)
  case atStart => exact ⟨0, by omega, rfl, Lib.hid (World.ownsRow_nil _ _ _ _), (by repeat (first | with_reducible exact bel_refl _ | with_reducible assumption | with_reducible refine bel_drewN ?_ _ | with_reducible refine bel_drew ?_ | with_reducible refine bel_alloc ?_ _ | with_reducible refine bel_row ?_ ?_ _ | with_reducible refine bel_set ?_ ?_ _ | refine bel_trans ?_ (by with_reducible assumption) | (simp; done) | (simp; omega)))⟩
  case round =>
    obtain ⟨k, hk, rfl, hO, hbel⟩ := hrel
    by_cases hlt : k < 8
    · have hix := HIX.out k hlt
      go_wp2_with fail
      refine (HF.out k wr hbel).mono ?_
      rintro e w1 ⟨rfl, hb1⟩
      have hbel1 : Below w.heap.size w w1 := bel_trans hbel hb1
      have HO1 := Lib.hid (own_grow hO.out hb1)
      have hsz := hbel1.size
      clear hb1 hbel
      obtain ⟨bs, hbs⟩ := HVV.out k
      have HBS := Lib.hid hbs
      rw [hbs]
      clear hbs
      go_wp2_with (first
        | (at_builtin; refine wpList_append_own _ rfl _ _ 163 rfl w.heap.size 9 i9 (.string ⟨#[]⟩) 1 16 Tryz.underlying163 HI9.out.1 HI9.out.2.1 HI9.out.2.2.1 HI9.out.2.2.2 rfl (by decide) _ _ _ rfl (HO1.out.alloc _) ⟨w1.heap.size, 0, none⟩ 1 1 [.string bs] rfl rfl (cell_one_new _ _ _) (fun x hx => by simp at hx; subst hx; rfl) (by unfold maxLen; omega) (by omega) (by simp; omega) ?_; intro v' w3 hown' hgrow3 hnil3))
      have hB3 : Below w.heap.size w w3 := (bel_alloc hbel1 _).grown hgrow3 (by simp; omega) (fun j hj => by have := (HO1.out.lt j hj).1; omega)
      have HO3 := Lib.hid (And.intro hown' hB3); clear hown' hgrow3 hnil3 hB3
      go_wp2_with fail
      go_roundw
      case rel => exact ⟨k + 1, by omega, by go_num, Lib.hid (by rw [range_snoc, HBS.out]; exact HO3.out.1), HO3.out.2⟩
      case measure => simp [intOf]; omega
    · have hk8 : k = 8 := by omega
      subst hk8
      have ho := hO.out
      refine Veil.out ?_
      obtain ⟨g, cap, cur, rfl, hcap, hcm, hcell⟩ : ∃ g cap cur, u3 = .slice (some ⟨g, 0, none⟩) 8 cap ∧ 8 ≤ cap ∧ cap ≤ 9223372036854775807 ∧ (Blk wr g cur 9 ∧ ∀ j, j < 8 → wr.cell? ⟨g, j, none⟩ = some (hx j)) := by
        rcases ho.2 with ⟨_, h0⟩ | ⟨g, cap, cur, e, hb, hg, hnc, hcm, hcs, ht⟩
        · omega
        · refine ⟨g, cap, cur, e, hnc, by unfold maxLen at hcm; omega, hg, fun j hj => ?_⟩
          rw [Blk.cell hg]
          have h1 : ((List.range 8).map hx)[j]? = some (hx j) := by simp [hj]
          rw [← ht, List.getElem?_take, if_pos (by omega)] at h1
          simpa using h1
      refine Veil.on ?_
      have lg := hcell.1.lt
      have HC := Lib.hid hcell.2
      have HB := Lib.hid hbel
      clear ho hO hcell hbel hlt hk
      go_wp2_with fail
      obtain ⟨w2, rfl⟩ : ∃ w2 : World, w2 = wr := ⟨_, rfl⟩
      go_loopw [3] (fun u wr => ∃ m : Nat, 1 ≤ m ∧ m ≤ 8 ∧ u = .slice (some ⟨g, 0, none⟩) m cap ∧ Below w.heap.size w wr ∧ g < wr.heap.size ∧ Hid (∀ j, j < 8 → wr.cell? ⟨g, j, none⟩ = some (hx j))) (fun u _ => sliceLen u)
      case atStart => exact ⟨8, by omega, by omega, rfl, HB.out, lg, HC⟩
      case round =>
        obtain ⟨m, h1, h8, rfl, hbel, lg, hC⟩ := hrel
        by_cases hm : m = 1
        · subst hm
          obtain ⟨b0, hb0⟩ := HVV.out 0
          have c0 := hC.out 0 (by omega)
          rw [hb0] at c0
          have HJ := Lib.hid (Join_one g cap b0 ⟨#[46]⟩ wr c0)
          have HBB := Lib.hid (And.intro hb0 hbel)
          clear hb0 c0 hbel
          go_wp2_with fail
          refine HJ.out.mono ?_
          rintro e w3 ⟨rfl, hb3⟩
          go_wp2_with fail
          go_ret
          exact ⟨congrArg Ending.returned HBB.out.1.symm, bel_trans HBB.out.2 hb3⟩
        · obtain ⟨m', rfl⟩ : ∃ m', m = m' + 1 + 1 := ⟨m - 2, by omega⟩
          have c0 := hC.out (m' + 1) (by omega)
          rw [HZ.out (m' + 1) (by omega) (by omega)] at c0
          have HBB := Lib.hid hbel
          clear hbel hm
          go_wp2_with fail
          go_roundw
          case rel => ((repeat apply Exists.intro); exact ⟨⟨m' + 1, by omega, by omega, rfl, HBB.out, lg, hC⟩, rfl⟩)
          case measure => simp [sliceLen]
end Go.Proofs.YtccnkebkgegohaaGreatDoor
end
