import Derived.Test.YtlbhjikkpbknnaaGreatDoorHQ20
/-
  Given contracts of functions of the program, and laws for them, one behind the other.
-/
set_option linter.unusedVariables false
set_option linter.unusedSimpArgs false
set_option linter.unusedSectionVars false
section
namespace Go.Proofs.YtlbhjikkpbknnaaGreatDoor
open Go.RowKit Go.Rel Go.Draw
set_option maxRecDepth 100000
/-! LeastLock of both -/
def llB (m : List Sol) : Bool := decide (errM m = 0) && (leastLockM m).isSome
def llL (m : List Sol) : List Int := if errM m = 0 then intsL (lockL m) else []
theorem LeastLock_n {w : World} {v : Value} {m : List Sol} (H : SlS w v m) (hT : Tab w) : Calls Tryz.prog 33 #[v] w fun e w' => ∃ u, e = .returned (.tuple #[u, .bool (llB m), .int .i64 (errM m)]) ∧ SlI w' u (llL m) ∧ Below w.heap.size w w' := by
 refine (LeastLock_spec H hT).mono ?_
 rintro e w2 ⟨hb, u, b, rfl, h0, h1⟩
 refine ⟨u, ?_, ?_, hb⟩
 ·congr 4
  unfold llB
  by_cases h : errM m = 0
  ·rw [(h0 h).1, decide_eq_true h]; rfl
  ·rw [(h1 h).1, decide_eq_false h]; rfl
 ·unfold llL
  by_cases h : errM m = 0
  ·rw [if_pos h]; exact (h0 h).2.sl
  ·rw [if_neg h, (h1 h).2]; exact sl_nil
theorem nums_at {n k : Nat} (h1 : 1 ≤ k) (h2 : k < 2 ^ n) : (numsL n).drop (k - 1) = BitVec.ofNat 64 k :: (numsL n).drop k := by
 have hl : (numsL n).length = 2 ^ n - 1 := by unfold numsL; simp
 have hk : k - 1 < (numsL n).length := by omega
 rw [List.drop_eq_getElem_cons hk, show k - 1 + 1 = k by omega]
 have : (numsL n)[k - 1]? = some (BitVec.ofNat 64 k) := by
  unfold numsL
  rw [List.getElem?_map, List.getElem?_range' (by omega)]
  show some (BitVec.ofNat 64 (1 + 1 * (k - 1))) = _
  rw [show 1 + 1 * (k - 1) = k by omega]
 rw [(List.getElem?_eq_some_iff.1 this).2]
theorem nums_end {n k : Nat} (h2 : 2 ^ n ≤ k) : (numsL n).drop (k - 1) = [] := by
 apply List.drop_eq_nil_of_le
 unfold numsL
 simp; omega
def bestV (wx : World) (b : Option U) (v : Value) : Prop := match b with
 | none => v = .slice none 0 0
 | some S => SlI wx v (intsL (listU S)) ∧ ∃ a n c, v = .slice (some a) n c
theorem bestV.mono {w w' : World} {b : Option U} {v : Value} (h : bestV w b v) (hb : Below w.heap.size w w') : bestV w' b v := by
 cases b with
 | none => exact h
 | some S => exact ⟨h.1.mono hb, h.2⟩
theorem own_some {w : World} {base : Nat} {v : Value} {S : U} (h : OwnI w base v (intsL (listU S))) (hS : S ≠ 0) : ∃ a n c, v = .slice (some a) n c := by
 rcases h.2 with ⟨_, h0⟩ | ⟨g, cap, cur, hv, _⟩
 ·rw [intsL_length] at h0
  exact absurd (listU_length_zero S h0) hS
 ·exact ⟨_, _, _, hv⟩
set_option maxHeartbeats 8000000 in
theorem refLeastLock_n {w : World} {v : Value} {m : List Sol} (H : SlS w v m) : Calls Tryz.prog 34 #[v] w fun e w' => ∃ u, e = .returned (.tuple #[u, .bool (llB m), .int .i64 (errM m)]) ∧ SlI w' u (llL m) ∧ Below w.heap.size w w' := by
  obtain ⟨R, hR⟩ : ∃ R, R = llL m := ⟨_, rfl⟩
  obtain ⟨B, hB⟩ : ∃ B, B = llB m := ⟨_, rfl⟩
  obtain ⟨F, hF⟩ : ∃ F, F = errM m := ⟨_, rfl⟩
  rw [← hR, ← hF, ← hB]
  unfold llL at hR
  unfold llB at hB
  have H1 := Lib.hid (refMould_spec H)
  rw [← hF] at H1 hR hB
  obtain ⟨ai, nn, c, rfl, hnn, hc, hcm⟩ := H.out
  subst hnn
  have HH := Lib.hid (And.intro H (And.intro hR (And.intro hF hB)))
  clear H hR hF hB
  have qE : ∀ (w : World) (a : Option Addr) (n c : Nat), (binOp .eql 23 (.slice a n c) (.slice none 0 0)).run Tryz.prog w = .ok (.bool a.isNone) w := fun w a n c => Go.Lib.run_eql_slice_nil w _ _ a n c 0 0 Tryz.underlying23
  have qN : ∀ (w : World) (a : Option Addr) (n c : Nat), (binOp .neq 23 (.slice a n c) (.slice none 0 0)).run Tryz.prog w = .ok (.bool (!a.isNone)) w := fun w a n c => run_neq_slice_nil_any w _ _ a n c 0 0 Tryz.underlying23
  go_enter Tryz.func34, Tryz.ntmps34
  go_wp2_with fail
  refine H1.out.mono ?_
  rintro e w2 ⟨rfl, hb2⟩
  have HB := Lib.hid hb2
  clear hb2
  by_cases hF0 : F = 0
  · obtain ⟨h12, hg⟩ := errM_zero.1 (HH.out.2.2.1.symm.trans hF0)
    have HQ := Lib.hid (And.intro h12 hg)
    have HWO := Lib.hid (WaysOf_spec (HH.out.1.mono HB.out) h12)
    have HE := Lib.hid hF0
    subst hF0
    clear h12 hg
    go_wp2_with fail
    refine HWO.out.mono ?_
    rintro e w4 ⟨hb4, mv, nv, rfl, hW⟩
    obtain ⟨bm, nm, cm, bn, nn, cn, rfl, rfl⟩ := hW.sls
    have H4 := Lib.hid (And.intro (bel_trans HB.out hb4) hW)
    clear hb4 hW HWO
    obtain ⟨n, hn⟩ : ∃ n, n = m.length := ⟨_, rfl⟩
    have hn12 : n ≤ 12 := by rw [hn]; exact HQ.out.1
    rw [← hn] at hc ⊢
    have HN := Lib.hid hn
    clear hn
    have em : min n 64 = n := Nat.min_eq_left (by omega)
    go_wp2_with fail
    obtain ⟨wb, hwb⟩ : ∃ wb, wb = w4.alloc (.cells #[.slice bm nm cm, .slice bn nn cn] 111) := ⟨_, rfl⟩
    have hb5 : Below w4.heap.size w4 wb := by subst hwb; exact bel_alloc (bel_refl _) _
    have hB5 : Blk wb w4.heap.size #[.slice bm nm cm, .slice bn nn cn] 111 := by subst hwb; exact Blk.new _ _ _
    rw [← hwb]
    obtain ⟨N0, hN0⟩ : ∃ N, N = w4.heap.size := ⟨_, rfl⟩
    rw [← hN0] at hB5 ⊢
    have H5 := Lib.hid (And.intro (bel_trans H4.out.1 hb5) (And.intro hB5 (H4.out.2.mono hb5)))
    clear hwb hb5 hB5 hN0
    have hp2 : 2 ^ n ≤ 4096 := Nat.le_trans (Nat.pow_le_pow_right (by omega) hn12) (by decide)
    obtain ⟨P, hP⟩ : ∃ P, P = 2 ^ n := ⟨_, rfl⟩
    have hp1 : 1 ≤ P := by rw [hP]; exact Nat.one_le_two_pow
    rw [← hP] at hp2
    have HP := Lib.hid hP
    have hw64 : wrap64 ((2 : Int) ^ n) = (P : Int) := by
      rw [hP, Int.natCast_pow]
      exact Go.IntWalk.wrap64_in _ (by have : ((2 : Int) ^ n) = ((2 ^ n : Nat) : Int) := by rw [Int.natCast_pow]; rfl
                                       omega)
    clear hP
    go_loopw [7, 8] (fun bv kv wx => ∃ (k : Nat) (b : Option U), 1 ≤ k ∧ k ≤ P ∧ kv = .int .i64 k ∧ Hid (bestF (locksM m) ((numsL n).drop (k - 1)) b = bestF (locksM m) (numsL n) none ∧ bestV wx b bv ∧ Below wb.heap.size wb wx)) (fun _ kv _ => P - (intOf kv).toNat)
    case atStart => exact ⟨1, none, Nat.le_refl _, hp1, rfl, Lib.hid ⟨rfl, rfl, Below.refl _ _⟩⟩
    case round =>
      obtain ⟨k, b, hk1, hkP, rfl, HI⟩ := hrel
      by_cases hlt : k < P
      · have hd : decide ((k : Int) < (P : Int)) = true := decide_eq_true (by omega)
        have hk4 : k < 4096 := by omega
        obtain ⟨S, hS⟩ : ∃ S, S = BitVec.ofNat 64 k := ⟨_, rfl⟩
        have hSn : S.toNat = k := by rw [hS, BitVec.toNat_ofNat]; omega
        have hS0 : S ≠ 0 := fun h => by rw [h] at hSn; have : (0 : U).toNat = 0 := rfl; omega
        have hSS : Sub S (allU m.length) := (sub_lt HQ.out.1 _).2 (by rw [hSn, ← HN.out, ← HP.out]; exact hlt)
        have hst := HI.out.1
        rw [nums_at hk1 (by rw [← HP.out]; exact hlt), ← hS] at hst
        have HST := Lib.hid (And.intro hst (And.intro hS0 hSS))
        have HSET := Lib.hid (setR_spec (w := wr) hk4)
        rw [← hS] at HSET
        clear hst hS hSn hS0 hSS hk4
        go_wp2_with fail
        refine HSET.out.mono ?_
        rintro e w6 ⟨hb6, o, rfl, ho⟩
        obtain ⟨ao, no, co, hoe⟩ := own_some ho HST.out.2.1
        have hso := ho.sl
        subst hoe
        have hbv6 := HI.out.2.1.mono hb6
        have hbw6 := bel_trans HI.out.2.2 hb6
        have B5 := H5.out.2.1.grow hbw6
        have c0 := B5.cell 0; have c1 := B5.cell 1; have l5 := B5.lt
        simp only [List.getElem?_toArray, List.getElem?_cons_zero, List.getElem?_cons_succ] at c0 c1
        have H6 := Lib.hid (And.intro hbw6 (And.intro hbv6 hso))
        have HLK := Lib.hid fun W (h : Below w6.heap.size w6 W) => lockedR_spec (a := ai) (n := n) (c := c) HN.out (H5.out.2.2.mono (bel_trans hbw6 h)) (hso.mono h) HQ.out.2 HQ.out.1 HST.out.2.2
        clear hb6 ho hso hbv6 hbw6 B5 HSET
        have c0W : Hid (∀ W, Below w6.heap.size w6 W → W.cell? ⟨N0, 0, none⟩ = some (.slice bm nm cm) ∧ W.cell? ⟨N0, 1, none⟩ = some (.slice bn nn cn) ∧ N0 < W.heap.size) := Lib.hid fun W h => ⟨((Grows.cells h).1 N0 0 l5).trans c0, ((Grows.cells h).1 N0 1 l5).trans c1, Nat.lt_of_lt_of_le l5 h.size⟩
        cases b with
        | none =>
          have hu : u7 = .slice none 0 0 := H6.out.2.1
          subst hu
          go_wp2_with fail
          refine (HLK.out w6 (Below.refl _ _)).mono ?_
          rintro e w7 ⟨hb7, rfl⟩
          have H7 := Lib.hid hb7
          clear hb7
          cases hlk : locksM m S
          · have HL := Lib.hid hlk; clear hlk
            go_wp2_with fail
            refine ⟨⟨k + 1, none, by omega, by omega, by simp, Lib.hid ⟨?_, rfl, bel_trans H6.out.1 H7.out⟩⟩, by simp [intOf]; omega⟩
            rw [← HST.out.1, bestF, HL.out]; rfl
          · have HL := Lib.hid hlk; clear hlk
            go_wp2_with fail
            refine ⟨⟨k + 1, some S, by omega, by omega, by simp, Lib.hid ⟨?_, ⟨H6.out.2.2.mono H7.out, _, _, _, rfl⟩, bel_trans H6.out.1 H7.out⟩⟩, by simp [intOf]; omega⟩
            rw [← HST.out.1, bestF, HL.out]; rfl
        | some t =>
          obtain ⟨hst2, at', nt, ct, hu⟩ := H6.out.2.1
          subst hu
          have HBF := Lib.hid (before_spec H6.out.2.2 hst2)
          clear hst2 c0 c1 l5
          go_wp2_with fail
          refine HBF.out.mono ?_
          rintro e w7 ⟨rfl, hb7⟩
          have H7 := Lib.hid hb7
          obtain ⟨c0, c1, l5⟩ := c0W.out w7 hb7
          clear hb7
          cases hbf : beforeL (listU S) (listU t)
          · have HBB := Lib.hid hbf; clear hbf
            go_wp2_with fail
            refine ⟨⟨k + 1, some t, by omega, by omega, by simp, Lib.hid ⟨?_, H6.out.2.1.mono H7.out, bel_trans H6.out.1 H7.out⟩⟩, by simp [intOf]; omega⟩
            rw [← HST.out.1, bestF]
            simp only [HBB.out]; rfl
          · have HBB := Lib.hid hbf; clear hbf
            go_wp2_with fail
            refine (HLK.out w7 H7.out).mono ?_
            rintro e w8 ⟨hb8, rfl⟩
            have H8 := Lib.hid (bel_trans H7.out hb8)
            clear hb8
            cases hlk : locksM m S
            · have HL := Lib.hid hlk; clear hlk
              go_wp2_with fail
              refine ⟨⟨k + 1, some t, by omega, by omega, by simp, Lib.hid ⟨?_, H6.out.2.1.mono H8.out, bel_trans H6.out.1 H8.out⟩⟩, by simp [intOf]; omega⟩
              rw [← HST.out.1, bestF, HL.out, Bool.and_false]; rfl
            · have HL := Lib.hid hlk; clear hlk
              go_wp2_with fail
              refine ⟨⟨k + 1, some S, by omega, by omega, by simp, Lib.hid ⟨?_, ⟨H6.out.2.2.mono H8.out, _, _, _, rfl⟩, bel_trans H6.out.1 H8.out⟩⟩, by simp [intOf]; omega⟩
              rw [← HST.out.1, bestF, HL.out]
              simp only [HBB.out]; rfl
      · have hd : decide ((k : Int) < (P : Int)) = false := decide_eq_false (by omega)
        have hfin := HI.out.1
        rw [nums_end (by rw [← HP.out]; omega), HN.out, leastLock_ref HQ.out.1] at hfin
        have HF := Lib.hid (show b = leastLockM m from hfin)
        clear hfin
        cases b with
        | none =>
          have hu : u7 = .slice none 0 0 := HI.out.2.1
          subst hu
          go_wp2_with fail
          refine bodyPost_ret (v := .tuple #[.slice none 0 0, .bool false, .int .i64 0]) (by simp [results, Tryz.results34, go_sem]) rfl ⟨.slice none 0 0, ?_, ?_, bel_trans H5.out.1 HI.out.2.2⟩
          · rw [HH.out.2.2.2, ← HF.out]; rfl
          · rw [HH.out.2.1, if_pos trivial]
            unfold lockL
            rw [← HF.out]; exact sl_nil
        | some t =>
          obtain ⟨hst2, at', nt, ct, hu⟩ := HI.out.2.1
          subst hu
          have H9 := Lib.hid hst2
          clear hst2
          go_wp2_with fail
          refine bodyPost_ret (v := .tuple #[.slice (some at') nt ct, .bool true, .int .i64 0]) (by simp [results, Tryz.results34, go_sem]) rfl ⟨.slice (some at') nt ct, ?_, ?_, bel_trans H5.out.1 HI.out.2.2⟩
          · rw [HH.out.2.2.2, ← HF.out]; rfl
          · rw [HH.out.2.1, if_pos trivial]
            unfold lockL
            rw [← HF.out]; exact H9.out
  · have h1 : ¬ (F = 0) := hF0
    go_wp2_with fail
    refine bodyPost_ret (v := .tuple #[.slice none 0 0, .bool false, .int .i64 F]) (by simp [results, Tryz.results34, go_sem]) rfl ⟨.slice none 0 0, ?_, ?_, HB.out⟩
    · rw [HH.out.2.2.2, decide_eq_false hF0]; rfl
    · rw [HH.out.2.1, if_neg hF0]; exact sl_nil
end Go.Proofs.YtlbhjikkpbknnaaGreatDoor
end
section
namespace Go.Proofs.YtlbhjikkpbknnaaGreatDoor
open Go.RowKit Go.Rel Go.Draw
set_option maxRecDepth 100000
/-! CheckOrder, CheckDraw, Draw of both -/
def chkB (m : List Sol) (ls : List MvI) : Bool := if errM m = 0 then (madeM m ls).isSome else false
theorem CheckOrder_n {w : World} {v lv : Value} {m : List Sol} {ls : List MvI} (H : SlS w v m) (HL : SlX w lv ls) : Calls Tryz.prog 43 #[v, lv] w fun e w' => e = .returned (.tuple #[.bool (chkB m ls), .int .i64 (errM m)]) ∧ Below w.heap.size w w' := by
 refine (CheckOrder_spec H HL).mono ?_
 rintro e w2 ⟨hb, b, rfl, h0, h1⟩
 refine ⟨?_, hb⟩
 congr 4
 unfold chkB
 by_cases h : errM m = 0
 ·rw [if_pos h, h0 h]
 ·rw [if_neg h, h1 h]
def cdB (m : List Sol) (ls : List MvI) : Bool := if errM m = 0 then decide (madeM m ls = some (allU m.length)) else false
theorem CheckDraw_n {w : World} {v lv : Value} {m : List Sol} {ls : List MvI} (H : SlS w v m) (HL : SlX w lv ls) : Calls Tryz.prog 41 #[v, lv] w fun e w' => e = .returned (.tuple #[.bool (cdB m ls), .int .i64 (errM m)]) ∧ Below w.heap.size w w' := by
 refine (CheckDraw_spec H HL).mono ?_
 rintro e w2 ⟨hb, b, rfl, h0, h1⟩
 refine ⟨?_, hb⟩
 congr 4
 unfold cdB
 by_cases h : errM m = 0
 ·have hbb : b = decide (madeM m ls = some (allU m.length)) := by rw [Bool.eq_iff_iff, h0 h]; simp
  rw [if_pos h, hbb]
 ·rw [if_neg h, h1 h]
theorem checkR_len {m : List Sol} : ∀ (l : List MvI) (g : List Nat), g.Nodup → (∀ i ∈ g, i < m.length) → checkR m l g = true → ∃ g' : List Nat, g'.Nodup ∧ (∀ i ∈ g', i < m.length) ∧ g'.length = g.length + l.length
 | [], g, hn, hl, _ => ⟨g, hn, hl, rfl⟩
 | x :: l, g, hn, hl, h => by
  rw [checkR] at h
  split at h
  ·rename_i hc
   simp only [Bool.and_eq_true, decide_eq_true_eq, Bool.not_eq_true'] at hc
   obtain ⟨g', h1, h2, h3⟩ := checkR_len l (g ++ [x.1.toNat]) (List.nodup_append.2 ⟨hn, by simp, fun a ha b hb => by
    simp at hb; subst hb
    intro he
    have := hc.1.2
    rw [List.contains_iff_mem.2 (he ▸ ha)] at this
    cases this⟩) (fun i hi => by
    rcases List.mem_append.1 hi with h' | h'
    ·exact hl i h'
    ·simp at h'; omega) h
   exact ⟨g', h1, h2, by rw [h3]; simp; omega⟩
  ·cases h
theorem mvI_at {ls : List MvI} {k : Nat} {x : MvI} (hx : ls[k]? = some x) (m : List Sol) (g : List Nat) : checkR m (ls.drop k) g = if (decide (0 ≤ x.1) && decide (x.1 < m.length) && isMoveI x.2.1 x.2.2) && !g.contains x.1.toNat && (standM m (intsL g) (natMv x)).isNone then checkR m (ls.drop (k + 1)) (g ++ [x.1.toNat]) else false := by
 rw [drop_atX hx]; rfl
set_option maxHeartbeats 16000000 in
theorem refCheckOrder_n {w : World} {v lv : Value} {m : List Sol} {ls : List MvI} (H : SlS w v m) (HL : SlX w lv ls) (hls : ls.length ≤ 1000) : Calls Tryz.prog 26 #[v, lv] w fun e w' => e = .returned (.tuple #[.bool (chkB m ls), .int .i64 (errM m)]) ∧ Below w.heap.size w w' := by
 obtain ⟨i0, hi, hz0, hz1, hz2⟩ := info_parts infoInt
 have HI0 := Lib.hid (And.intro hi (And.intro hz0 (And.intro hz1 hz2))); clear hi hz0 hz1 hz2
 obtain ⟨R, hR⟩ : ∃ R, R = chkB m ls := ⟨_, rfl⟩
 obtain ⟨F, hF⟩ : ∃ F, F = errM m := ⟨_, rfl⟩
 rw [← hR, ← hF]
 unfold chkB at hR
 have H1 := Lib.hid (refMould_spec H)
 rw [← hF] at H1 hR
 obtain ⟨ai, nn, c, rfl, hnn, hc, hcm⟩ := H.out
 subst hnn
 obtain ⟨bl, cl, rfl, hml, hcl⟩ := mvs_open HL
 have HH := Lib.hid (And.intro H (And.intro hcl (And.intro hR hF)))
 clear H HL hcl hR hF
 obtain ⟨K, hK⟩ : ∃ K, K = ls.length := ⟨_, rfl⟩
 rw [← hK] at hml hls ⊢
 have HK := Lib.hid hK
 clear hK
 go_enter Tryz.func26, Tryz.ntmps26
 go_wp2_with fail
 refine H1.out.mono ?_
 rintro e w2 ⟨rfl, hb2⟩
 have HB := Lib.hid hb2
 clear hb2
 by_cases hF0 : F = 0
 ·obtain ⟨h12, hg⟩ := errM_zero.1 (HH.out.2.2.2.symm.trans hF0)
  have HQ := Lib.hid (And.intro h12 hg)
  have hRR : R = checkR m ls [] := by
   rw [HH.out.2.2.1, if_pos hF0, check_ref (good_apart hg) h12 ls [] (fun i hi => by cases hi)]; rfl
  have HRR := Lib.hid hRR
  have HIM := Lib.hid fun W a b c => IsMove_spec (w := W) m.length a b c
  have HST := Lib.hid fun W (h : Below w.heap.size w W) gv (g : List Nat) (hgv : SlI W gv (intsL g)) (pa pb pc : Nat) h1 h2 h3 => Stand_spec (HH.out.1.mono h) hgv (x := (pa, pb, pc)) h1 h2 h3
  subst hF0
  clear h12 hg hRR
  obtain ⟨n, hn⟩ : ∃ n, n = m.length := ⟨_, rfl⟩
  rw [← hn] at HIM hc HST ⊢
  have HN := Lib.hid hn
  clear hn
  go_wp2_with fail
  go_loopw [7, 8] (fun gv iv wx => ∃ (k : Nat) (g : List Nat), k ≤ K ∧ iv = .int .i64 k ∧ Hid (R = checkR m (ls.drop k) g ∧ g.length ≤ k ∧ OwnI wx w.heap.size gv (intsL g) ∧ Below w.heap.size w wx)) (fun _ iv _ => K - (intOf iv).toNat)
  case atStart => exact ⟨0, [], Nat.zero_le _, rfl, Lib.hid ⟨HRR.out, Nat.le_refl _, World.ownsRow_nil _ _ _ _, HB.out⟩⟩
  case round =>
   obtain ⟨k, g, hk, rfl, HI⟩ := hrel
   by_cases hlt : k < K
   ·have hd : decide ((k : Int) < (K : Int)) = true := decide_eq_true (by omega)
    obtain ⟨x, hx⟩ : ∃ x, ls[k]? = some x := ⟨_, List.getElem?_eq_getElem (by rw [← HK.out]; exact hlt)⟩
    obtain ⟨ib, io, rfl, lib, hc1, hc2, hc3⟩ := HH.out.2.1 k x hx
    have HX := Lib.hid (mvI_at hx m g)
    obtain ⟨a, b, c3⟩ := x
    have HCC := Lib.hid fun W (h : Below w.heap.size w W) => (show W.cell? ⟨ib, io + k * 3, none⟩ = some (.int .i64 a) ∧ W.cell? ⟨ib, io + k * 3 + 1, none⟩ = some (.int .i64 b) ∧ W.cell? ⟨ib, io + k * 3 + 2, none⟩ = some (.int .i64 c3) ∧ ib < W.heap.size from ⟨((Grows.cells h).1 ib _ lib).trans hc1, ((Grows.cells h).1 ib _ lib).trans hc2, ((Grows.cells h).1 ib _ lib).trans hc3, Nat.lt_of_lt_of_le lib h.size⟩)
    clear hx hc1 hc2 hc3 lib
    obtain ⟨c0, c1, c2, lb⟩ := HCC.out wr HI.out.2.2.2
    have hgs : SlI wr u7 (intsL g) := HI.out.2.2.1.sl
    obtain ⟨p7, n7, c7, hu7⟩ := own_shapeN HI.out.2.2.1
    subst hu7
    have HGS := Lib.hid hgs
    clear hgs
    go_wp2_with fail
    refine (HIM.out wr a b c3).mono ?_
    rintro e w3 ⟨rfl, hb3⟩
    have H3 := Lib.hid (And.intro (bel_trans HI.out.2.2.2 hb3) (And.intro (own_bel HI.out.2.2.1 hb3) (HGS.out.mono hb3)))
    clear c0 c1 c2 lb hb3
    cases him : (decide (0 ≤ a) && decide (a < (n : Int)) && isMoveI b c3)
    ·have HM := Lib.hid (show R = false by
      rw [HI.out.1, HX.out, ← HN.out, him]; rfl)
     clear him
     go_wp2_with fail
     go_ret2
     exact ⟨by rw [HM.out]; rfl, H3.out.1⟩
    ·have hm2 := him
     simp only [Bool.and_eq_true, decide_eq_true_eq] at hm2
     have hm3 := hm2.2
     unfold isMoveI at hm3
     simp only [Bool.or_eq_true, Bool.and_eq_true, beq_iff_eq, decide_eq_true_eq] at hm3
     obtain ⟨pa, rfl⟩ : ∃ q : Nat, a = q := ⟨a.toNat, by omega⟩
     obtain ⟨pb, rfl⟩ : ∃ q : Nat, b = q := ⟨b.toNat, by omega⟩
     obtain ⟨pc, rfl⟩ : ∃ q : Nat, c3 = q := ⟨c3.toNat, by omega⟩
     have hpa : pa < n := by omega
     have hpb : pb ≤ 4 := by omega
     have hpc : pc ≤ 7 := by omega
     have HR := Lib.hid (show R = if !g.contains pa && (standM m (intsL g) (pa, pb, pc)).isNone then checkR m (ls.drop (k + 1)) (g ++ [pa]) else false by
      rw [HI.out.1, HX.out, ← HN.out, him]; rfl)
     clear him hm2 hm3
     obtain ⟨c0, c1, c2, lb⟩ := HCC.out w3 H3.out.1
     have HIN := Lib.hid (In_spec (pa : Int) H3.out.2.2)
     rw [intsL_contains] at HIN
     go_wp2_with fail
     refine HIN.out.mono ?_
     rintro e w4 ⟨rfl, hw4⟩
     have hw5 := hw4.symm
     subst hw5
     clear hw4
     cases hgc : g.contains pa
     ·have HGC := Lib.hid hgc; clear hgc
      have HSS := Lib.hid (HST.out w3 H3.out.1 _ g H3.out.2.2 pa pb pc hpa hpb hpc)
      go_wp2_with fail
      refine HSS.out.mono ?_
      rintro e w5 ⟨rfl, hb5⟩
      have H5 := Lib.hid (And.intro (bel_trans H3.out.1 hb5) (own_bel H3.out.2.1 hb5))
      obtain ⟨d0, d1, d2, ld⟩ := HCC.out w5 H5.out.1
      clear c0 c1 c2 lb hb5
      obtain ⟨S, hS⟩ : ∃ S, S = standM m (intsL g) (pa, pb, pc) := ⟨_, rfl⟩
      rw [← hS]
      have HS := Lib.hid hS
      clear hS
      cases S with
      | some r =>
       obtain ⟨rc, rq⟩ := r
       rw [show atV (some (rc, rq)) = .tuple #[.int .i64 rc, .int .i64 rq, .bool true] from rfl]
       go_wp2_with fail
       go_ret2
       refine ⟨?_, H5.out.1⟩
       rw [HR.out, ← HS.out, Option.isNone_some, Bool.and_false, if_neg (by simp)]; rfl
      | none =>
       rw [show atV none = .tuple #[.int .i64 0, .int .i64 0, .bool false] from rfl]
       have hx := H5.out.2
       have hbs : w.heap.size ≤ w5.heap.size := H5.out.1.size
       try unfold OwnI at hx
       rw [intsL_length] at hx
       have hgl := HI.out.2.1
       have HX2 := Lib.hid hx
       have HX := HX2
       clear hx HX2
       go_wp2_with (first
        | (at_builtin; refine wpList_append_own _ rfl _ _ 23 rfl w.heap.size 3 i0 (.int .i64 0) 1 8 Tryz.underlying23 HI0.out.1 HI0.out.2.1 HI0.out.2.2.1 HI0.out.2.2.2 rfl (by decide) _ _ _ rfl (HX.out.alloc _) ⟨w5.heap.size, 0, none⟩ 1 1 [.int .i64 (pa : Int)] rfl rfl (cell_one_new _ _ _) (fun x hx => by simp at hx; subst hx; rfl) (by unfold maxLen; omega) (by omega) (by simp; omega) ?_; intro v' w7 hown' hgrow7 hnil7))
       have hb7 : Below w.heap.size w5 w7 := ((bel_alloc (bel_refl w5) (.cells #[.int .i64 (pa : Int)] 3)).mono hbs).grown hgrow7 (by simp; omega) (fun j hj => ((HX.out.alloc (.cells #[.int .i64 (pa : Int)] 3)).lt j hj).1)
       refine ⟨⟨k + 1, g ++ [pa], by omega, by simp, Lib.hid ⟨?_, by simp; omega, ?_, H5.out.1.trans hb7⟩⟩, by simp [intOf]; omega⟩
       ·rw [HR.out, ← HS.out, HGC.out, Option.isNone_none, if_pos (by simp)]
       ·unfold OwnI
        rw [intsL_length, List.length_append]
        unfold intsL at *
        rw [List.map_append, List.map_append]
        exact hown'
     ·have HGC := Lib.hid hgc; clear hgc
      go_wp2_with fail
      go_ret2
      refine ⟨?_, H3.out.1⟩
      rw [HR.out, HGC.out, Bool.not_true, Bool.false_and, if_neg (by simp)]; rfl
   ·have hd : decide ((k : Int) < (K : Int)) = false := decide_eq_false (by omega)
    have HE := Lib.hid (show R = true by rw [HI.out.1, List.drop_eq_nil_of_le (by rw [← HK.out]; omega)]; rfl)
    go_wp2_with fail
    go_ret2
    exact ⟨by rw [HE.out]; rfl, HI.out.2.2.2⟩
 ·have h1 : ¬ (F = 0) := hF0
  go_wp2_with fail
  refine bodyPost_ret (v := .tuple #[.bool false, .int .i64 F]) (by simp [results, Tryz.results26, go_sem]) rfl ⟨?_, HB.out⟩
  rw [HH.out.2.2.1, if_neg hF0]
end Go.Proofs.YtlbhjikkpbknnaaGreatDoor
end
section
namespace Go.Proofs.YtlbhjikkpbknnaaGreatDoor
open Go.RowKit Go.Rel Go.Draw
set_option maxRecDepth 100000
theorem cd_eq {m : List Sol} (hm : m.length ≤ 12) (ls : List MvI) : ((madeM m ls).isSome && ((ls.length : Int) == (m.length : Int))) = decide (madeM m ls = some (allU m.length)) := by
 rw [Bool.eq_iff_iff]
 simp only [Bool.and_eq_true, beq_iff_eq, decide_eq_true_eq]
 constructor
 ·rintro ⟨h1, h2⟩
  obtain ⟨G, hG⟩ := Option.isSome_iff_exists.1 h1
  have hl := madeF_len hm ls 0 G hG
  have h0 : cardU (0 : U) = 0 := by decide +kernel
  rw [hG, sub_card_eq (made_fe hm hG).2 (by rw [card_all _ hm]; omega)]
 ·intro h
  have hl := madeF_len hm ls 0 _ h
  have h0 : cardU (0 : U) = 0 := by decide +kernel
  rw [card_all _ hm] at hl
  exact ⟨by rw [h]; rfl, by omega⟩
set_option maxHeartbeats 8000000 in
theorem refCheckDraw_n {w : World} {v lv : Value} {m : List Sol} {ls : List MvI} (H : SlS w v m) (HL : SlX w lv ls) (hls : ls.length ≤ 1000) : Calls Tryz.prog 42 #[v, lv] w fun e w' => e = .returned (.tuple #[.bool (cdB m ls), .int .i64 (errM m)]) ∧ Below w.heap.size w w' := by
 have H1 := Lib.hid (refCheckOrder_n H HL hls)
 obtain ⟨ai, nn, c, rfl, hnn, hc, hcm⟩ := H.out
 subst hnn
 obtain ⟨bl, cl, rfl, hml, hcl⟩ := mvs_open HL
 have hq : cdB m ls = (chkB m ls && ((ls.length : Int) == (m.length : Int))) := by
  unfold cdB chkB
  by_cases h : errM m = 0
  ·rw [if_pos h, if_pos h, cd_eq (errM_zero.1 h).1]
  ·rw [if_neg h, if_neg h]; rfl
 rw [hq]
 obtain ⟨B, hB⟩ : ∃ B, B = chkB m ls := ⟨_, rfl⟩
 obtain ⟨E, hE⟩ : ∃ E, E = errM m := ⟨_, rfl⟩
 rw [← hB, ← hE] at H1 ⊢
 obtain ⟨K, hK⟩ : ∃ K, K = ls.length := ⟨_, rfl⟩
 obtain ⟨n, hn⟩ : ∃ n, n = m.length := ⟨_, rfl⟩
 rw [← hK, ← hn] at H1 ⊢
 clear H HL hcl hq hB hE hK hn hc hml hls
 go_enter Tryz.func42, Tryz.ntmps42
 go_wp2_with fail
 refine H1.out.mono ?_
 rintro e w2 ⟨rfl, hb2⟩
 have HB := Lib.hid hb2
 clear hb2
 cases B
 ·go_wp2_with fail
  go_ret2
  exact ⟨by simp, HB.out⟩
 ·go_wp2_with fail
  go_ret2
  exact ⟨by simp, HB.out⟩
theorem greedy_nodup {m : List Sol} {of : List Nat} : ∀ (n : Nat) (g : List Nat) (ml : List Mv), g.Nodup → (greedyF m of n g ml).1.Nodup
 | 0, g, ml, h => h
 | n + 1, g, ml, h => by
  rw [greedyF]
  cases hr : readyR m of g with
  | nil => exact h
  | cons p rest =>
   refine greedy_nodup n _ _ (List.nodup_append.2 ⟨h, by simp, fun a ha b hb => ?_⟩)
   simp at hb; subst hb
   intro he
   have hp : b ∈ readyR m of g := by rw [hr]; exact List.mem_cons_self
   have h2 := (List.mem_filter.1 hp).2
   simp only [Bool.and_eq_true, Bool.not_eq_true'] at h2
   have h3 := h2.2
   rw [List.contains_iff_mem.2 (he ▸ ha)] at h3
   cases h3
theorem greedy_le {m : List Sol} (hm : m.length ≤ 12) : (greedyF m (List.range m.length) 12 [] []).1.length ≤ m.length := by
 have hlt : ∀ i ∈ (greedyF m (List.range m.length) 12 [] []).1, i < m.length := fun i hi => List.mem_range.1 (greedy_lt 12 [] [] (fun p hp => by cases hp) i hi)
 have h64 : ∀ i ∈ (greedyF m (List.range m.length) 12 [] []).1, i < 64 := fun i hi => by have := hlt i hi; omega
 rw [setF_len (greedy_nodup 12 [] [] List.nodup_nil) h64]
 refine Nat.le_trans (sub_card (B := allU m.length) ?_) (by rw [card_all _ hm]; exact Nat.le_refl _)
 intro i hi
 rw [setF_bit _ h64] at hi
 rw [allU_bit _ _ (by omega), decide_eq_true (hlt i (List.contains_iff_mem.1 hi))]
def drwB (m : List Sol) : Bool := decide (errM m = 0) && (orderM m (allU m.length)).isSome
def drwL (m : List Sol) : List MvI := if errM m = 0 then ((orderM m (allU m.length)).getD []).map intMv else []
theorem Draw_n {w : World} {v : Value} {m : List Sol} (H : SlS w v m) (hT : Tab w) : Calls Tryz.prog 39 #[v] w fun e w' => ∃ u, e = .returned (.tuple #[u, .bool (drwB m), .int .i64 (errM m)]) ∧ SlX w' u (drwL m) ∧ Below w.heap.size w w' := by
 refine (Draw_nil H hT).mono ?_
 rintro e w2 ⟨hb, u, b, rfl, h0, h1⟩
 refine ⟨u, ?_, ?_, hb⟩
 ·congr 4
  unfold drwB
  by_cases h : errM m = 0
  ·rw [decide_eq_true h]
   rcases h0 h with ⟨L, hL, rfl, _⟩ | ⟨hL, rfl, _⟩ <;> rw [hL] <;> rfl
  ·rw [(h1 h).1, decide_eq_false h]; rfl
 ·unfold drwL
  by_cases h : errM m = 0
  ·rw [if_pos h]
   rcases h0 h with ⟨L, hL, _, hO⟩ | ⟨hL, _, rfl⟩
   ·rw [hL]; exact mvs_X hO.sl
   ·rw [hL]; exact sl_nil
  ·rw [if_neg h, (h1 h).2]; exact sl_nil
set_option maxHeartbeats 8000000 in
theorem refDraw_n {w : World} {v : Value} {m : List Sol} (H : SlS w v m) : Calls Tryz.prog 40 #[v] w fun e w' => ∃ u, e = .returned (.tuple #[u, .bool (drwB m), .int .i64 (errM m)]) ∧ SlX w' u (drwL m) ∧ Below w.heap.size w w' := by
 obtain ⟨R, hR⟩ : ∃ R, R = drwL m := ⟨_, rfl⟩
 obtain ⟨B, hB⟩ : ∃ B, B = drwB m := ⟨_, rfl⟩
 obtain ⟨F, hF⟩ : ∃ F, F = errM m := ⟨_, rfl⟩
 rw [← hR, ← hF, ← hB]
 unfold drwL at hR
 unfold drwB at hB
 have H1 := Lib.hid (refMould_spec H)
 rw [← hF] at H1 hR hB
 obtain ⟨ai, nn, c, rfl, hnn, hc, hcm⟩ := H.out
 subst hnn
 have HH := Lib.hid (And.intro H (And.intro hR (And.intro hF hB)))
 clear H hR hF hB
 go_enter Tryz.func40, Tryz.ntmps40
 go_wp2_with fail
 refine H1.out.mono ?_
 rintro e w2 ⟨rfl, hb2⟩
 have HB := Lib.hid hb2
 clear hb2
 by_cases hF0 : F = 0
 ·obtain ⟨h12, hg⟩ := errM_zero.1 (HH.out.2.2.1.symm.trans hF0)
  have hord := greedy_all (good_apart hg) h12 (Sub.refl (allU m.length))
  rw [all_list h12, card_all _ h12] at hord
  have hle := greedy_le (m := m) h12
  obtain ⟨A, hA⟩ : ∃ A, A = greedyF m (List.range m.length) 12 [] [] := ⟨_, rfl⟩
  rw [← hA] at hord hle
  have hBB : B = (orderM m (allU m.length)).isSome := by rw [HH.out.2.2.2, decide_eq_true hF0]; rfl
  have hRR : R = ((orderM m (allU m.length)).getD []).map intMv := by rw [HH.out.2.1, if_pos hF0]
  have HQ := Lib.hid (And.intro h12 (And.intro hg (And.intro hord (And.intro hle (And.intro hA (And.intro hBB hRR))))))
  have HWO := Lib.hid (WaysOf_spec (HH.out.1.mono HB.out) h12)
  subst hF0
  clear h12 hg hord hle hA hBB hRR
  go_wp2_with fail
  refine HWO.out.mono ?_
  rintro e w4 ⟨hb4, mv, nv, rfl, hW⟩
  have H4 := Lib.hid (And.intro (bel_trans HB.out hb4) hW)
  clear hb4 hW HWO
  have HAL := Lib.hid (all_ref (w := w4) ai m.length c (by have := HQ.out.1; omega))
  go_wp2_with fail
  refine HAL.out.mono ?_
  rintro e w5 ⟨hb5, oa, rfl, hoa⟩
  have HGR := Lib.hid (greedy_spec (H4.out.2.mono hb5) hoa.sl (fun p hp => List.mem_range.1 hp) HQ.out.1 (by rw [List.length_range]; have := HQ.out.1; omega))
  rw [← HQ.out.2.2.2.2.1] at HGR
  have H5 := Lib.hid (bel_trans H4.out.1 hb5)
  clear hb5 hoa HAL
  go_wp2_with fail
  refine HGR.out.mono ?_
  rintro e w6 ⟨hb6, a, b, rfl, ha, hbm⟩
  obtain ⟨ba, ca, hua⟩ := ints_shape ha.sl
  rw [intsL_length] at hua
  subst hua
  have H6 := Lib.hid (And.intro (bel_trans H5.out hb6) (mvs_X hbm.sl))
  clear hb6 ha hbm HGR
  by_cases hlt : A.1.length < m.length
  ·have hno : orderM m (allU m.length) = none := by rw [HQ.out.2.2.1, if_neg (by omega)]
   have HNO := Lib.hid hno
   clear hno
   go_wp2_with fail
   refine bodyPost_ret (v := .tuple #[.slice none 0 0, .bool false, .int .i64 0]) (by simp [results, Tryz.results40, go_sem]) rfl ⟨.slice none 0 0, ?_, ?_, H6.out.1⟩
   ·rw [HQ.out.2.2.2.2.2.1, HNO.out]; rfl
   ·rw [HQ.out.2.2.2.2.2.2, HNO.out]; exact sl_nil
  ·have hd : decide (A.1.length < m.length) = false := decide_eq_false hlt
   have hyes : orderM m (allU m.length) = some A.2 := by rw [HQ.out.2.2.1, if_pos (by have := HQ.out.2.2.2.1; omega)]
   have HYES := Lib.hid hyes
   clear hyes
   go_wp2_with fail
   refine bodyPost_ret (v := .tuple #[b, .bool true, .int .i64 0]) (by simp [results, Tryz.results40, go_sem]) rfl ⟨b, ?_, ?_, H6.out.1⟩
   ·rw [HQ.out.2.2.2.2.2.1, HYES.out]; rfl
   ·rw [HQ.out.2.2.2.2.2.2, HYES.out]; exact H6.out.2
 ·have h1 : ¬ (F = 0) := hF0
  go_wp2_with fail
  refine bodyPost_ret (v := .tuple #[.slice none 0 0, .bool false, .int .i64 F]) (by simp [results, Tryz.results40, go_sem]) rfl ⟨.slice none 0 0, ?_, ?_, HB.out⟩
  ·rw [HH.out.2.2.2, decide_eq_false hF0]; rfl
  ·rw [HH.out.2.1, if_neg hF0]; exact sl_nil
end Go.Proofs.YtlbhjikkpbknnaaGreatDoor
end
