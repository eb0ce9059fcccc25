import Derived.Test.YtlbhjikkpbknnaaGreatDoorHQ20
/-
  Given contracts of functions of the program, and laws for them, one behind the other.
-/
set_option linter.unusedVariables false
set_option linter.unusedSimpArgs false
set_option linter.unusedSectionVars false
section
namespace Go.Proofs.YtlbhjikkpbknnaaGreatDoor
open Go.RowKit Go.Rel Go.Draw
set_option maxRecDepth 100000
/-! LeastLock of both -/
def llB (m : List Sol) : Bool := decide (errM m = 0) && (leastLockM m).isSome
def llL (m : List Sol) : List Int := if errM m = 0 then intsL (lockL m) else []
theorem LeastLock_n {w : World} {v : Value} {m : List Sol} (H : SlS w v m) (hT : Tab w) : Calls Tryz.prog 33 #[v] w fun e w' => ∃ u, e = .returned (.tuple #[u, .bool (llB m), .int .i64 (errM m)]) ∧ SlI w' u (llL m) ∧ Below w.heap.size w w' := by
 refine (LeastLock_spec H hT).mono ?_
 rintro e w2 ⟨hb, u, b, rfl, h0, h1⟩
 refine ⟨u, ?_, ?_, hb⟩
 ·congr 4
  unfold llB
  by_cases h : errM m = 0
  ·rw [(h0 h).1, decide_eq_true h]; rfl
  ·rw [(h1 h).1, decide_eq_false h]; rfl
 ·unfold llL
  by_cases h : errM m = 0
  ·rw [if_pos h]; exact (h0 h).2.sl
  ·rw [if_neg h, (h1 h).2]; exact sl_nil
theorem nums_at {n k : Nat} (h1 : 1 ≤ k) (h2 : k < 2 ^ n) : (numsL n).drop (k - 1) = BitVec.ofNat 64 k :: (numsL n).drop k := by
 have hl : (numsL n).length = 2 ^ n - 1 := by unfold numsL; simp
 have hk : k - 1 < (numsL n).length := by omega
 rw [List.drop_eq_getElem_cons hk, show k - 1 + 1 = k by omega]
 have : (numsL n)[k - 1]? = some (BitVec.ofNat 64 k) := by
  unfold numsL
  rw [List.getElem?_map, List.getElem?_range' (by omega)]
  show some (BitVec.ofNat 64 (1 + 1 * (k - 1))) = _
  rw [show 1 + 1 * (k - 1) = k by omega]
 rw [(List.getElem?_eq_some_iff.1 this).2]
theorem nums_end {n k : Nat} (h2 : 2 ^ n ≤ k) : (numsL n).drop (k - 1) = [] := by
 apply List.drop_eq_nil_of_le
 unfold numsL
 simp; omega
def bestV (wx : World) (b : Option U) (v : Value) : Prop := match b with
 | none => v = .slice none 0 0
 | some S => SlI wx v (intsL (listU S)) ∧ ∃ a n c, v = .slice (some a) n c
theorem bestV.mono {w w' : World} {b : Option U} {v : Value} (h : bestV w b v) (hb : Below w.heap.size w w') : bestV w' b v := by
 cases b with
 | none => exact h
 | some S => exact ⟨h.1.mono hb, h.2⟩
theorem own_some {w : World} {base : Nat} {v : Value} {S : U} (h : OwnI w base v (intsL (listU S))) (hS : S ≠ 0) : ∃ a n c, v = .slice (some a) n c := by
 rcases h.2 with ⟨_, h0⟩ | ⟨g, cap, cur, hv, _⟩
 ·rw [intsL_length] at h0
  exact absurd (listU_length_zero S h0) hS
 ·exact ⟨_, _, _, hv⟩
set_option maxHeartbeats 8000000 in
theorem refLeastLock_n {w : World} {v : Value} {m : List Sol} (H : SlS w v m) : Calls Tryz.prog 34 #[v] w fun e w' => ∃ u, e = .returned (.tuple #[u, .bool (llB m), .int .i64 (errM m)]) ∧ SlI w' u (llL m) ∧ Below w.heap.size w w' := by
  obtain ⟨R, hR⟩ : ∃ R, R = llL m := ⟨_, rfl⟩
  obtain ⟨B, hB⟩ : ∃ B, B = llB m := ⟨_, rfl⟩
  obtain ⟨F, hF⟩ : ∃ F, F = errM m := ⟨_, rfl⟩
  rw [← hR, ← hF, ← hB]
  unfold llL at hR
  unfold llB at hB
  have H1 := Lib.hid (refMould_spec H)
  rw [← hF] at H1 hR hB
  obtain ⟨ai, nn, c, rfl, hnn, hc, hcm⟩ := H.out
  subst hnn
  have HH := Lib.hid (And.intro H (And.intro hR (And.intro hF hB)))
  clear H hR hF hB
  have qE : ∀ (w : World) (a : Option Addr) (n c : Nat), (binOp .eql 23 (.slice a n c) (.slice none 0 0)).run Tryz.prog w = .ok (.bool a.isNone) w := fun w a n c => Go.Lib.run_eql_slice_nil w _ _ a n c 0 0 Tryz.underlying23
  have qN : ∀ (w : World) (a : Option Addr) (n c : Nat), (binOp .neq 23 (.slice a n c) (.slice none 0 0)).run Tryz.prog w = .ok (.bool (!a.isNone)) w := fun w a n c => run_neq_slice_nil_any w _ _ a n c 0 0 Tryz.underlying23
  go_enter Tryz.func34, Tryz.ntmps34
  go_wp2_with fail
  refine H1.out.mono ?_
  rintro e w2 ⟨rfl, hb2⟩
  have HB := Lib.hid hb2
  clear hb2
  by_cases hF0 : F = 0
  · obtain ⟨h12, hg⟩ := errM_zero.1 (HH.out.2.2.1.symm.trans hF0)
    have HQ := Lib.hid (And.intro h12 hg)
    have HWO := Lib.hid (WaysOf_spec (HH.out.1.mono HB.out) h12)
    have HE := Lib.hid hF0
    subst hF0
    clear h12 hg
    go_wp2_with fail
    refine HWO.out.mono ?_
    rintro e w4 ⟨hb4, mv, nv, rfl, hW⟩
    obtain ⟨bm, nm, cm, bn, nn, cn, rfl, rfl⟩ := hW.sls
    have H4 := Lib.hid (And.intro (bel_trans HB.out hb4) hW)
    clear hb4 hW HWO
    obtain ⟨n, hn⟩ : ∃ n, n = m.length := ⟨_, rfl⟩
    have hn12 : n ≤ 12 := by rw [hn]; exact HQ.out.1
    rw [← hn] at hc ⊢
    have HN := Lib.hid hn
    clear hn
    have em : min n 64 = n := Nat.min_eq_left (by omega)
    go_wp2_with fail
    obtain ⟨wb, hwb⟩ : ∃ wb, wb = w4.alloc (.cells #[.slice bm nm cm, .slice bn nn cn] 111) := ⟨_, rfl⟩
    have hb5 : Below w4.heap.size w4 wb := by subst hwb; exact bel_alloc (bel_refl _) _
    have hB5 : Blk wb w4.heap.size #[.slice bm nm cm, .slice bn nn cn] 111 := by subst hwb; exact Blk.new _ _ _
    rw [← hwb]
    obtain ⟨N0, hN0⟩ : ∃ N, N = w4.heap.size := ⟨_, rfl⟩
    rw [← hN0] at hB5 ⊢
    have H5 := Lib.hid (And.intro (bel_trans H4.out.1 hb5) (And.intro hB5 (H4.out.2.mono hb5)))
    clear hwb hb5 hB5 hN0
    have hp2 : 2 ^ n ≤ 4096 := Nat.le_trans (Nat.pow_le_pow_right (by omega) hn12) (by decide)
    obtain ⟨P, hP⟩ : ∃ P, P = 2 ^ n := ⟨_, rfl⟩
    have hp1 : 1 ≤ P := by rw [hP]; exact Nat.one_le_two_pow
    rw [← hP] at hp2
    have HP := Lib.hid hP
    have hw64 : wrap64 ((2 : Int) ^ n) = (P : Int) := by
      rw [hP, Int.natCast_pow]
      exact Go.IntWalk.wrap64_in _ (by have : ((2 : Int) ^ n) = ((2 ^ n : Nat) : Int) := by rw [Int.natCast_pow]; rfl
                                       omega)
    clear hP
    go_loopw [7, 8] (fun bv kv wx => ∃ (k : Nat) (b : Option U), 1 ≤ k ∧ k ≤ P ∧ kv = .int .i64 k ∧ Hid (bestF (locksM m) ((numsL n).drop (k - 1)) b = bestF (locksM m) (numsL n) none ∧ bestV wx b bv ∧ Below wb.heap.size wb wx)) (fun _ kv _ => P - (intOf kv).toNat)
    case atStart => exact ⟨1, none, Nat.le_refl _, hp1, rfl, Lib.hid ⟨rfl, rfl, Below.refl _ _⟩⟩
    case round =>
      obtain ⟨k, b, hk1, hkP, rfl, HI⟩ := hrel
      by_cases hlt : k < P
      · have hd : decide ((k : Int) < (P : Int)) = true := decide_eq_true (by omega)
        have hk4 : k < 4096 := by omega
        obtain ⟨S, hS⟩ : ∃ S, S = BitVec.ofNat 64 k := ⟨_, rfl⟩
        have hSn : S.toNat = k := by rw [hS, BitVec.toNat_ofNat]; omega
        have hS0 : S ≠ 0 := fun h => by rw [h] at hSn; have : (0 : U).toNat = 0 := rfl; omega
        have hSS : Sub S (allU m.length) := (sub_lt HQ.out.1 _).2 (by rw [hSn, ← HN.out, ← HP.out]; exact hlt)
        have hst := HI.out.1
        rw [nums_at hk1 (by rw [← HP.out]; exact hlt), ← hS] at hst
        have HST := Lib.hid (And.intro hst (And.intro hS0 hSS))
        have HSET := Lib.hid (setR_spec (w := wr) hk4)
        rw [← hS] at HSET
        clear hst hS hSn hS0 hSS hk4
        go_wp2_with fail
        refine HSET.out.mono ?_
        rintro e w6 ⟨hb6, o, rfl, ho⟩
        obtain ⟨ao, no, co, hoe⟩ := own_some ho HST.out.2.1
        have hso := ho.sl
        subst hoe
        have hbv6 := HI.out.2.1.mono hb6
        have hbw6 := bel_trans HI.out.2.2 hb6
        have B5 := H5.out.2.1.grow hbw6
        have c0 := B5.cell 0; have c1 := B5.cell 1; have l5 := B5.lt
        simp only [List.getElem?_toArray, List.getElem?_cons_zero, List.getElem?_cons_succ] at c0 c1
        have H6 := Lib.hid (And.intro hbw6 (And.intro hbv6 hso))
        have HLK := Lib.hid fun W (h : Below w6.heap.size w6 W) => lockedR_spec (a := ai) (n := n) (c := c) HN.out (H5.out.2.2.mono (bel_trans hbw6 h)) (hso.mono h) HQ.out.2 HQ.out.1 HST.out.2.2
        clear hb6 ho hso hbv6 hbw6 B5 HSET
        have c0W : Hid (∀ W, Below w6.heap.size w6 W → W.cell? ⟨N0, 0, none⟩ = some (.slice bm nm cm) ∧ W.cell? ⟨N0, 1, none⟩ = some (.slice bn nn cn) ∧ N0 < W.heap.size) := Lib.hid fun W h => ⟨((Grows.cells h).1 N0 0 l5).trans c0, ((Grows.cells h).1 N0 1 l5).trans c1, Nat.lt_of_lt_of_le l5 h.size⟩
        cases b with
        | none =>
          have hu : u7 = .slice none 0 0 := H6.out.2.1
          subst hu
          go_wp2_with fail
          refine (HLK.out w6 (Below.refl _ _)).mono ?_
          rintro e w7 ⟨hb7, rfl⟩
          have H7 := Lib.hid hb7
          clear hb7
          cases hlk : locksM m S
          · have HL := Lib.hid hlk; clear hlk
            go_wp2_with fail
            refine ⟨⟨k + 1, none, by omega, by omega, by simp, Lib.hid ⟨?_, rfl, bel_trans H6.out.1 H7.out⟩⟩, by simp [intOf]; omega⟩
            rw [← HST.out.1, bestF, HL.out]; rfl
          · have HL := Lib.hid hlk; clear hlk
            go_wp2_with fail
            refine ⟨⟨k + 1, some S, by omega, by omega, by simp, Lib.hid ⟨?_, ⟨H6.out.2.2.mono H7.out, _, _, _, rfl⟩, bel_trans H6.out.1 H7.out⟩⟩, by simp [intOf]; omega⟩
            rw [← HST.out.1, bestF, HL.out]; rfl
        | some t =>
          obtain ⟨hst2, at', nt, ct, hu⟩ := H6.out.2.1
          subst hu
          have HBF := Lib.hid (before_spec H6.out.2.2 hst2)
          clear hst2 c0 c1 l5
          go_wp2_with fail
          refine HBF.out.mono ?_
          rintro e w7 ⟨rfl, hb7⟩
          have H7 := Lib.hid hb7
          obtain ⟨c0, c1, l5⟩ := c0W.out w7 hb7
          clear hb7
          cases hbf : beforeL (listU S) (listU t)
          · have HBB := Lib.hid hbf; clear hbf
            go_wp2_with fail
            refine ⟨⟨k + 1, some t, by omega, by omega, by simp, Lib.hid ⟨?_, H6.out.2.1.mono H7.out, bel_trans H6.out.1 H7.out⟩⟩, by simp [intOf]; omega⟩
            rw [← HST.out.1, bestF]
            simp only [HBB.out]; rfl
          · have HBB := Lib.hid hbf; clear hbf
            go_wp2_with fail
            refine (HLK.out w7 H7.out).mono ?_
            rintro e w8 ⟨hb8, rfl⟩
            have H8 := Lib.hid (bel_trans H7.out hb8)
            clear hb8
            cases hlk : locksM m S
            · have HL := Lib.hid hlk; clear hlk
              go_wp2_with fail
              refine ⟨⟨k + 1, some t, by omega, by omega, by simp, Lib.hid ⟨?_, H6.out.2.1.mono H8.out, bel_trans H6.out.1 H8.out⟩⟩, by simp [intOf]; omega⟩
              rw [← HST.out.1, bestF, HL.out, Bool.and_false]; rfl
            · have HL := Lib.hid hlk; clear hlk
              go_wp2_with fail
              refine ⟨⟨k + 1, some S, by omega, by omega, by simp, Lib.hid ⟨?_, ⟨H6.out.2.2.mono H8.out, _, _, _, rfl⟩, bel_trans H6.out.1 H8.out⟩⟩, by simp [intOf]; omega⟩
              rw [← HST.out.1, bestF, HL.out]
              simp only [HBB.out]; rfl
      · have hd : decide ((k : Int) < (P : Int)) = false := decide_eq_false (by omega)
        have hfin := HI.out.1
        rw [nums_end (by rw [← HP.out]; omega), HN.out, leastLock_ref HQ.out.1] at hfin
        have HF := Lib.hid (show b = leastLockM m from hfin)
        clear hfin
        cases b with
        | none =>
          have hu : u7 = .slice none 0 0 := HI.out.2.1
          subst hu
          go_wp2_with fail
          refine bodyPost_ret (v := .tuple #[.slice none 0 0, .bool false, .int .i64 0]) (by simp [results, Tryz.results34, go_sem]) rfl ⟨.slice none 0 0, ?_, ?_, bel_trans H5.out.1 HI.out.2.2⟩
          · rw [HH.out.2.2.2, ← HF.out]; rfl
          · rw [HH.out.2.1, if_pos trivial]
            unfold lockL
            rw [← HF.out]; exact sl_nil
        | some t =>
          obtain ⟨hst2, at', nt, ct, hu⟩ := HI.out.2.1
          subst hu
          have H9 := Lib.hid hst2
          clear hst2
          go_wp2_with fail
          refine bodyPost_ret (v := .tuple #[.slice (some at') nt ct, .bool true, .int .i64 0]) (by simp [results, Tryz.results34, go_sem]) rfl ⟨.slice (some at') nt ct, ?_, ?_, bel_trans H5.out.1 HI.out.2.2⟩
          · rw [HH.out.2.2.2, ← HF.out]; rfl
          · rw [HH.out.2.1, if_pos trivial]
            unfold lockL
            rw [← HF.out]; exact H9.out
  · have h1 : ¬ (F = 0) := hF0
    go_wp2_with fail
    refine bodyPost_ret (v := .tuple #[.slice none 0 0, .bool false, .int .i64 F]) (by simp [results, Tryz.results34, go_sem]) rfl ⟨.slice none 0 0, ?_, ?_, HB.out⟩
    · rw [HH.out.2.2.2, decide_eq_false hF0]; rfl
    · rw [HH.out.2.1, if_neg hF0]; exact sl_nil
end Go.Proofs.YtlbhjikkpbknnaaGreatDoor
end
section
namespace Go.Proofs.YtlbhjikkpbknnaaGreatDoor
open Go.RowKit Go.Rel Go.Draw
set_option maxRecDepth 100000
/-! DrawLocks -/
set_option maxHeartbeats 8000000 in
theorem DrawLocks_walk {W : World} {v gv : Value} {m : List Sol} {gone : List Int} (H : SlS W v m) (HG : SlI W gv gone) (hT : Tab W) : Calls Tryz.prog 6 #[v, gv] W fun e w' => e = .returned (.bool true) ∧ Below W.heap.size W w' := by
 have HFW := Lib.hid (few_spec 6 H)
 obtain ⟨pa, ca, rfl, hma, -⟩ := ints_open HG
 have HAR := Lib.hid fun W1 (h : Below W.heap.size W W1) => (show SlS W1 v m ∧ SlI W1 (.slice pa gone.length ca) gone ∧ Tab W1 from ⟨H.mono h, HG.mono h, hT.grow h⟩)
 have HC := Lib.hid fun W1 (h : Below W.heap.size W W1) => cast_spec (hT.grow h)
 have hb1 : Below W.heap.size W (W.alloc (.cells #[.slice pa gone.length ca] 23)) := bel_alloc (bel_refl W) _
 have HSh := Lib.hid (short_spec (lit_one (Blk.new W #[.slice pa gone.length ca] 23) (HAR.out _ hb1).2.1))
 have HB1 := Lib.hid hb1
 obtain ⟨F, hF⟩ : ∃ F, F = (decide ((m.length : Int) ≤ 6) || (decide (12 < m.length) && decide (m.length ≤ 15))) := ⟨_, rfl⟩
 rw [← hF] at HFW
 clear H hT hF hb1 HG hma
 go_enter Tryz.func6, Tryz.ntmps6
 go_wp2_with fail
 refine HFW.out.mono ?_
 rintro e w1 ⟨rfl, hw1⟩
 have hw2 := hw1.symm
 subst hw2
 clear hw1
 cases F
 ·go_wp2_with fail
  refine (HC.out _ (bel_refl _)).mono ?_
  rintro e w4 ⟨rfl, hb4⟩
  have H4 := Lib.hid hb4; clear hb4
  go_wp2_with fail
  go_ret
  exact ⟨rfl, H4.out⟩
 ·go_wp2_with fail
  refine HSh.out.mono ?_
  rintro e w1 ⟨rfl, hw1⟩
  obtain ⟨S, hS⟩ : ∃ S, S = ([gone].all fun q => decide (q.length ≤ 20)) := ⟨_, rfl⟩
  rw [← hS]
  have HB2 : Hid (Below W.heap.size W w1) := Lib.hid (by rw [hw1]; exact HB1.out)
  clear hS hw1 HSh HB1
  cases S
  ·go_wp2_with fail
   refine (HC.out _ HB2.out).mono ?_
   rintro e w4 ⟨rfl, hb4⟩
   have H4 := Lib.hid hb4; clear hb4
   go_wp2_with fail
   go_ret
   exact ⟨rfl, bel_trans HB2.out H4.out⟩
  ·obtain ⟨E, hE⟩ : ∃ x, x = errM m := ⟨_, rfl⟩
   obtain ⟨L1, hL1⟩ : ∃ x, x = lckL m := ⟨_, rfl⟩
   obtain ⟨B1, hB1⟩ : ∃ x, x = llB m := ⟨_, rfl⟩
   obtain ⟨L2, hL2⟩ : ∃ x, x = llL m := ⟨_, rfl⟩
   obtain ⟨B2, hB2⟩ : ∃ x, x = lckB m gone := ⟨_, rfl⟩
   obtain ⟨E2, hE2⟩ : ∃ x, x = askE m gone [] := ⟨_, rfl⟩
   obtain ⟨B3, hB3⟩ : ∃ x, x = fstB m gone := ⟨_, rfl⟩
   have S1 := Lib.hid fun W1 (h : Below W.heap.size W W1) => Lock_n (HAR.out W1 h).1 (HAR.out W1 h).2.2
   have S2 := Lib.hid fun W1 (h : Below W.heap.size W W1) => refLock_n (HAR.out W1 h).1
   have S3 := Lib.hid fun W1 (h : Below W.heap.size W W1) => LeastLock_n (HAR.out W1 h).1 (HAR.out W1 h).2.2
   have S4 := Lib.hid fun W1 (h : Below W.heap.size W W1) => refLeastLock_n (HAR.out W1 h).1
   have S5 := Lib.hid fun W1 (h : Below W.heap.size W W1) => CheckLock_n (HAR.out W1 h).1 (HAR.out W1 h).2.1
   have S6 := Lib.hid fun W1 (h : Below W.heap.size W W1) => refCheckLock_n (HAR.out W1 h).1 (HAR.out W1 h).2.1
   have S7 := Lib.hid fun W1 (h : Below W.heap.size W W1) => First_n (HAR.out W1 h).1 (HAR.out W1 h).2.1 (HAR.out W1 h).2.2
   have S8 := Lib.hid fun W1 (h : Below W.heap.size W W1) => refFirst_n (HAR.out W1 h).1 (HAR.out W1 h).2.1
   simp only [← hE, ← hL1] at S1 S2
   simp only [← hE, ← hB1, ← hL2] at S3 S4
   simp only [← hE, ← hB2] at S5 S6
   simp only [← hE2, ← hB3] at S7 S8
   have HVE := Lib.hid hE
   have HVL1 := Lib.hid hL1
   have HVB1 := Lib.hid hB1
   have HVL2 := Lib.hid hL2
   have HVB2 := Lib.hid hB2
   have HVE2 := Lib.hid hE2
   have HVB3 := Lib.hid hB3
   clear hE hL1 hB1 hL2 hB2 hE2 hB3
   go_wp2_with fail
   refine (S1.out _ HB2.out).mono ?_
   rintro e w3 ⟨u1, rfl, hs, hb⟩
   have HB3 := Lib.hid (bel_trans HB2.out hb)
   have HU1 := Lib.hid hs
   clear hb hs
   go_wp2_with fail
   refine (S2.out _ HB3.out).mono ?_
   rintro e w4 ⟨u2, rfl, hs, hb⟩
   have HB4 := Lib.hid (bel_trans HB3.out hb)
   replace HU1 := Lib.hid (HU1.out.mono hb)
   have HU2 := Lib.hid hs
   clear hb hs
   go_wp2_with fail
   refine (S3.out _ HB4.out).mono ?_
   rintro e w5 ⟨u3, rfl, hs, hb⟩
   have HB5 := Lib.hid (bel_trans HB4.out hb)
   replace HU1 := Lib.hid (HU1.out.mono hb)
   replace HU2 := Lib.hid (HU2.out.mono hb)
   have HU3 := Lib.hid hs
   clear hb hs
   go_wp2_with fail
   refine (S4.out _ HB5.out).mono ?_
   rintro e w6 ⟨u4, rfl, hs, hb⟩
   have HB6 := Lib.hid (bel_trans HB5.out hb)
   replace HU1 := Lib.hid (HU1.out.mono hb)
   replace HU2 := Lib.hid (HU2.out.mono hb)
   replace HU3 := Lib.hid (HU3.out.mono hb)
   have HU4 := Lib.hid hs
   clear hb hs
   go_wp2_with fail
   refine (S5.out _ HB6.out).mono ?_
   rintro e w7 ⟨rfl, hb⟩
   have HB7 := Lib.hid (bel_trans HB6.out hb)
   replace HU1 := Lib.hid (HU1.out.mono hb)
   replace HU2 := Lib.hid (HU2.out.mono hb)
   replace HU3 := Lib.hid (HU3.out.mono hb)
   replace HU4 := Lib.hid (HU4.out.mono hb)
   clear hb
   go_wp2_with fail
   refine (S6.out _ HB7.out).mono ?_
   rintro e w8 ⟨rfl, hb⟩
   have HB8 := Lib.hid (bel_trans HB7.out hb)
   replace HU1 := Lib.hid (HU1.out.mono hb)
   replace HU2 := Lib.hid (HU2.out.mono hb)
   replace HU3 := Lib.hid (HU3.out.mono hb)
   replace HU4 := Lib.hid (HU4.out.mono hb)
   clear hb
   go_wp2_with fail
   refine (S7.out _ HB8.out).mono ?_
   rintro e w9 ⟨rfl, hb⟩
   have HB9 := Lib.hid (bel_trans HB8.out hb)
   replace HU1 := Lib.hid (HU1.out.mono hb)
   replace HU2 := Lib.hid (HU2.out.mono hb)
   replace HU3 := Lib.hid (HU3.out.mono hb)
   replace HU4 := Lib.hid (HU4.out.mono hb)
   clear hb
   go_wp2_with fail
   refine (S8.out _ HB9.out).mono ?_
   rintro e w10 ⟨rfl, hb⟩
   have HB10 := Lib.hid (bel_trans HB9.out hb)
   replace HU1 := Lib.hid (HU1.out.mono hb)
   replace HU2 := Lib.hid (HU2.out.mono hb)
   replace HU3 := Lib.hid (HU3.out.mono hb)
   replace HU4 := Lib.hid (HU4.out.mono hb)
   clear hb
   go_wp2_with fail
   refine (HC.out _ HB10.out).mono ?_
   rintro e w90 ⟨rfl, hb⟩
   have HB90 := Lib.hid (bel_trans HB10.out hb)
   replace HU1 := Lib.hid (HU1.out.mono hb)
   replace HU2 := Lib.hid (HU2.out.mono hb)
   replace HU3 := Lib.hid (HU3.out.mono hb)
   replace HU4 := Lib.hid (HU4.out.mono hb)
   clear hb
   go_wp2_with fail
   refine (SameInts_spec HU1.out HU2.out).mono ?_
   rintro e w91 ⟨rfl, hb⟩
   rw [beq_self_eq_true]
   have HB91 := Lib.hid (bel_trans HB90.out hb)
   replace HU1 := Lib.hid (HU1.out.mono hb)
   replace HU2 := Lib.hid (HU2.out.mono hb)
   replace HU3 := Lib.hid (HU3.out.mono hb)
   replace HU4 := Lib.hid (HU4.out.mono hb)
   clear hb
   go_wp2_with fail
   refine (SameInts_spec HU3.out HU4.out).mono ?_
   rintro e w92 ⟨rfl, hb⟩
   rw [beq_self_eq_true]
   have HB92 := Lib.hid (bel_trans HB91.out hb)
   replace HU1 := Lib.hid (HU1.out.mono hb)
   replace HU2 := Lib.hid (HU2.out.mono hb)
   replace HU3 := Lib.hid (HU3.out.mono hb)
   replace HU4 := Lib.hid (HU4.out.mono hb)
   clear hb
   go_wp2_with fail
   go_ret
   exact ⟨ret_bool (by simp), HB92.out⟩
end Go.Proofs.YtlbhjikkpbknnaaGreatDoor
end
