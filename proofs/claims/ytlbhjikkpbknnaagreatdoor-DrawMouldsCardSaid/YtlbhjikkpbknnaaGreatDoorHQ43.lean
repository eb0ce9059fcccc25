import Derived.Test.YtlbhjikkpbknnaaGreatDoorHQ41
/-
  Given contracts of functions of the program, and laws for them, one behind the other.
-/
set_option linter.unusedVariables false
set_option linter.unusedSimpArgs false
set_option linter.unusedSectionVars false
section
namespace Go.Proofs.YtlbhjikkpbknnaaGreatDoor
open Go.RowKit Go.Rel Go.Draw
set_option maxRecDepth 100000
/-! DrawMoulds -/
theorem blk8 {w : World} {g : Nat} {s : Sol} {t : TypeId} (h : Blk w g #[.int .u64 (pl s 0), .int .u64 (pl s 1), .int .u64 (pl s 2), .int .u64 (pl s 3), .int .u64 (pl s 4), .int .u64 (pl s 5), .int .u64 (pl s 6), .int .u64 (pl s 7)] t) : ∀ z, z < 8 → w.cell? ⟨g, z, none⟩ = some (.int .u64 (pl s z)) := fun z hz => (h.cell z).trans (mixA_get (fun i => pl s i) hz)
set_option maxHeartbeats 16000000 in
theorem DrawMoulds_walk {W : World} {v : Value} {m : List Sol} {p q : Int} {s : Sol} (H : SlS W v m) (hT : Tab W) : Calls Tryz.prog 8 #[v, .int .i64 p, .int .i64 q, solV s] W fun e w' => e = .returned (.bool true) ∧ Below W.heap.size W w' := by
 have HFW := Lib.hid fun W1 (h : Below W.heap.size W W1) => few_spec 12 (H.mono h)
 have HC := Lib.hid fun W1 (h : Below W.heap.size W W1) => cast_spec (hT.grow h)
 obtain ⟨F, hF⟩ : ∃ F, F = (decide ((m.length : Int) ≤ 12) || (decide (12 < m.length) && decide (m.length ≤ 15))) := ⟨_, rfl⟩
 rw [← hF] at HFW
 obtain ⟨A, hA⟩ : ∃ A, A = sandE m := ⟨_, rfl⟩
 obtain ⟨E, hE⟩ : ∃ E, E = errM m := ⟨_, rfl⟩
 obtain ⟨L1, hL1⟩ : ∃ L, L = witL m p := ⟨_, rfl⟩
 obtain ⟨E1, hE1⟩ : ∃ E, E = askE m [] [p] := ⟨_, rfl⟩
 obtain ⟨L2, hL2⟩ : ∃ L, L = joinL m p q := ⟨_, rfl⟩
 obtain ⟨E2, hE2⟩ : ∃ E, E = joinE m p q := ⟨_, rfl⟩
 obtain ⟨U, hU⟩ : ∃ U, U = underE s := ⟨_, rfl⟩
 obtain ⟨E3, hE3⟩ : ∃ E, E = errM [s] := ⟨_, rfl⟩
 have S1 := Lib.hid fun W1 (h : Below W.heap.size W W1) => Sand_n (H.mono h)
 have S2 := Lib.hid fun W1 (h : Below W.heap.size W W1) => refSand_n (H.mono h)
 have S3 := Lib.hid fun W1 (h : Below W.heap.size W W1) => Without_n (p := p) (H.mono h)
 have S4 := Lib.hid fun W1 (h : Below W.heap.size W W1) => refWithout_n (p := p) (H.mono h)
 have S5 := Lib.hid fun W1 (h : Below W.heap.size W W1) => Joined_n (p := p) (q := q) (H.mono h)
 have S6 := Lib.hid fun W1 (h : Below W.heap.size W W1) => refJoined_n (p := p) (q := q) (H.mono h)
 have S7 := Lib.hid fun W1 (h : Below W.heap.size W W1) => Undercut_n (s := s) (hT.grow h)
 have S8 := Lib.hid fun W1 (_ : Below W.heap.size W W1) => refUndercut_n (w := W1) (s := s)
 have S9 := Lib.hid fun W1 (h : Below W.heap.size W W1) => CheckMould_n (H.mono h)
 have S10 := Lib.hid fun W1 (h : Below W.heap.size W W1) => refMould_spec (H.mono h)
 simp only [← hA, ← hE, ← hL1, ← hE1, ← hL2, ← hE2, ← hU, ← hE3] at S1 S2 S3 S4 S5 S6 S7 S8 S9 S10
 have HB0 : Hid (Below W.heap.size W (W.alloc (.cells #[.int .u64 (pl s 0), .int .u64 (pl s 1), .int .u64 (pl s 2), .int .u64 (pl s 3), .int .u64 (pl s 4), .int .u64 (pl s 5), .int .u64 (pl s 6), .int .u64 (pl s 7)] 64)) ∧ Blk (W.alloc (.cells #[.int .u64 (pl s 0), .int .u64 (pl s 1), .int .u64 (pl s 2), .int .u64 (pl s 3), .int .u64 (pl s 4), .int .u64 (pl s 5), .int .u64 (pl s 6), .int .u64 (pl s 7)] 64)) W.heap.size #[.int .u64 (pl s 0), .int .u64 (pl s 1), .int .u64 (pl s 2), .int .u64 (pl s 3), .int .u64 (pl s 4), .int .u64 (pl s 5), .int .u64 (pl s 6), .int .u64 (pl s 7)] 64) := Lib.hid ⟨bel_alloc (bel_refl _) _, Blk.new _ _ _⟩
 clear H hT hF hA hE hL1 hE1 hL2 hE2 hU hE3
 go_enter Tryz.func8, Tryz.ntmps8
 go_wp2_with fail
 refine (HFW.out _ HB0.out.1).mono ?_
 rintro e w1 ⟨rfl, hw1⟩
 have HB1 : Hid (Below W.heap.size W w1 ∧ Blk w1 W.heap.size #[.int .u64 (pl s 0), .int .u64 (pl s 1), .int .u64 (pl s 2), .int .u64 (pl s 3), .int .u64 (pl s 4), .int .u64 (pl s 5), .int .u64 (pl s 6), .int .u64 (pl s 7)] 64) := Lib.hid (by rw [hw1]; exact HB0.out)
 clear hw1 HB0
 cases F
 ·go_wp2_with fail
  refine (HC.out _ HB1.out.1).mono ?_
  rintro e w4 ⟨rfl, hb4⟩
  have H4 := Lib.hid (bel_trans HB1.out.1 hb4); clear hb4
  go_wp2_with fail
  go_ret
  exact ⟨rfl, H4.out⟩
 ·obtain ⟨N7, hN7⟩ : ∃ N, N = W.heap.size := ⟨_, rfl⟩
  have HU7 : Hid (Blk w1 N7 #[.int .u64 (pl s 0), .int .u64 (pl s 1), .int .u64 (pl s 2), .int .u64 (pl s 3), .int .u64 (pl s 4), .int .u64 (pl s 5), .int .u64 (pl s 6), .int .u64 (pl s 7)] 64) := Lib.hid (by rw [hN7]; exact HB1.out.2)
  have HP1 : Hid (Below W.heap.size W w1) := Lib.hid HB1.out.1
  have HN7 := Lib.hid hN7
  rw [← hN7]
  clear hN7 HB1
  go_wp2_with fail
  refine (S1.out _ HP1.out).mono ?_
  rintro e w2 ⟨rfl, hb⟩
  have HP2 := Lib.hid (bel_trans HP1.out hb)
  replace HU7 := Lib.hid (HU7.out.grow hb)
  clear hb
  have hnw : Below w2.heap.size w2 (w2.alloc (.cells #[.int .u64 (pl A 0), .int .u64 (pl A 1), .int .u64 (pl A 2), .int .u64 (pl A 3), .int .u64 (pl A 4), .int .u64 (pl A 5), .int .u64 (pl A 6), .int .u64 (pl A 7)] 64)) := bel_alloc (bel_refl _) _
  obtain ⟨w3, hw3⟩ : ∃ x, x = w2.alloc (.cells #[.int .u64 (pl A 0), .int .u64 (pl A 1), .int .u64 (pl A 2), .int .u64 (pl A 3), .int .u64 (pl A 4), .int .u64 (pl A 5), .int .u64 (pl A 6), .int .u64 (pl A 7)] 64) := ⟨_, rfl⟩
  rw [← hw3] at hnw
  have HP3 := Lib.hid (bel_trans HP2.out hnw)
  have HU9 : Hid (Blk w3 w2.heap.size #[.int .u64 (pl A 0), .int .u64 (pl A 1), .int .u64 (pl A 2), .int .u64 (pl A 3), .int .u64 (pl A 4), .int .u64 (pl A 5), .int .u64 (pl A 6), .int .u64 (pl A 7)] 64) := Lib.hid (by rw [hw3]; exact Blk.new _ _ _)
  replace HU7 := Lib.hid (HU7.out.grow hnw)
  go_wp2_with fail
  rw [← hw3]
  obtain ⟨N9, hN9⟩ : ∃ N, N = w2.heap.size := ⟨_, rfl⟩
  rw [← hN9] at HU9 ⊢
  clear hN9 hnw hw3
  refine (S2.out _ HP3.out).mono ?_
  rintro e w4 ⟨rfl, hb⟩
  have HP4 := Lib.hid (bel_trans HP3.out hb)
  replace HU7 := Lib.hid (HU7.out.grow hb)
  replace HU9 := Lib.hid (HU9.out.grow hb)
  clear hb
  have hnw : Below w4.heap.size w4 (w4.alloc (.cells #[.int .u64 (pl A 0), .int .u64 (pl A 1), .int .u64 (pl A 2), .int .u64 (pl A 3), .int .u64 (pl A 4), .int .u64 (pl A 5), .int .u64 (pl A 6), .int .u64 (pl A 7)] 64)) := bel_alloc (bel_refl _) _
  obtain ⟨w5, hw5⟩ : ∃ x, x = w4.alloc (.cells #[.int .u64 (pl A 0), .int .u64 (pl A 1), .int .u64 (pl A 2), .int .u64 (pl A 3), .int .u64 (pl A 4), .int .u64 (pl A 5), .int .u64 (pl A 6), .int .u64 (pl A 7)] 64) := ⟨_, rfl⟩
  rw [← hw5] at hnw
  have HP5 := Lib.hid (bel_trans HP4.out hnw)
  have HU11 : Hid (Blk w5 w4.heap.size #[.int .u64 (pl A 0), .int .u64 (pl A 1), .int .u64 (pl A 2), .int .u64 (pl A 3), .int .u64 (pl A 4), .int .u64 (pl A 5), .int .u64 (pl A 6), .int .u64 (pl A 7)] 64) := Lib.hid (by rw [hw5]; exact Blk.new _ _ _)
  replace HU7 := Lib.hid (HU7.out.grow hnw)
  replace HU9 := Lib.hid (HU9.out.grow hnw)
  go_wp2_with fail
  rw [← hw5]
  obtain ⟨N11, hN11⟩ : ∃ N, N = w4.heap.size := ⟨_, rfl⟩
  rw [← hN11] at HU11 ⊢
  clear hN11 hnw hw5
  refine (S3.out _ HP5.out).mono ?_
  rintro e w6 ⟨u1, rfl, hs, hb⟩
  have HP6 := Lib.hid (bel_trans HP5.out hb)
  replace HU7 := Lib.hid (HU7.out.grow hb)
  replace HU9 := Lib.hid (HU9.out.grow hb)
  replace HU11 := Lib.hid (HU11.out.grow hb)
  have HV1 := Lib.hid hs
  clear hb hs
  go_wp2_with fail
  refine (S4.out _ HP6.out).mono ?_
  rintro e w7 ⟨u2, rfl, hs, hb⟩
  have HP7 := Lib.hid (bel_trans HP6.out hb)
  replace HU7 := Lib.hid (HU7.out.grow hb)
  replace HU9 := Lib.hid (HU9.out.grow hb)
  replace HU11 := Lib.hid (HU11.out.grow hb)
  replace HV1 := Lib.hid (HV1.out.mono hb)
  have HV2 := Lib.hid hs
  clear hb hs
  go_wp2_with fail
  refine (S5.out _ HP7.out).mono ?_
  rintro e w8 ⟨u3, rfl, hs, hb⟩
  have HP8 := Lib.hid (bel_trans HP7.out hb)
  replace HU7 := Lib.hid (HU7.out.grow hb)
  replace HU9 := Lib.hid (HU9.out.grow hb)
  replace HU11 := Lib.hid (HU11.out.grow hb)
  replace HV1 := Lib.hid (HV1.out.mono hb)
  replace HV2 := Lib.hid (HV2.out.mono hb)
  have HV3 := Lib.hid hs
  clear hb hs
  go_wp2_with fail
  refine (S6.out _ HP8.out).mono ?_
  rintro e w9 ⟨u4, rfl, hs, hb⟩
  have HP9 := Lib.hid (bel_trans HP8.out hb)
  replace HU7 := Lib.hid (HU7.out.grow hb)
  replace HU9 := Lib.hid (HU9.out.grow hb)
  replace HU11 := Lib.hid (HU11.out.grow hb)
  replace HV1 := Lib.hid (HV1.out.mono hb)
  replace HV2 := Lib.hid (HV2.out.mono hb)
  replace HV3 := Lib.hid (HV3.out.mono hb)
  have HV4 := Lib.hid hs
  clear hb hs
  have hc := blk8 HU7.out
  have c0 := hc 0 (by decide)
  have c1 := hc 1 (by decide)
  have c2 := hc 2 (by decide)
  have c3 := hc 3 (by decide)
  have c4 := hc 4 (by decide)
  have c5 := hc 5 (by decide)
  have c6 := hc 6 (by decide)
  have c7 := hc 7 (by decide)
  have lc := HU7.out.lt
  clear hc
  go_wp2_with fail
  refine (S7.out _ HP9.out).mono ?_
  rintro e w10 ⟨rfl, hb⟩
  clear c0 c1 c2 c3 c4 c5 c6 c7 lc
  have HP10 := Lib.hid (bel_trans HP9.out hb)
  replace HU7 := Lib.hid (HU7.out.grow hb)
  replace HU9 := Lib.hid (HU9.out.grow hb)
  replace HU11 := Lib.hid (HU11.out.grow hb)
  replace HV1 := Lib.hid (HV1.out.mono hb)
  replace HV2 := Lib.hid (HV2.out.mono hb)
  replace HV3 := Lib.hid (HV3.out.mono hb)
  replace HV4 := Lib.hid (HV4.out.mono hb)
  clear hb
  have hnw : Below w10.heap.size w10 (w10.alloc (.cells #[.int .u64 (pl U 0), .int .u64 (pl U 1), .int .u64 (pl U 2), .int .u64 (pl U 3), .int .u64 (pl U 4), .int .u64 (pl U 5), .int .u64 (pl U 6), .int .u64 (pl U 7)] 64)) := bel_alloc (bel_refl _) _
  obtain ⟨w11, hw11⟩ : ∃ x, x = w10.alloc (.cells #[.int .u64 (pl U 0), .int .u64 (pl U 1), .int .u64 (pl U 2), .int .u64 (pl U 3), .int .u64 (pl U 4), .int .u64 (pl U 5), .int .u64 (pl U 6), .int .u64 (pl U 7)] 64) := ⟨_, rfl⟩
  rw [← hw11] at hnw
  have HP11 := Lib.hid (bel_trans HP10.out hnw)
  have HU21 : Hid (Blk w11 w10.heap.size #[.int .u64 (pl U 0), .int .u64 (pl U 1), .int .u64 (pl U 2), .int .u64 (pl U 3), .int .u64 (pl U 4), .int .u64 (pl U 5), .int .u64 (pl U 6), .int .u64 (pl U 7)] 64) := Lib.hid (by rw [hw11]; exact Blk.new _ _ _)
  have hcl := blk8 HU7.out
  have c0 := hcl 0 (by decide)
  have c1 := hcl 1 (by decide)
  have c2 := hcl 2 (by decide)
  have c3 := hcl 3 (by decide)
  have c4 := hcl 4 (by decide)
  have c5 := hcl 5 (by decide)
  have c6 := hcl 6 (by decide)
  have c7 := hcl 7 (by decide)
  have lc := HU7.out.lt
  clear hcl
  replace HU7 := Lib.hid (HU7.out.grow hnw)
  replace HU9 := Lib.hid (HU9.out.grow hnw)
  replace HU11 := Lib.hid (HU11.out.grow hnw)
  replace HV1 := Lib.hid (HV1.out.mono hnw)
  replace HV2 := Lib.hid (HV2.out.mono hnw)
  replace HV3 := Lib.hid (HV3.out.mono hnw)
  replace HV4 := Lib.hid (HV4.out.mono hnw)
  go_wp2_with fail
  rw [← hw11]
  obtain ⟨N21, hN21⟩ : ∃ N, N = w10.heap.size := ⟨_, rfl⟩
  rw [← hN21] at HU21 ⊢
  clear hN21 hnw hw11 c0 c1 c2 c3 c4 c5 c6 c7 lc
  refine (S8.out _ HP11.out).mono ?_
  rintro e w12 ⟨rfl, hb⟩
  have HP12 := Lib.hid (bel_trans HP11.out hb)
  replace HU7 := Lib.hid (HU7.out.grow hb)
  replace HU9 := Lib.hid (HU9.out.grow hb)
  replace HU11 := Lib.hid (HU11.out.grow hb)
  replace HV1 := Lib.hid (HV1.out.mono hb)
  replace HV2 := Lib.hid (HV2.out.mono hb)
  replace HV3 := Lib.hid (HV3.out.mono hb)
  replace HV4 := Lib.hid (HV4.out.mono hb)
  replace HU21 := Lib.hid (HU21.out.grow hb)
  clear hb
  have hnw : Below w12.heap.size w12 (w12.alloc (.cells #[.int .u64 (pl U 0), .int .u64 (pl U 1), .int .u64 (pl U 2), .int .u64 (pl U 3), .int .u64 (pl U 4), .int .u64 (pl U 5), .int .u64 (pl U 6), .int .u64 (pl U 7)] 64)) := bel_alloc (bel_refl _) _
  obtain ⟨w13, hw13⟩ : ∃ x, x = w12.alloc (.cells #[.int .u64 (pl U 0), .int .u64 (pl U 1), .int .u64 (pl U 2), .int .u64 (pl U 3), .int .u64 (pl U 4), .int .u64 (pl U 5), .int .u64 (pl U 6), .int .u64 (pl U 7)] 64) := ⟨_, rfl⟩
  rw [← hw13] at hnw
  have HP13 := Lib.hid (bel_trans HP12.out hnw)
  have HU23 : Hid (Blk w13 w12.heap.size #[.int .u64 (pl U 0), .int .u64 (pl U 1), .int .u64 (pl U 2), .int .u64 (pl U 3), .int .u64 (pl U 4), .int .u64 (pl U 5), .int .u64 (pl U 6), .int .u64 (pl U 7)] 64) := Lib.hid (by rw [hw13]; exact Blk.new _ _ _)
  replace HU7 := Lib.hid (HU7.out.grow hnw)
  replace HU9 := Lib.hid (HU9.out.grow hnw)
  replace HU11 := Lib.hid (HU11.out.grow hnw)
  replace HV1 := Lib.hid (HV1.out.mono hnw)
  replace HV2 := Lib.hid (HV2.out.mono hnw)
  replace HV3 := Lib.hid (HV3.out.mono hnw)
  replace HV4 := Lib.hid (HV4.out.mono hnw)
  replace HU21 := Lib.hid (HU21.out.grow hnw)
  go_wp2_with fail
  rw [← hw13]
  obtain ⟨N23, hN23⟩ : ∃ N, N = w12.heap.size := ⟨_, rfl⟩
  rw [← hN23] at HU23 ⊢
  clear hN23 hnw hw13
  refine (HC.out _ HP13.out).mono ?_
  rintro e w14 ⟨rfl, hb⟩
  have HP14 := Lib.hid (bel_trans HP13.out hb)
  replace HU7 := Lib.hid (HU7.out.grow hb)
  replace HU9 := Lib.hid (HU9.out.grow hb)
  replace HU11 := Lib.hid (HU11.out.grow hb)
  replace HV1 := Lib.hid (HV1.out.mono hb)
  replace HV2 := Lib.hid (HV2.out.mono hb)
  replace HV3 := Lib.hid (HV3.out.mono hb)
  replace HV4 := Lib.hid (HV4.out.mono hb)
  replace HU21 := Lib.hid (HU21.out.grow hb)
  replace HU23 := Lib.hid (HU23.out.grow hb)
  clear hb
  go_wp2_with fail
  refine (S9.out _ HP14.out).mono ?_
  rintro e w15 ⟨rfl, hb⟩
  have HP15 := Lib.hid (bel_trans HP14.out hb)
  replace HU7 := Lib.hid (HU7.out.grow hb)
  replace HU9 := Lib.hid (HU9.out.grow hb)
  replace HU11 := Lib.hid (HU11.out.grow hb)
  replace HV1 := Lib.hid (HV1.out.mono hb)
  replace HV2 := Lib.hid (HV2.out.mono hb)
  replace HV3 := Lib.hid (HV3.out.mono hb)
  replace HV4 := Lib.hid (HV4.out.mono hb)
  replace HU21 := Lib.hid (HU21.out.grow hb)
  replace HU23 := Lib.hid (HU23.out.grow hb)
  clear hb
  go_wp2_with fail
  refine (S10.out _ HP15.out).mono ?_
  rintro e w16 ⟨rfl, hb⟩
  have HP16 := Lib.hid (bel_trans HP15.out hb)
  replace HU7 := Lib.hid (HU7.out.grow hb)
  replace HU9 := Lib.hid (HU9.out.grow hb)
  replace HU11 := Lib.hid (HU11.out.grow hb)
  replace HV1 := Lib.hid (HV1.out.mono hb)
  replace HV2 := Lib.hid (HV2.out.mono hb)
  replace HV3 := Lib.hid (HV3.out.mono hb)
  replace HV4 := Lib.hid (HV4.out.mono hb)
  replace HU21 := Lib.hid (HU21.out.grow hb)
  replace HU23 := Lib.hid (HU23.out.grow hb)
  clear hb
  have hc9 := blk8 HU9.out
  have c9_0 := hc9 0 (by decide)
  have c9_1 := hc9 1 (by decide)
  have c9_2 := hc9 2 (by decide)
  have c9_3 := hc9 3 (by decide)
  have c9_4 := hc9 4 (by decide)
  have c9_5 := hc9 5 (by decide)
  have c9_6 := hc9 6 (by decide)
  have c9_7 := hc9 7 (by decide)
  have lc9 := HU9.out.lt
  clear hc9
  have hc11 := blk8 HU11.out
  have c11_0 := hc11 0 (by decide)
  have c11_1 := hc11 1 (by decide)
  have c11_2 := hc11 2 (by decide)
  have c11_3 := hc11 3 (by decide)
  have c11_4 := hc11 4 (by decide)
  have c11_5 := hc11 5 (by decide)
  have c11_6 := hc11 6 (by decide)
  have c11_7 := hc11 7 (by decide)
  have lc11 := HU11.out.lt
  clear hc11
  go_wp2_with fail
  refine (SameSolids_spec HV1.out HV2.out).mono ?_
  rintro e w17 ⟨rfl, hb⟩
  clear c9_0 c9_1 c9_2 c9_3 c9_4 c9_5 c9_6 c9_7 c11_0 c11_1 c11_2 c11_3 c11_4 c11_5 c11_6 c11_7 lc9 lc11
  rw [beq_self_eq_true]
  have HP17 := Lib.hid (bel_trans HP16.out hb)
  replace HU7 := Lib.hid (HU7.out.grow hb)
  replace HU9 := Lib.hid (HU9.out.grow hb)
  replace HU11 := Lib.hid (HU11.out.grow hb)
  replace HV1 := Lib.hid (HV1.out.mono hb)
  replace HV2 := Lib.hid (HV2.out.mono hb)
  replace HV3 := Lib.hid (HV3.out.mono hb)
  replace HV4 := Lib.hid (HV4.out.mono hb)
  replace HU21 := Lib.hid (HU21.out.grow hb)
  replace HU23 := Lib.hid (HU23.out.grow hb)
  clear hb
  go_wp2_with fail
  refine (SameSolids_spec HV3.out HV4.out).mono ?_
  rintro e w18 ⟨rfl, hb⟩
  rw [beq_self_eq_true]
  have HP18 := Lib.hid (bel_trans HP17.out hb)
  replace HU7 := Lib.hid (HU7.out.grow hb)
  replace HU9 := Lib.hid (HU9.out.grow hb)
  replace HU11 := Lib.hid (HU11.out.grow hb)
  replace HV1 := Lib.hid (HV1.out.mono hb)
  replace HV2 := Lib.hid (HV2.out.mono hb)
  replace HV3 := Lib.hid (HV3.out.mono hb)
  replace HV4 := Lib.hid (HV4.out.mono hb)
  replace HU21 := Lib.hid (HU21.out.grow hb)
  replace HU23 := Lib.hid (HU23.out.grow hb)
  clear hb
  have hc21 := blk8 HU21.out
  have c21_0 := hc21 0 (by decide)
  have c21_1 := hc21 1 (by decide)
  have c21_2 := hc21 2 (by decide)
  have c21_3 := hc21 3 (by decide)
  have c21_4 := hc21 4 (by decide)
  have c21_5 := hc21 5 (by decide)
  have c21_6 := hc21 6 (by decide)
  have c21_7 := hc21 7 (by decide)
  have lc21 := HU21.out.lt
  clear hc21
  have hc23 := blk8 HU23.out
  have c23_0 := hc23 0 (by decide)
  have c23_1 := hc23 1 (by decide)
  have c23_2 := hc23 2 (by decide)
  have c23_3 := hc23 3 (by decide)
  have c23_4 := hc23 4 (by decide)
  have c23_5 := hc23 5 (by decide)
  have c23_6 := hc23 6 (by decide)
  have c23_7 := hc23 7 (by decide)
  have lc23 := HU23.out.lt
  clear hc23
  go_wp2_with fail
  go_ret
  exact ⟨ret_bool (by simp), HP18.out⟩
end Go.Proofs.YtlbhjikkpbknnaaGreatDoor
end
