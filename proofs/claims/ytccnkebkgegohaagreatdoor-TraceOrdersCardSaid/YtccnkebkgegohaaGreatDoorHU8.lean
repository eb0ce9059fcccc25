import Derived.Test.YtccnkebkgegohaaGreatDoorHTrl
/-
  Given contracts of functions of the program, and laws for them, one behind the other.
-/
set_option linter.unusedVariables false
set_option linter.unusedSimpArgs false
set_option linter.unusedSectionVars false
section
namespace Go.Proofs.YtccnkebkgegohaaGreatDoor
open Go.RowKit Go.Rel
set_option maxRecDepth 100000
/-! Orders, of the reference -/
set_option maxHeartbeats 2000000 in
theorem refOrders_no (b : Sol) (p q : Option Addr) (n c k d : Nat) (x y : Int) (hne : (y != 0) = true) (w : World) (H : Hid (∀ w', Below w.heap.size w w' → Calls Tryz.prog 38 #[.agg #[.int .u64 (pl b 0), .int .u64 (pl b 1), .int .u64 (pl b 2), .int .u64 (pl b 3), .int .u64 (pl b 4), .int .u64 (pl b 5), .int .u64 (pl b 6), .int .u64 (pl b 7), .slice p n c, .slice q k d]] w' fun e w'' => e = .returned (.tuple #[.int .i64 x, .int .i64 y]) ∧ Below w'.heap.size w' w'')) :
    Calls Tryz.prog 53 #[.agg #[.int .u64 (pl b 0), .int .u64 (pl b 1), .int .u64 (pl b 2), .int .u64 (pl b 3), .int .u64 (pl b 4), .int .u64 (pl b 5), .int .u64 (pl b 6), .int .u64 (pl b 7), .slice p n c, .slice q k d]] w fun e w' => e = .returned (.tuple #[.int .i64 0, .int .i64 y]) ∧ Below w.heap.size w w' := by
  go_enter Tryz.func53, Tryz.ntmps53
  go_wp2_with fail
  refine (H.out _ bel_by).mono ?_
  rintro e wa ⟨rfl, hb⟩
  have hB1 : Below w.heap.size w wa := bel_trans bel_by hb
  clear hb
  go_wp2_with fail
  refine bodyPost_ret (by simp [results, Tryz.results53, go_sem]) rfl ⟨rfl, hB1⟩
theorem and_pow (s j : Nat) : (((s &&& 2 ^ j : Nat) : Int) == 0) = !s.testBit j := by
  cases h : s.testBit j with
  | true =>
    have : s &&& 2 ^ j ≠ 0 := fun e => by
      have h1 := congrArg (fun z => z.testBit j) e
      simp [Nat.testBit_and, h, Nat.testBit_two_pow] at h1
    rw [Bool.not_true, beq_eq_false_iff_ne]
    omega
  | false =>
    have : s &&& 2 ^ j = 0 := Nat.eq_of_testBit_eq fun i => by
      rw [Nat.testBit_and, Nat.testBit_two_pow, Nat.zero_testBit]
      by_cases e : j = i
      · subst e; rw [h]; rfl
      · simp [e]
    rw [this]; rfl
theorem mask_yes {p : Nat → Bool} {j : Nat} (h : p j = true) : maskN p (j + 1) = maskN p j + 2 ^ j := by show maskN p j + (if p j then 2 ^ j else 0) = _; rw [if_pos h]
theorem mask_no {p : Nat → Bool} {j : Nat} (h : p j = false) : maskN p (j + 1) = maskN p j := by show maskN p j + (if p j then 2 ^ j else 0) = _; rw [if_neg (by rw [h]; decide)]; rfl
set_option maxHeartbeats 16000000 in
theorem refOrders_yes (b : Sol) (p q : Option Addr) (n c k d : Nat) (dep : Nat → Nat → Bool) (h14 : k ≤ 14) (w : World) (H : Hid (∀ w', Below w.heap.size w w' → Calls Tryz.prog 38 #[.agg #[.int .u64 (pl b 0), .int .u64 (pl b 1), .int .u64 (pl b 2), .int .u64 (pl b 3), .int .u64 (pl b 4), .int .u64 (pl b 5), .int .u64 (pl b 6), .int .u64 (pl b 7), .slice p n c, .slice q k d]] w' fun e w'' => e = .returned (.tuple #[.int .i64 0, .int .i64 0]) ∧ Below w'.heap.size w' w''))
    (H118 : Hid (∀ i : Nat, i < k → ∀ w', Below w.heap.size w w' → Calls Tryz.prog 118 #[.agg #[.int .u64 (pl b 0), .int .u64 (pl b 1), .int .u64 (pl b 2), .int .u64 (pl b 3), .int .u64 (pl b 4), .int .u64 (pl b 5), .int .u64 (pl b 6), .int .u64 (pl b 7), .slice p n c, .slice q k d], .int .i64 (i : Int)] w' fun e w'' => ∃ g, e = .returned (.slice (some ⟨g, 0, none⟩) k k) ∧ w'.heap.size ≤ g ∧ Blk w'' g (tab k (fun t => .bool (aheadR dep i t))) 4 ∧ Below w'.heap.size w' w'')) :
    Calls Tryz.prog 53 #[.agg #[.int .u64 (pl b 0), .int .u64 (pl b 1), .int .u64 (pl b 2), .int .u64 (pl b 3), .int .u64 (pl b 4), .int .u64 (pl b 5), .int .u64 (pl b 6), .int .u64 (pl b 7), .slice p n c, .slice q k d]] w fun e w' => e = .returned (.tuple #[.int .i64 (ordersR dep k), .int .i64 0]) ∧ Below w.heap.size w w' := by
  obtain ⟨i3, hi0, hz0, hz1, hz2⟩ := info_parts info3
  have HI3 := Lib.hid (And.intro hi0 (And.intro hz0 (And.intro hz1 hz2))); clear hi0 hz0 hz1 hz2
  obtain ⟨nd, hnd⟩ : ∃ nd : Nat → Nat, nd = fun i => maskN (aheadR dep i) k := ⟨_, rfl⟩
  have HND : Hid (∀ i, nd i = maskN (aheadR dep i) k) := Lib.hid fun i => by rw [hnd]
  have HORD : Hid (ordersR dep k = outR nd k (2 ^ k) (2 ^ k - 1)) := Lib.hid (by rw [hnd]; rfl)
  clear hnd
  go_enter Tryz.func53, Tryz.ntmps53
  go_wp2_with fail
  refine (H.out _ bel_by).mono ?_
  rintro e wa ⟨rfl, hb⟩
  have hB1 : Below w.heap.size w wa := bel_trans bel_by hb
  have g0 : Blk wa w.heap.size #[.int .u64 (pl b 0), .int .u64 (pl b 1), .int .u64 (pl b 2), .int .u64 (pl b 3), .int .u64 (pl b 4), .int .u64 (pl b 5), .int .u64 (pl b 6), .int .u64 (pl b 7), .slice p n c, .slice q k d] 30 := Blk.grow blk_by hb
  have c0 := g0.cell
  have l0 := g0.lt
  have HG0 := Lib.hid (And.intro g0 hB1)
  clear hb g0 H
  go_wp2_with (first | (at_make; refine wpList_make_full _ rfl _ _ 66 rfl wa.heap.size 3 i3 (.int .i64 0) 1 Tryz.underlying66 HI3.out.1 HI3.out.2.1 HI3.out.2.2.1 .i64 .i64 _ _ k rfl rfl rfl rfl (by rw [HI3.out.2.2.2]; omega) (by unfold maxLen; omega) (Nat.le_refl _) ?_; intro w2 hown2 hgrow2; have HA2 := Lib.hid (own_made hown2).1; have HBel : Hid (Below wa.heap.size wa w2) := Lib.hid ((Below.refl _ _).grown hgrow2 (Nat.le_refl _) (fun j hj => by cases hj)); clear hown2 hgrow2))
  clear c0
  go_loopw [8] (fun y wr => ∃ i : Nat, i ≤ k ∧ y = .int .i64 i ∧ Blk wr wa.heap.size (tab k (fun t => .int .i64 (if t < i then (nd t : Int) else 0))) 3 ∧ Blk wr w.heap.size #[.int .u64 (pl b 0), .int .u64 (pl b 1), .int .u64 (pl b 2), .int .u64 (pl b 3), .int .u64 (pl b 4), .int .u64 (pl b 5), .int .u64 (pl b 6), .int .u64 (pl b 7), .slice p n c, .slice q k d] 30 ∧ Below w.heap.size w wr) (fun y _ => k - (intOf y).toNat)
  case atStart => exact ⟨0, Nat.zero_le _, rfl, by simpa using HA2.out, HG0.out.1.grow HBel.out, bel_trans hB1 HBel.out⟩
  case round =>
    obtain ⟨i, hi, rfl, hA, g0, hB⟩ := hrel
    clear HA2 HBel HG0
    by_cases hlt : i < k
    · have c0 := g0.cell
      have l0' := g0.lt
      go_wp2_with fail
      refine (H118.out i hlt _ hB).mono ?_
      rintro e w3 ⟨g, rfl, hg, gT, hb3⟩
      have hlA := hA.lt
      have hgA : g ≠ wa.heap.size := by omega
      have hg0 : g ≠ w.heap.size := by omega
      have hlw0 : w.heap.size < wa.heap.size := l0
      have hA3 : Blk w3 wa.heap.size (tab k (fun t => .int .i64 (if t < i then (nd t : Int) else if t = i then (maskN (aheadR dep i) 0 : Int) else 0))) 3 := by
        refine (congrArg (fun a => Blk _ _ a 3) (tab_congr fun t ht => ?_)).mp (hA.grow hb3)
        by_cases e1 : t < i
        · rw [if_pos e1, if_pos e1]
        · rw [if_neg e1, if_neg e1]
          by_cases e2 : t = i
          · rw [if_pos e2]; rfl
          · rw [if_neg e2]
      have g03 := g0.grow hb3
      have hB3 := bel_trans hB hb3
      clear hA g0 hB hb3 c0 l0'
      go_wp2_with fail
      go_loopw [10] (fun y wq => ∃ j : Nat, j ≤ k ∧ y = .int .i64 j ∧ Blk wq wa.heap.size (tab k (fun t => .int .i64 (if t < i then (nd t : Int) else if t = i then (maskN (aheadR dep i) j : Int) else 0))) 3 ∧ Blk wq g (tab k (fun t => .bool (aheadR dep i t))) 4 ∧ Blk wq w.heap.size #[.int .u64 (pl b 0), .int .u64 (pl b 1), .int .u64 (pl b 2), .int .u64 (pl b 3), .int .u64 (pl b 4), .int .u64 (pl b 5), .int .u64 (pl b 6), .int .u64 (pl b 7), .slice p n c, .slice q k d] 30 ∧ Below w.heap.size w wq) (fun y _ => k - (intOf y).toNat)
      case atStart => exact ⟨0, Nat.zero_le _, rfl, hA3, gT, g03, hB3⟩
      case round =>
        clear hA3 gT g03 hB3
        obtain ⟨j, hj, rfl, hA, gT, g0, hB⟩ := hrel
        by_cases hlj : j < k
        · have cT := (gT.cell j).trans (tab_get hlj)
          have lT := gT.lt
          cases hp : aheadR dep i j with
          | false =>
            rw [hp] at cT
            go_wp2_with fail
            go_roundw
            case rel => exact ⟨j + 1, by omega, by go_num, by rw [mask_no hp]; exact hA, gT, g0, hB⟩
            case measure => simp [intOf]; omega
          | true =>
            rw [hp] at cT
            have hcA := (hA.cell i).trans (tab_get hlt)
            rw [if_neg (Nat.lt_irrefl i), if_pos rfl] at hcA
            have lA := hA.lt
            have fA := hA.free i
            have hM := mask_lt (aheadR dep i) (j + 1)
            rw [mask_yes hp] at hM
            have h2 : (2 : Nat) ^ (j + 1) ≤ 2 ^ 14 := Nat.pow_le_pow_right (by decide) (by omega)
            have h3 : (2 : Nat) ^ 14 = 16384 := by decide
            have hP : (2 : Int) ^ j = ((2 ^ j : Nat) : Int) := by simp
            have HMY := Lib.hid (mask_yes hp)
            generalize (2 : Nat) ^ (j + 1) = PP at *
            clear h3
            obtain ⟨a0, ha0⟩ : ∃ a0 : Nat, a0 = maskN (aheadR dep i) j := ⟨_, rfl⟩
            obtain ⟨P2, hP2⟩ : ∃ P2 : Nat, P2 = 2 ^ j := ⟨_, rfl⟩
            rw [← ha0] at hcA hM
            rw [← hP2] at hM hP
            have HAA := Lib.hid (And.intro ha0 hP2)
            have HAB := Lib.hid (And.intro hA (And.intro gT (And.intro g0 hB)))
            have hsh : shl1 (j : Int) = (P2 : Int) := by unfold shl1; rw [Int.toNat_natCast, hP]; exact IntWalk.i64_in _ (by omega)
            clear hA gT g0 hB ha0 hP2
            go_wp2_with fail
            go_roundw
            case rel =>
              refine ⟨j + 1, by omega, by go_num, ?_, HAB.out.2.1.other (by simp; omega) _, HAB.out.2.2.1.other (by simp; omega) _, HAB.out.2.2.2.setCell (by simp; omega) _⟩
              have hs := HAB.out.1.set i (.int .i64 ((a0 : Int) + (P2 : Int)))
              rw [tab_set] at hs
              refine (congrArg (fun a => Blk _ _ a 3) (tab_congr fun t ht => ?_)).mp hs
              by_cases e : t = i
              · subst e
                rw [if_pos rfl, if_neg (Nat.lt_irrefl t), if_pos rfl, HMY.out, HAA.out.1, HAA.out.2]; simp
              · rw [if_neg e, if_neg e, if_neg e]
            case measure => simp [intOf]; omega
        · have hjk : j = k := by omega
          subst hjk
          go_wp2_with fail
          go_roundw
          case rel => exact ⟨i + 1, by omega, by go_num, by
              refine (congrArg (fun a => Blk _ _ a 3) (tab_congr fun t ht => ?_)).mp hA
              by_cases e1 : t < i
              · rw [if_pos e1, if_pos (by omega)]
              · by_cases e2 : t = i
                · subst e2; rw [if_neg e1, if_pos rfl, if_pos (by omega), HND.out]
                · rw [if_neg e1, if_neg e2, if_neg (by omega)], g0, hB⟩
          case measure => simp [intOf]; omega
    · have hik : i = k := by omega
      subst hik
      have hA' : Blk wr wa.heap.size (tab i (fun t => .int .i64 (nd t : Int))) 3 := by
        refine (congrArg (fun a => Blk _ _ a 3) (tab_congr fun t ht => ?_)).mp hA
        rw [if_pos ht]
      have HAB := Lib.hid (And.intro hA' hB)
      have hlA := hA.lt
      have hlw0 : w.heap.size < wa.heap.size := l0
      clear hA' hA hB g0 H118
      obtain ⟨N, hN⟩ : ∃ N : Nat, N = 2 ^ i := ⟨_, rfl⟩
      have hN1 : N ≤ 16384 := by rw [hN]; exact Nat.le_trans (Nat.pow_le_pow_right (by decide) h14) (by decide)
      have hN0 : 0 < N := by rw [hN]; exact Nat.two_pow_pos i
      have hPk : (2 : Int) ^ i = (N : Int) := by rw [hN]; simp
      have HNP := Lib.hid hN
      have HORD' : Hid (ordersR dep i = outR nd i N (N - 1)) := Lib.hid (by rw [hN]; exact HORD.out)
      clear hN HORD
      go_wp2_with (first | (at_make; refine wpList_make_full _ rfl _ _ 66 rfl wr.heap.size 3 i3 (.int .i64 0) 1 Tryz.underlying66 HI3.out.1 HI3.out.2.1 HI3.out.2.2.1 .i64 .i64 _ _ N rfl rfl rfl rfl (by rw [HI3.out.2.2.2]; omega) (by unfold maxLen; omega) (Nat.le_refl _) ?_; intro w4 hown4 hgrow4; have hb4 := (own_made hown4).1; have c4 := (hb4.cell 0).trans (tab_get hN0); have f4 := hb4.free 0; have l4 := hb4.lt; have HW4 := Lib.hid hb4; have HBel4 : Hid (Below wr.heap.size wr w4) := Lib.hid ((Below.refl _ _).grown hgrow4 (Nat.le_refl _) (fun j hj => by cases hj)); clear hb4 hown4 hgrow4))
      clear c4 f4 l4
      have HAw := Lib.hid (And.intro (HAB.out.1.grow HBel4.out) (bel_trans HAB.out.2 HBel4.out))
      clear HAB HBel4
      generalize hhw : wr.heap.size = hw at *
      clear hhw
      go_loopw [12] (fun y wq => ∃ set : Nat, set ≤ N ∧ y = .int .i64 set ∧ Blk wq hw (tab N (fun t => .int .i64 (outR nd i set t))) 3 ∧ Blk wq wa.heap.size (tab i (fun t => .int .i64 (nd t : Int))) 3 ∧ Below w.heap.size w wq) (fun y _ => N - (intOf y).toNat)
      case atStart =>
        refine ⟨0, Nat.zero_le _, rfl, ?_, HAw.out.1.other (by simp; omega) _, HAw.out.2.setCell (by simp; omega) _⟩
        have hs := HW4.out.set 0 (.int .i64 1)
        rw [tab_set] at hs
        refine (congrArg (fun a => Blk _ _ a 3) (tab_congr fun t ht => ?_)).mp hs
        by_cases e : t = 0
        · subst e; rfl
        · rw [if_neg e]; show _ = Value.int .i64 (if t = 0 then 1 else 0); rw [if_neg e]
      case round =>
        clear HW4 HAw
        obtain ⟨set, hset, rfl, hW, hA, hB⟩ := hrel
        by_cases hst : set < N
        · go_wp2_with fail
          go_loopw [13] (fun y wq => ∃ j : Nat, j ≤ i ∧ y = .int .i64 j ∧ Blk wq hw (tab N (fun t => .int .i64 (inR nd set (outR nd i set) j t))) 3 ∧ Blk wq wa.heap.size (tab i (fun t => .int .i64 (nd t : Int))) 3 ∧ Below w.heap.size w wq) (fun y _ => i - (intOf y).toNat)
          case atStart => exact ⟨0, Nat.zero_le _, rfl, hW, hA, hB⟩
          case round =>
            clear hW hA hB
            obtain ⟨j, hj, rfl, hW, hA, hB⟩ := hrel
            by_cases hjt : j < i
            · have hsm := (inR_small (nd := nd) h14 (outR_small (nd := nd) h14 set) j (by omega)).bound h14
              obtain ⟨P2, hP2⟩ : ∃ P2 : Nat, P2 = 2 ^ j := ⟨_, rfl⟩
              have hPN : P2 < N := by rw [hP2, HNP.out]; exact Nat.pow_lt_pow_right (by decide) hjt
              have hPj : (2 : Int) ^ j = (P2 : Int) := by rw [hP2]; simp
              obtain ⟨ndj, hndj⟩ : ∃ ndj : Nat, ndj = nd j := ⟨_, rfl⟩
              have hnd1 : ndj < 16385 := by
                rw [hndj, HND.out]
                have h1 := mask_lt (aheadR dep j) i
                rw [← HNP.out] at h1
                omega
              have hc1 : (bits .and .i64 (set : Int) (P2 : Int) == 0) = !set.testBit j := by
                rw [and_nat (by omega) (by omega), hP2]
                exact and_pow set j
              obtain ⟨c2, hc2⟩ : ∃ c2, decide (nd j &&& set = nd j) = c2 := ⟨_, rfl⟩
              have hc2' : (bits .and .i64 (set : Int) (ndj : Int) == (ndj : Int)) = c2 := by
                rw [and_nat (by omega) (by omega), ← hc2, hndj, Nat.and_comm, Bool.eq_iff_iff]
                simp
                omega
              have hcond : condR nd set j = (!set.testBit j && c2) := by unfold condR; rw [hc2]
              have cA := (hA.cell j).trans (tab_get hjt)
              rw [← hndj] at cA
              have lA := hA.lt
              have HP2 := Lib.hid hP2
              have HB := Lib.hid (And.intro hW (And.intro hA hB))
              have HCO := Lib.hid hcond
              clear hW hA hB hcond hc2 hP2 hndj
              cases htb : set.testBit j with
              | true =>
                rw [htb] at hc1
                have HC0 : Hid (condR nd set j = false) := Lib.hid (by rw [HCO.out, htb]; rfl)
                go_wp2_with fail
                refine wp_region_inv Grows (fun _ _ => True) [Is (.int .i64 (set : Int)), Is (.int .i64 (P2 : Int)), Is (.int .i64 (bits .and .i64 (set : Int) (P2 : Int))), Is (.bool false), Is (.bool false), AnyV, AnyV, AnyV, AnyV, AnyV, AnyV, AnyV, AnyV, AnyV, AnyV, AnyV, Is (.bool false)] (by kernel_rfl) (by kernel_rfl) rfl Grows.refl (fun _ _ _ => Grows.trans) (stable_mem ⟨fun _ _ _ h _ => h, fun _ _ _ h _ => h, fun _ _ _ h _ => h, fun _ _ _ h _ => h, fun _ _ _ h _ => h, fun _ _ _ h _ => h, fun _ _ _ h _ => h, fun _ _ _ h _ => h, fun _ _ _ h _ => h, fun _ _ _ h _ => h, fun _ _ _ h _ => h, fun _ _ _ h _ => h, fun _ _ _ h _ => h, fun _ _ _ h _ => h, fun _ _ _ h _ => h, fun _ _ _ h _ => h, fun _ _ _ h _ => h, trivial⟩) _ (Below.drew (Below.refl _ _)) trivial ?_
                refine inv_cons ?_ (fun v0 => ?_)
                · intro L w1 hat hb hI hF
                  have hc := (Grows.cells hb).1
                  try simp [factsI, Region.binds, Is] at hF
                  go_simp
                  try exact Grows.refl _
                refine inv_cons ?_ (fun v1 => ?_)
                · intro L w1 hat hb hI hF
                  have hc := (Grows.cells hb).1
                  try simp [factsI, Region.binds, Is] at hF
                  go_simp
                  try exact Grows.refl _
                refine inv_cons ?_ (fun v2 => ?_)
                · intro L w1 hat hb hI hF
                  have hc := (Grows.cells hb).1
                  try simp [factsI, Region.binds, Is] at hF
                  go_simp
                  try exact Grows.refl _
                refine inv_cons ?_ (fun v3 => ?_)
                · intro L w1 hat hb hI hF
                  have hc := (Grows.cells hb).1
                  try simp [factsI, Region.binds, Is] at hF
                  go_simp
                  try exact Grows.refl _
                refine inv_cons ?_ (fun v4 => ?_)
                · intro L w1 hat hb hI hF
                  have hc := (Grows.cells hb).1
                  try simp [factsI, Region.binds, Is] at hF
                  go_simp
                  try exact Grows.refl _
                refine inv_cons ?_ (fun v5 => ?_)
                · intro L w1 hat hb hI hF
                  have hc := (Grows.cells hb).1
                  try simp [factsI, Region.binds, Is] at hF
                  go_simp
                  first | done | exact trivial
                refine inv_cons ?_ (fun v6 => ?_)
                · intro L w1 hat hb hI hF
                  have hc := (Grows.cells hb).1
                  try simp [factsI, Region.binds, Is] at hF
                  go_simp
                  first | done | exact trivial
                refine inv_cons ?_ (fun v7 => ?_)
                · intro L w1 hat hb hI hF
                  have hc := (Grows.cells hb).1
                  try simp [factsI, Region.binds, Is] at hF
                  go_simp
                  first | done | exact trivial
                refine inv_cons ?_ (fun v8 => ?_)
                · intro L w1 hat hb hI hF
                  have hc := (Grows.cells hb).1
                  try simp [factsI, Region.binds, Is] at hF
                  go_simp
                  first | done | exact trivial
                refine inv_cons ?_ (fun v9 => ?_)
                · intro L w1 hat hb hI hF
                  have hc := (Grows.cells hb).1
                  try simp [factsI, Region.binds, Is] at hF
                  go_simp
                  first | done | exact trivial
                refine inv_cons ?_ (fun v10 => ?_)
                · intro L w1 hat hb hI hF
                  have hc := (Grows.cells hb).1
                  try simp [factsI, Region.binds, Is] at hF
                  go_simp
                  first | done | exact trivial
                refine inv_cons ?_ (fun v11 => ?_)
                · intro L w1 hat hb hI hF
                  have hc := (Grows.cells hb).1
                  try simp [factsI, Region.binds, Is] at hF
                  go_simp
                  first | done | exact trivial
                refine inv_cons ?_ (fun v12 => ?_)
                · intro L w1 hat hb hI hF
                  have hc := (Grows.cells hb).1
                  try simp [factsI, Region.binds, Is] at hF
                  go_simp
                  first | done | exact trivial
                refine inv_cons ?_ (fun v13 => ?_)
                · intro L w1 hat hb hI hF
                  have hc := (Grows.cells hb).1
                  try simp [factsI, Region.binds, Is] at hF
                  go_simp
                  first | done | exact trivial
                refine inv_cons ?_ (fun v14 => ?_)
                · intro L w1 hat hb hI hF
                  have hc := (Grows.cells hb).1
                  try simp [factsI, Region.binds, Is] at hF
                  go_simp
                  first | done | exact trivial
                refine inv_cons ?_ (fun v15 => ?_)
                · intro L w1 hat hb hI hF
                  have hc := (Grows.cells hb).1
                  try simp [factsI, Region.binds, Is] at hF
                  go_simp
                  first | done | exact trivial
                refine inv_cons ?_ (fun v16 => ?_)
                · intro L w1 hat hb hI hF
                  have hc := (Grows.cells hb).1
                  try simp [factsI, Region.binds, Is] at hF
                  go_simp
                  try exact Grows.refl _
                refine inv_nil ?_
                intro w1 hb hI hF
                simp [Is, Nat.forall_lt_succ_right] at hF
                have e0 := hF.1.1.1.1.1.1.1.1.1.1.1.1.1.1.1.1
                have e1 := hF.1.1.1.1.1.1.1.1.1.1.1.1.1.1.1.2
                have e2 := hF.1.1.1.1.1.1.1.1.1.1.1.1.1.1.2
                have e3 := hF.1.1.1.1.1.1.1.1.1.1.1.1.1.2
                have e4 := hF.1.1.1.1.1.1.1.1.1.1.1.1.2
                have e5 := hF.1.1.1.1.1.1.1.1.1.1.1.2
                have e6 := hF.1.1.1.1.1.1.1.1.1.1.2
                have e7 := hF.1.1.1.1.1.1.1.1.1.2
                have e8 := hF.1.1.1.1.1.1.1.1.2
                have e9 := hF.1.1.1.1.1.1.1.2
                have e10 := hF.1.1.1.1.1.1.2
                have e11 := hF.1.1.1.1.1.2
                have e12 := hF.1.1.1.1.2
                have e13 := hF.1.1.1.2
                have e14 := hF.1.1.2
                have e15 := hF.1.2
                have e16 := hF.2
                clear hF
                simp only [Act.put, List.setIfInBounds_toArray, List.set_cons_succ, List.set_cons_zero, e0, e1, e2, e3, e4, e16]
                clear e0 e1 e2 e3 e4 e16
                have hB2 := And.intro (HB.out.1.grow hb) (And.intro (HB.out.2.1.grow hb) (bel_trans HB.out.2.2 hb))
                clear hb cA lA hc1 hc2'
                go_wp2_with fail
                go_roundw
                case rel =>
                  refine ⟨j + 1, by omega, by go_num, ?_, hB2.2.1, hB2.2.2⟩
                  refine (congrArg (fun a => Blk _ _ a 3) (tab_congr fun t ht => ?_)).mp hB2.1
                  show _ = Value.int .i64 (if condR nd set j = true ∧ t = set ||| 2 ^ j then _ else _)
                  rw [HC0.out, if_neg (by simp)]
                case measure => simp [intOf]; omega
              | false =>
                rw [htb] at hc1
                have hc1' : (bits .and .i64 (set : Int) (P2 : Int) == 0) = true := hc1
                clear hc1
                go_wp2_with fail
                refine wp_region_inv Grows (fun _ _ => True) [Is (.int .i64 (set : Int)), Is (.int .i64 (P2 : Int)), Is (.int .i64 (bits .and .i64 (set : Int) (P2 : Int))), Is (.bool true), Is (.bool true), Is (.int .i64 (set : Int)), Is (.slice (some ⟨wa.heap.size, 0, none⟩) i i), Is (.int .i64 (j : Int)), Is (.pointer (some ⟨wa.heap.size, j, none⟩)), Is (.int .i64 (ndj : Int)), Is (.int .i64 (bits .and .i64 (set : Int) (ndj : Int))), Is (.slice (some ⟨wa.heap.size, 0, none⟩) i i), Is (.int .i64 (j : Int)), Is (.pointer (some ⟨wa.heap.size, j, none⟩)), Is (.int .i64 (ndj : Int)), Is (.bool c2), Is (.bool c2)] (by kernel_rfl) (by kernel_rfl) rfl Grows.refl (fun _ _ _ => Grows.trans) (stable_mem ⟨fun _ _ _ h _ => h, fun _ _ _ h _ => h, fun _ _ _ h _ => h, fun _ _ _ h _ => h, fun _ _ _ h _ => h, fun _ _ _ h _ => h, fun _ _ _ h _ => h, fun _ _ _ h _ => h, fun _ _ _ h _ => h, fun _ _ _ h _ => h, fun _ _ _ h _ => h, fun _ _ _ h _ => h, fun _ _ _ h _ => h, fun _ _ _ h _ => h, fun _ _ _ h _ => h, fun _ _ _ h _ => h, fun _ _ _ h _ => h, trivial⟩) _ (Below.drew (Below.refl _ _)) trivial ?_
                refine inv_cons ?_ (fun v0 => ?_)
                · intro L w1 hat hb hI hF
                  have hc := (Grows.cells hb).1
                  try simp [factsI, Region.binds, Is] at hF
                  go_simp
                  try exact Grows.refl _
                refine inv_cons ?_ (fun v1 => ?_)
                · intro L w1 hat hb hI hF
                  have hc := (Grows.cells hb).1
                  try simp [factsI, Region.binds, Is] at hF
                  go_simp
                  try exact Grows.refl _
                refine inv_cons ?_ (fun v2 => ?_)
                · intro L w1 hat hb hI hF
                  have hc := (Grows.cells hb).1
                  try simp [factsI, Region.binds, Is] at hF
                  go_simp
                  try exact Grows.refl _
                refine inv_cons ?_ (fun v3 => ?_)
                · intro L w1 hat hb hI hF
                  have hc := (Grows.cells hb).1
                  try simp [factsI, Region.binds, Is] at hF
                  go_simp
                  try exact Grows.refl _
                refine inv_cons ?_ (fun v4 => ?_)
                · intro L w1 hat hb hI hF
                  have hc := (Grows.cells hb).1
                  try simp [factsI, Region.binds, Is] at hF
                  go_simp
                  try exact Grows.refl _
                refine inv_cons ?_ (fun v5 => ?_)
                · intro L w1 hat hb hI hF
                  have hc := (Grows.cells hb).1
                  try simp [factsI, Region.binds, Is] at hF
                  go_simp
                  try exact Grows.refl _
                refine inv_cons ?_ (fun v6 => ?_)
                · intro L w1 hat hb hI hF
                  have hc := (Grows.cells hb).1
                  try simp [factsI, Region.binds, Is] at hF
                  go_simp
                  try exact Grows.refl _
                refine inv_cons ?_ (fun v7 => ?_)
                · intro L w1 hat hb hI hF
                  have hc := (Grows.cells hb).1
                  try simp [factsI, Region.binds, Is] at hF
                  go_simp
                  try exact Grows.refl _
                refine inv_cons ?_ (fun v8 => ?_)
                · intro L w1 hat hb hI hF
                  have hc := (Grows.cells hb).1
                  try simp [factsI, Region.binds, Is] at hF
                  go_simp
                  try exact Grows.refl _
                refine inv_cons ?_ (fun v9 => ?_)
                · intro L w1 hat hb hI hF
                  have hc := (Grows.cells hb).1
                  try simp [factsI, Region.binds, Is] at hF
                  go_simp
                  try exact Grows.refl _
                refine inv_cons ?_ (fun v10 => ?_)
                · intro L w1 hat hb hI hF
                  have hc := (Grows.cells hb).1
                  try simp [factsI, Region.binds, Is] at hF
                  go_simp
                  try exact Grows.refl _
                refine inv_cons ?_ (fun v11 => ?_)
                · intro L w1 hat hb hI hF
                  have hc := (Grows.cells hb).1
                  try simp [factsI, Region.binds, Is] at hF
                  go_simp
                  try exact Grows.refl _
                refine inv_cons ?_ (fun v12 => ?_)
                · intro L w1 hat hb hI hF
                  have hc := (Grows.cells hb).1
                  try simp [factsI, Region.binds, Is] at hF
                  go_simp
                  try exact Grows.refl _
                refine inv_cons ?_ (fun v13 => ?_)
                · intro L w1 hat hb hI hF
                  have hc := (Grows.cells hb).1
                  try simp [factsI, Region.binds, Is] at hF
                  go_simp
                  try exact Grows.refl _
                refine inv_cons ?_ (fun v14 => ?_)
                · intro L w1 hat hb hI hF
                  have hc := (Grows.cells hb).1
                  try simp [factsI, Region.binds, Is] at hF
                  go_simp
                  try exact Grows.refl _
                refine inv_cons ?_ (fun v15 => ?_)
                · intro L w1 hat hb hI hF
                  have hc := (Grows.cells hb).1
                  try simp [factsI, Region.binds, Is] at hF
                  go_simp
                  try exact Grows.refl _
                refine inv_cons ?_ (fun v16 => ?_)
                · intro L w1 hat hb hI hF
                  have hc := (Grows.cells hb).1
                  try simp [factsI, Region.binds, Is] at hF
                  go_simp
                  try exact Grows.refl _
                refine inv_nil ?_
                intro w1 hb hI hF
                simp [Is, Nat.forall_lt_succ_right] at hF
                have e0 := hF.1.1.1.1.1.1.1.1.1.1.1.1.1.1.1.1
                have e1 := hF.1.1.1.1.1.1.1.1.1.1.1.1.1.1.1.2
                have e2 := hF.1.1.1.1.1.1.1.1.1.1.1.1.1.1.2
                have e3 := hF.1.1.1.1.1.1.1.1.1.1.1.1.1.2
                have e4 := hF.1.1.1.1.1.1.1.1.1.1.1.1.2
                have e5 := hF.1.1.1.1.1.1.1.1.1.1.1.2
                have e6 := hF.1.1.1.1.1.1.1.1.1.1.2
                have e7 := hF.1.1.1.1.1.1.1.1.1.2
                have e8 := hF.1.1.1.1.1.1.1.1.2
                have e9 := hF.1.1.1.1.1.1.1.2
                have e10 := hF.1.1.1.1.1.1.2
                have e11 := hF.1.1.1.1.1.2
                have e12 := hF.1.1.1.1.2
                have e13 := hF.1.1.1.2
                have e14 := hF.1.1.2
                have e15 := hF.1.2
                have e16 := hF.2
                clear hF
                simp only [Act.put, List.setIfInBounds_toArray, List.set_cons_succ, List.set_cons_zero, e0, e1, e2, e3, e4, e5, e6, e7, e8, e9, e10, e11, e12, e13, e14, e15, e16]
                clear e0 e1 e2 e3 e4 e5 e6 e7 e8 e9 e10 e11 e12 e13 e14 e15 e16
                have hB2 := And.intro (HB.out.1.grow hb) (And.intro (HB.out.2.1.grow hb) (bel_trans HB.out.2.2 hb))
                clear hb cA lA hc1' hc2'
                cases c2 with
                | false =>
                  have HC0 : Hid (condR nd set j = false) := Lib.hid (by rw [HCO.out, htb]; rfl)
                  go_wp2_with fail
                  go_roundw
                  case rel =>
                    refine ⟨j + 1, by omega, by go_num, ?_, hB2.2.1, hB2.2.2⟩
                    refine (congrArg (fun a => Blk _ _ a 3) (tab_congr fun t ht => ?_)).mp hB2.1
                    show _ = Value.int .i64 (if condR nd set j = true ∧ t = set ||| 2 ^ j then _ else _)
                    rw [HC0.out, if_neg (by simp)]
                  case measure => simp [intOf]; omega
                | true =>
                  have HC1 : Hid (condR nd set j = true) := Lib.hid (by rw [HCO.out, htb]; rfl)
                  have hor : set ||| 2 ^ j = set + P2 := by rw [HP2.out]; exact or_sub htb
                  have hTN : set + P2 < N := by rw [← hor, HNP.out]; exact Nat.or_lt_two_pow (by rw [← HNP.out]; exact hst) (Nat.pow_lt_pow_right (by decide) hjt)
                  have cT := (hB2.1.cell (set + P2)).trans (tab_get hTN)
                  have cS := (hB2.1.cell set).trans (tab_get hst)
                  have lW := hB2.1.lt
                  have hx1 := hsm (set + P2)
                  have hy1 := hsm set
                  obtain ⟨x, hx⟩ : ∃ x, x = inR nd set (outR nd i set) j (set + P2) := ⟨_, rfl⟩
                  obtain ⟨y, hy⟩ : ∃ y, y = inR nd set (outR nd i set) j set := ⟨_, rfl⟩
                  rw [← hx] at cT hx1
                  rw [← hy] at cS hy1
                  have HXY := Lib.hid (And.intro hor (And.intro hx hy))
                  have HB3 := Lib.hid hB2
                  clear hor hx hy hB2 HB hsm
                  have hw3 : IntKind.i64.wrap ((set : Int) + (P2 : Int)) = (set : Int) + (P2 : Int) := IntWalk.i64_in _ (by omega)
                  have hw4 : IntKind.i64.wrap (x + y) = x + y := IntWalk.i64_in _ (by omega)
                  have hcT : (0 : Int) ≤ (set : Int) + (P2 : Int) ∧ (set : Int) + (P2 : Int) < (N : Int) := by omega
                  have htn : ((set : Int) + (P2 : Int)).toNat = set + P2 := by omega
                  go_wp2_with fail
                  refine wp_region_grow 16 [Is (.slice (some ⟨hw, 0, none⟩) N N), Is (.int .i64 (set : Int)), Is (.int .i64 (P2 : Int)), Is (.int .i64 ((set : Int) + (P2 : Int))), Is (.slice (some ⟨hw, 0, none⟩) N N), Is (.int .i64 (set : Int)), Is (.int .i64 (P2 : Int)), Is (.int .i64 ((set : Int) + (P2 : Int))), Is (.pointer (some ⟨hw, set + P2, none⟩)), Is (.int .i64 (x)), Is (.slice (some ⟨hw, 0, none⟩) N N), Is (.int .i64 (set : Int)), Is (.pointer (some ⟨hw, set, none⟩)), Is (.int .i64 (y)), Is (.int .i64 (x + y)), Is (.pointer (some ⟨hw, set + P2, none⟩))] (by kernel_rfl) (by kernel_rfl) rfl ⟨fun _ _ _ h _ => h, fun _ _ _ h _ => h, fun _ _ _ h _ => h, fun _ _ _ h _ => h, fun _ _ _ h _ => h, fun _ _ _ h _ => h, fun _ _ _ h _ => h, fun _ _ _ h _ => h, fun _ _ _ h _ => h, fun _ _ _ h _ => h, fun _ _ _ h _ => h, fun _ _ _ h _ => h, fun _ _ _ h _ => h, fun _ _ _ h _ => h, fun _ _ _ h _ => h, fun _ _ _ h _ => h, trivial⟩ ?_
                  simp only [List.take_succ_cons, List.take_zero, List.drop_succ_cons, List.drop_zero]
                  refine rel_cons ?_ (fun v0 => ?_)
                  · intro w1 hb hF
                    have hc := (Grows.cells hb).1
                    have hf := (Grows.cells hb).2
                    try simp [facts, Is] at hF
                    go_simp
                    exact Grows.refl _
                  refine rel_cons ?_ (fun v1 => ?_)
                  · intro w1 hb hF
                    have hc := (Grows.cells hb).1
                    have hf := (Grows.cells hb).2
                    try simp [facts, Is] at hF
                    go_simp
                    exact Grows.refl _
                  refine rel_cons ?_ (fun v2 => ?_)
                  · intro w1 hb hF
                    have hc := (Grows.cells hb).1
                    have hf := (Grows.cells hb).2
                    try simp [facts, Is] at hF
                    go_simp
                    exact Grows.refl _
                  refine rel_cons ?_ (fun v3 => ?_)
                  · intro w1 hb hF
                    have hc := (Grows.cells hb).1
                    have hf := (Grows.cells hb).2
                    try simp [facts, Is] at hF
                    go_simp
                    exact Grows.refl _
                  refine rel_cons ?_ (fun v4 => ?_)
                  · intro w1 hb hF
                    have hc := (Grows.cells hb).1
                    have hf := (Grows.cells hb).2
                    try simp [facts, Is] at hF
                    go_simp
                    exact Grows.refl _
                  refine rel_cons ?_ (fun v5 => ?_)
                  · intro w1 hb hF
                    have hc := (Grows.cells hb).1
                    have hf := (Grows.cells hb).2
                    try simp [facts, Is] at hF
                    go_simp
                    exact Grows.refl _
                  refine rel_cons ?_ (fun v6 => ?_)
                  · intro w1 hb hF
                    have hc := (Grows.cells hb).1
                    have hf := (Grows.cells hb).2
                    try simp [facts, Is] at hF
                    go_simp
                    exact Grows.refl _
                  refine rel_cons ?_ (fun v7 => ?_)
                  · intro w1 hb hF
                    have hc := (Grows.cells hb).1
                    have hf := (Grows.cells hb).2
                    try simp [facts, Is] at hF
                    go_simp
                    exact Grows.refl _
                  refine rel_cons ?_ (fun v8 => ?_)
                  · intro w1 hb hF
                    have hc := (Grows.cells hb).1
                    have hf := (Grows.cells hb).2
                    try simp [facts, Is] at hF
                    go_simp
                    exact Grows.refl _
                  refine rel_cons ?_ (fun v9 => ?_)
                  · intro w1 hb hF
                    have hc := (Grows.cells hb).1
                    have hf := (Grows.cells hb).2
                    try simp [facts, Is] at hF
                    go_simp
                    exact Grows.refl _
                  refine rel_cons ?_ (fun v10 => ?_)
                  · intro w1 hb hF
                    have hc := (Grows.cells hb).1
                    have hf := (Grows.cells hb).2
                    try simp [facts, Is] at hF
                    go_simp
                    exact Grows.refl _
                  refine rel_cons ?_ (fun v11 => ?_)
                  · intro w1 hb hF
                    have hc := (Grows.cells hb).1
                    have hf := (Grows.cells hb).2
                    try simp [facts, Is] at hF
                    go_simp
                    exact Grows.refl _
                  refine rel_cons ?_ (fun v12 => ?_)
                  · intro w1 hb hF
                    have hc := (Grows.cells hb).1
                    have hf := (Grows.cells hb).2
                    try simp [facts, Is] at hF
                    go_simp
                    exact Grows.refl _
                  refine rel_cons ?_ (fun v13 => ?_)
                  · intro w1 hb hF
                    have hc := (Grows.cells hb).1
                    have hf := (Grows.cells hb).2
                    try simp [facts, Is] at hF
                    go_simp
                    exact Grows.refl _
                  refine rel_cons ?_ (fun v14 => ?_)
                  · intro w1 hb hF
                    have hc := (Grows.cells hb).1
                    have hf := (Grows.cells hb).2
                    try simp [facts, Is] at hF
                    go_simp
                    exact Grows.refl _
                  refine rel_cons ?_ (fun v15 => ?_)
                  · intro w1 hb hF
                    have hc := (Grows.cells hb).1
                    have hf := (Grows.cells hb).2
                    try simp [facts, Is] at hF
                    go_simp
                    exact Grows.refl _
                  refine rel_nil ?_
                  intro w1 hb hF
                  simp [Is, Nat.forall_lt_succ_right] at hF
                  have e0 := hF.1.1.1.1.1.1.1.1.1.1.1.1.1.1.1
                  have e1 := hF.1.1.1.1.1.1.1.1.1.1.1.1.1.1.2
                  have e2 := hF.1.1.1.1.1.1.1.1.1.1.1.1.1.2
                  have e3 := hF.1.1.1.1.1.1.1.1.1.1.1.1.2
                  have e4 := hF.1.1.1.1.1.1.1.1.1.1.1.2
                  have e5 := hF.1.1.1.1.1.1.1.1.1.1.2
                  have e6 := hF.1.1.1.1.1.1.1.1.1.2
                  have e7 := hF.1.1.1.1.1.1.1.1.2
                  have e8 := hF.1.1.1.1.1.1.1.2
                  have e9 := hF.1.1.1.1.1.1.2
                  have e10 := hF.1.1.1.1.1.2
                  have e11 := hF.1.1.1.1.2
                  have e12 := hF.1.1.1.2
                  have e13 := hF.1.1.2
                  have e14 := hF.1.2
                  have e15 := hF.2
                  clear hF
                  simp only [Act.put, List.setIfInBounds_toArray, List.set_cons_succ, List.set_cons_zero, e0, e1, e2, e3, e4, e5, e6, e7, e8, e9, e10, e11, e12, e13, e14, e15]
                  clear e0 e1 e2 e3 e4 e5 e6 e7 e8 e9 e10 e11 e12 e13 e14 e15
                  have hB2 := And.intro (HB3.out.1.grow hb) (And.intro (HB3.out.2.1.grow hb) (bel_trans HB3.out.2.2 hb))
                  have cT2 := (hB2.1.cell (set + P2)).trans (tab_get hTN)
                  have fT2 := hB2.1.free (set + P2)
                  have lT2 := hB2.1.lt
                  have HB4 := Lib.hid hB2
                  clear hb hB2 cT cS lW
                  go_wp2_with fail
                  go_roundw
                  case rel =>
                    refine ⟨j + 1, by omega, by go_num, ?_, HB4.out.2.1.other (by simp; omega) _, HB4.out.2.2.setCell (by simp; omega) _⟩
                    have hs := HB4.out.1.set (set + P2) (.int .i64 (x + y))
                    rw [tab_set] at hs
                    refine (congrArg (fun a => Blk _ _ a 3) (tab_congr fun t ht => ?_)).mp hs
                    show _ = Value.int .i64 (if condR nd set j = true ∧ t = set ||| 2 ^ j then inR nd set (outR nd i set) j (set ||| 2 ^ j) + inR nd set (outR nd i set) j set else inR nd set (outR nd i set) j t)
                    rw [HC1.out, HXY.out.1, ← HXY.out.2.1, ← HXY.out.2.2]
                    by_cases e : t = set + P2
                    · rw [if_pos e, if_pos ⟨rfl, e⟩]
                    · rw [if_neg e, if_neg (fun h => e h.2)]
                  case measure => simp [intOf]; omega
            · have hji : j = i := by omega
              subst hji
              go_wp2_with fail
              go_roundw
              case rel => exact ⟨set + 1, by omega, by go_num, hW, hA, hB⟩
              case measure => simp [intOf]; omega
        · have hsN : set = N := by omega
          subst hsN
          have cL := (hW.cell (set - 1)).trans (tab_get (by omega))
          have lW := hW.lt
          rw [← HORD'.out] at cL
          clear hW hA
          go_wp2_with fail
          refine bodyPost_ret (v := .tuple #[.int .i64 (ordersR dep i), .int .i64 0]) (by simp [results, Tryz.results53, go_sem]) rfl ⟨rfl, hB⟩
end Go.Proofs.YtccnkebkgegohaaGreatDoor
end
