import Derived.Test.YtccnkebkgegohaaGreatDoorHU2
import Derived.Test.YtccnkebkgegohaaGreatDoorHU6
/-
  Given contracts of functions of the program, and laws for them, one behind the other.
-/
set_option linter.unusedVariables false
set_option linter.unusedSimpArgs false
set_option linter.unusedSectionVars false
section
namespace Go.Proofs.YtccnkebkgegohaaGreatDoor
open Go.RowKit Go.Rel
set_option maxRecDepth 100000
/-! Needs, of the reference -/
theorem apart_dep' {l : List Sol} {m : List Ac} {q j : Nat} {x y : Ac} (hx : m[q]? = some x) (hy : m[j]? = some y) : apartB l x y = !depN (cellsOf l m) q j := by
  unfold apartB depN cellsOf
  congr 1
  rw [List.getD_eq_getElem?_getD, List.getD_eq_getElem?_getD, List.getElem?_map, List.getElem?_map, hx, hy]; rfl
theorem refneeds_spec {b : Sol} {p q : Option Addr} {n c k d : Nat} {l : List Sol} {m : List Ac} {t : StB} (R : Runs b l m t) (i : Nat) (hi : i < k) (w : World) (Hv : SlS w (.slice p n c) l) (Hav : SlA w (.slice q k d) m) :
    Calls Tryz.prog 118 #[.agg #[.int .u64 (pl b 0), .int .u64 (pl b 1), .int .u64 (pl b 2), .int .u64 (pl b 3), .int .u64 (pl b 4), .int .u64 (pl b 5), .int .u64 (pl b 6), .int .u64 (pl b 7), .slice p n c, .slice q k d], .int .i64 (i : Int)] w fun e w' => ∃ g, e = .returned (.slice (some ⟨g, 0, none⟩) k k) ∧ w.heap.size ≤ g ∧ Blk w' g (tab k (fun t => .bool (aheadR (depN (cellsOf l m)) i t))) 4 ∧ Below w.heap.size w w' := by
  have hA := Hav
  obtain ⟨q', d', he, hkd, hd, _⟩ := hA
  injection he with h1 h2 h3
  have hk : m.length = k := by rw [h2, List.length_map]
  have hx : m[i]? = some (m[i]'(by omega)) := by simp
  obtain ⟨ab, ao, rfl, hcs⟩ := acs_at Hav hx
  exact refneeds_main b p n c ab ao k d l m _ i w hk hi (by have := R.len; omega) (by rw [h2, h3]; exact hkd) (by rw [h3]; exact hd) hcs Hv R.fine.fit (Lib.hid fun q j x y hx hy => apart_dep' hx hy)
set_option maxHeartbeats 2000000 in
theorem refNeeds_no (b : Sol) (p q : Option Addr) (n c k d : Nat) (i x y : Int) (hne : (y != 0) = true) (w : World) (H : Hid (∀ w', Below w.heap.size w w' → Calls Tryz.prog 38 #[.agg #[.int .u64 (pl b 0), .int .u64 (pl b 1), .int .u64 (pl b 2), .int .u64 (pl b 3), .int .u64 (pl b 4), .int .u64 (pl b 5), .int .u64 (pl b 6), .int .u64 (pl b 7), .slice p n c, .slice q k d]] w' fun e w'' => e = .returned (.tuple #[.int .i64 x, .int .i64 y]) ∧ Below w'.heap.size w' w'')) :
    Calls Tryz.prog 51 #[.agg #[.int .u64 (pl b 0), .int .u64 (pl b 1), .int .u64 (pl b 2), .int .u64 (pl b 3), .int .u64 (pl b 4), .int .u64 (pl b 5), .int .u64 (pl b 6), .int .u64 (pl b 7), .slice p n c, .slice q k d], .int .i64 i] w fun e w' => e = .returned (.tuple #[.slice none 0 0, .int .i64 y]) ∧ Below w.heap.size w w' := by
  go_enter Tryz.func51, Tryz.ntmps51
  go_wp2_with fail
  refine (H.out _ bel_by).mono ?_
  rintro e w1 ⟨rfl, hb⟩
  have hB1 : Below w.heap.size w w1 := bel_trans bel_by hb
  clear hb
  go_wp2_with fail
  refine bodyPost_ret (by simp [results, Tryz.results51, go_sem]) rfl ⟨rfl, hB1⟩
set_option maxHeartbeats 4000000 in
theorem refNeeds_neg (b : Sol) (p q : Option Addr) (n c k d : Nat) (i : Int) (hi : i < 0) (w : World) (H : Hid (∀ w', Below w.heap.size w w' → Calls Tryz.prog 38 #[.agg #[.int .u64 (pl b 0), .int .u64 (pl b 1), .int .u64 (pl b 2), .int .u64 (pl b 3), .int .u64 (pl b 4), .int .u64 (pl b 5), .int .u64 (pl b 6), .int .u64 (pl b 7), .slice p n c, .slice q k d]] w' fun e w'' => e = .returned (.tuple #[.int .i64 0, .int .i64 0]) ∧ Below w'.heap.size w' w'')) :
    Calls Tryz.prog 51 #[.agg #[.int .u64 (pl b 0), .int .u64 (pl b 1), .int .u64 (pl b 2), .int .u64 (pl b 3), .int .u64 (pl b 4), .int .u64 (pl b 5), .int .u64 (pl b 6), .int .u64 (pl b 7), .slice p n c, .slice q k d], .int .i64 i] w fun e w' => e = .returned (.tuple #[.slice none 0 0, .int .i64 1]) ∧ Below w.heap.size w w' := by
  go_enter Tryz.func51, Tryz.ntmps51
  go_wp2_with fail
  refine (H.out _ bel_by).mono ?_
  rintro e w1 ⟨rfl, hb⟩
  have hB1 : Below w.heap.size w w1 := bel_trans bel_by hb
  have g0 : Blk w1 w.heap.size #[.int .u64 (pl b 0), .int .u64 (pl b 1), .int .u64 (pl b 2), .int .u64 (pl b 3), .int .u64 (pl b 4), .int .u64 (pl b 5), .int .u64 (pl b 6), .int .u64 (pl b 7), .slice p n c, .slice q k d] 30 := Blk.grow blk_by hb
  have c0 := g0.cell
  have l0 := g0.lt
  clear hb
  go_wp2_with fail
  refine bodyPost_ret (by simp [results, Tryz.results51, go_sem]) rfl ⟨rfl, hB1⟩
set_option maxHeartbeats 4000000 in
theorem refNeeds_big (b : Sol) (p q : Option Addr) (n c k d : Nat) (i : Int) (h0 : 0 ≤ i) (hi : (k : Int) ≤ i) (w : World) (H : Hid (∀ w', Below w.heap.size w w' → Calls Tryz.prog 38 #[.agg #[.int .u64 (pl b 0), .int .u64 (pl b 1), .int .u64 (pl b 2), .int .u64 (pl b 3), .int .u64 (pl b 4), .int .u64 (pl b 5), .int .u64 (pl b 6), .int .u64 (pl b 7), .slice p n c, .slice q k d]] w' fun e w'' => e = .returned (.tuple #[.int .i64 0, .int .i64 0]) ∧ Below w'.heap.size w' w'')) :
    Calls Tryz.prog 51 #[.agg #[.int .u64 (pl b 0), .int .u64 (pl b 1), .int .u64 (pl b 2), .int .u64 (pl b 3), .int .u64 (pl b 4), .int .u64 (pl b 5), .int .u64 (pl b 6), .int .u64 (pl b 7), .slice p n c, .slice q k d], .int .i64 i] w fun e w' => e = .returned (.tuple #[.slice none 0 0, .int .i64 1]) ∧ Below w.heap.size w w' := by
  go_enter Tryz.func51, Tryz.ntmps51
  go_wp2_with fail
  refine (H.out _ bel_by).mono ?_
  rintro e w1 ⟨rfl, hb⟩
  have hB1 : Below w.heap.size w w1 := bel_trans bel_by hb
  have g0 : Blk w1 w.heap.size #[.int .u64 (pl b 0), .int .u64 (pl b 1), .int .u64 (pl b 2), .int .u64 (pl b 3), .int .u64 (pl b 4), .int .u64 (pl b 5), .int .u64 (pl b 6), .int .u64 (pl b 7), .slice p n c, .slice q k d] 30 := Blk.grow blk_by hb
  have c0 := g0.cell
  have l0 := g0.lt
  clear hb
  go_wp2_with fail
  refine bodyPost_ret (by simp [results, Tryz.results51, go_sem]) rfl ⟨rfl, hB1⟩
set_option maxHeartbeats 8000000 in
theorem refNeeds_yes (b : Sol) (p q : Option Addr) (n c k d : Nat) (i : Nat) (hi : i < k) (hk60 : k ≤ 60) (P : Nat → Bool) (w : World) (H : Hid (∀ w', Below w.heap.size w w' → Calls Tryz.prog 38 #[.agg #[.int .u64 (pl b 0), .int .u64 (pl b 1), .int .u64 (pl b 2), .int .u64 (pl b 3), .int .u64 (pl b 4), .int .u64 (pl b 5), .int .u64 (pl b 6), .int .u64 (pl b 7), .slice p n c, .slice q k d]] w' fun e w'' => e = .returned (.tuple #[.int .i64 0, .int .i64 0]) ∧ Below w'.heap.size w' w''))
    (H118 : Hid (∀ w', Below w.heap.size w w' → Calls Tryz.prog 118 #[.agg #[.int .u64 (pl b 0), .int .u64 (pl b 1), .int .u64 (pl b 2), .int .u64 (pl b 3), .int .u64 (pl b 4), .int .u64 (pl b 5), .int .u64 (pl b 6), .int .u64 (pl b 7), .slice p n c, .slice q k d], .int .i64 (i : Int)] w' fun e w'' => ∃ g, e = .returned (.slice (some ⟨g, 0, none⟩) k k) ∧ w'.heap.size ≤ g ∧ Blk w'' g (tab k (fun t => .bool (P t))) 4 ∧ Below w'.heap.size w' w'')) :
    Calls Tryz.prog 51 #[.agg #[.int .u64 (pl b 0), .int .u64 (pl b 1), .int .u64 (pl b 2), .int .u64 (pl b 3), .int .u64 (pl b 4), .int .u64 (pl b 5), .int .u64 (pl b 6), .int .u64 (pl b 7), .slice p n c, .slice q k d], .int .i64 (i : Int)] w fun e w' => ∃ u, e = .returned (.tuple #[u, .int .i64 0]) ∧ SlI w' u (FI P k) ∧ Below w.heap.size w w' := by
  obtain ⟨i0, hi0, hz0, hz1, hz2⟩ := info_parts info3
  have HI0 := Lib.hid (And.intro hi0 (And.intro hz0 (And.intro hz1 hz2))); clear hi0 hz0 hz1 hz2
  go_enter Tryz.func51, Tryz.ntmps51
  go_wp2_with fail
  refine (H.out _ bel_by).mono ?_
  rintro e w1 ⟨rfl, hb⟩
  have hB1 : Below w.heap.size w w1 := bel_trans bel_by hb
  have g0 : Blk w1 w.heap.size #[.int .u64 (pl b 0), .int .u64 (pl b 1), .int .u64 (pl b 2), .int .u64 (pl b 3), .int .u64 (pl b 4), .int .u64 (pl b 5), .int .u64 (pl b 6), .int .u64 (pl b 7), .slice p n c, .slice q k d] 30 := Blk.grow blk_by hb
  have c0 := g0.cell
  have l0 := g0.lt
  clear hb H
  go_wp2_with fail
  refine (H118.out _ hB1).mono ?_
  rintro e w2 ⟨g, rfl, hg, gT, hb⟩
  have hB2 := bel_trans hB1 hb
  have hgw : w2.heap.size ≤ w2.heap.size := Nat.le_refl _
  have lgT := gT.lt
  have hs2 := hb.size
  clear hb c0 l0 g0 hB1 H118
  go_wp2_with fail
  go_loopw [8, 10] (fun uv jv wr => ∃ (u : Value) (j : Nat), u = uv ∧ j ≤ k ∧ jv = .int .i64 j ∧ Hid (OwnI wr w2.heap.size u (FI P j)) ∧ Blk wr g (tab k (fun t => .bool (P t))) 4 ∧ Below w2.heap.size w2 wr) (fun _ jv _ => k - (intOf jv).toNat)
  case atStart => exact ⟨_, 0, rfl, Nat.zero_le _, rfl, Lib.hid (show OwnI w2 w2.heap.size (.slice none 0 0) (FI P 0) from World.ownsRow_nil _ _ _ _), gT, Below.refl _ _⟩
  case round =>
    clear gT
    obtain ⟨u, j, rfl, hj, rfl, hO, gT, hB⟩ := hrel
    have hszr := hB.size
    by_cases hlt : j < k
    · have cT := (gT.cell j).trans (tab_get hlt)
      have lT := gT.lt
      cases hp : P j with
      | false =>
        rw [hp] at cT
        go_wp2_with fail
        go_roundw
        case rel => exact ⟨_, j + 1, rfl, by omega, by go_num, by rw [FI_no hp]; exact hO, gT, hB⟩
        case measure => simp [intOf]; omega
      | true =>
        rw [hp] at cT
        have hx := hO.out
        unfold OwnI at hx
        have HX := Lib.hid hx; clear hx
        have hlen := FI_len P j
        go_wp2_with (first
          | (at_builtin; refine wpList_append_own _ rfl _ _ 66 rfl w2.heap.size 3 i0 (.int .i64 0) 1 8 Tryz.underlying66 HI0.out.1 HI0.out.2.1 HI0.out.2.2.1 HI0.out.2.2.2 rfl (by decide) _ _ _ rfl (HX.out.alloc _) ⟨wr.heap.size, 0, none⟩ 1 1 [.int .i64 j] rfl rfl (cell_one_new _ _ _) (fun x hx => by simp at hx; subst hx; rfl) (by unfold maxLen; omega) (by omega) (by simp; omega) ?_; intro v' w3 hown' hgrow3 hnil3))
        have hbe : Below w2.heap.size wr w3 := ((bel_alloc (bel_refl wr) _).mono (by omega)).grown hgrow3 (by simp; omega) (fun j' hj' => (HX.out.lt j' hj').1)
        go_roundw
        case rel => exact ⟨_, j + 1, rfl, by omega, by go_num, by show OwnI _ _ _ _; unfold OwnI; rw [FI_yes hp, List.length_append, List.map_append]; exact hown', gT.below hbe (by omega), hB.trans hbe⟩
        case measure => simp [intOf]; omega
    · have hjk : j = k := by omega
      subst hjk
      have HO := Lib.hid (OwnI.sl hO.out)
      have hBf := bel_trans hB2 hB
      go_wp2_with fail
      refine bodyPost_ret (by simp [results, Tryz.results51, go_sem]) rfl ⟨_, rfl, HO.out, hBf⟩
end Go.Proofs.YtccnkebkgegohaaGreatDoor
end
