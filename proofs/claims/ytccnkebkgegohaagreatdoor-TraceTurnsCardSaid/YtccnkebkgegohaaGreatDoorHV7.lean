import Derived.Test.YtccnkebkgegohaaGreatDoorT
/-
  Given contracts of functions of the program, and laws for them, one behind the other.
-/
set_option linter.unusedVariables false
set_option linter.unusedSimpArgs false
set_option linter.unusedSectionVars false
section
namespace Go.Proofs.YtccnkebkgegohaaGreatDoor
open Go.RowKit Go.Rel
set_option maxRecDepth 100000
/-! the order of acts, of the reference -/
theorem ac_plane (x : Ac) {z : Nat} (hz : z < 8) : (#[.int .u8 x.1, .int .i64 x.2.1, .int .u64 (pl x.2.2 0), .int .u64 (pl x.2.2 1), .int .u64 (pl x.2.2 2), .int .u64 (pl x.2.2 3), .int .u64 (pl x.2.2 4), .int .u64 (pl x.2.2 5), .int .u64 (pl x.2.2 6), .int .u64 (pl x.2.2 7)] : Array Value)[2 + z]? = some (.int .u64 (pl x.2.2 z)) := by
 match z, hz with
 | 0, _ => rfl
 | 1, _ => rfl
 | 2, _ => rfl
 | 3, _ => rfl
 | 4, _ => rfl
 | 5, _ => rfl
 | 6, _ => rfl
 | 7, _ => rfl
 | n + 8, h => exact absurd h (by omega)
set_option maxHeartbeats 8000000 in
theorem Less164_main (x y : Ac) (w : World) (R : Bool) (hk : x.1 ≠ y.1 → R = decide (x.1 < y.1)) (hp : x.1 = y.1 → x.2.1 ≠ y.2.1 → R = decide (x.2.1 < y.2.1))
  (hs : x.1 = y.1 → x.2.1 = y.2.1 → ∀ z, z < 8 → (∀ j, j < z → pl x.2.2 j = pl y.2.2 j) → pl x.2.2 z ≠ pl y.2.2 z → R = decide (pl x.2.2 z < pl y.2.2 z))
  (he : x.1 = y.1 → x.2.1 = y.2.1 → (∀ j, j < 8 → pl x.2.2 j = pl y.2.2 j) → R = false) :
  Calls Tryz.prog 164 #[.agg #[.int .u8 x.1, .int .i64 x.2.1, .int .u64 (pl x.2.2 0), .int .u64 (pl x.2.2 1), .int .u64 (pl x.2.2 2), .int .u64 (pl x.2.2 3), .int .u64 (pl x.2.2 4), .int .u64 (pl x.2.2 5), .int .u64 (pl x.2.2 6), .int .u64 (pl x.2.2 7)], .agg #[.int .u8 y.1, .int .i64 y.2.1, .int .u64 (pl y.2.2 0), .int .u64 (pl y.2.2 1), .int .u64 (pl y.2.2 2), .int .u64 (pl y.2.2 3), .int .u64 (pl y.2.2 4), .int .u64 (pl y.2.2 5), .int .u64 (pl y.2.2 6), .int .u64 (pl y.2.2 7)]] w fun e w' => e = .returned (.bool R) ∧ Below w.heap.size w w' := by
 have HK := Lib.hid hk
 have HP := Lib.hid hp
 have HS := Lib.hid hs
 have HE := Lib.hid he
 clear hk hp hs he
 by_cases h1 : x.1 = y.1
 ·by_cases h2 : x.2.1 = y.2.1
  ·have HH := Lib.hid (And.intro h1 h2)
   obtain ⟨ky, ny, D⟩ := y
   simp only at h1 h2
   subst h1 h2
   go_enter Tryz.func164, Tryz.ntmps164
   go_wp2_with fail
   go_loopw [5] (fun zv wr => ∃ z : Nat, z ≤ 8 ∧ zv = .int .i64 z ∧ Hid (∀ j, j < z → pl x.2.2 j = pl D j) ∧ Blk wr (w.heap.size) #[.int .u8 x.1, .int .i64 x.2.1, .int .u64 (pl x.2.2 0), .int .u64 (pl x.2.2 1), .int .u64 (pl x.2.2 2), .int .u64 (pl x.2.2 3), .int .u64 (pl x.2.2 4), .int .u64 (pl x.2.2 5), .int .u64 (pl x.2.2 6), .int .u64 (pl x.2.2 7)] 46 ∧ Blk wr (w.heap.size + 1) #[.int .u8 x.1, .int .i64 x.2.1, .int .u64 (pl D 0), .int .u64 (pl D 1), .int .u64 (pl D 2), .int .u64 (pl D 3), .int .u64 (pl D 4), .int .u64 (pl D 5), .int .u64 (pl D 6), .int .u64 (pl D 7)] 46 ∧ Below w.heap.size w wr) (fun zv _ => 8 - (intOf zv).toNat)
   case atStart => exact ⟨0, by omega, rfl, Lib.hid (fun j hj => by omega), blk_by, blk_by, bel_by⟩
   case round =>
    obtain ⟨z, hz, rfl, HZ, gx, gy, hB⟩ := hrel
    by_cases hlt : z < 8
    ·have cx := (gx.cell (2 + z)).trans (ac_plane x hlt)
     have cy := (gy.cell (2 + z)).trans (ac_plane (x.1, x.2.1, D) hlt)
     have lx := gx.lt
     have ly := gy.lt
     obtain ⟨px, hpx⟩ : ∃ px, px = pl x.2.2 z := ⟨_, rfl⟩
     obtain ⟨py, hpy⟩ : ∃ py, py = pl D z := ⟨_, rfl⟩
     rw [← hpx] at cx
     rw [← hpy] at cy
     have HPP := Lib.hid (And.intro hpx hpy)
     clear hpx hpy
     go_wp2_with fail
     refine wp_region_inv Grows (fun _ _ => True) [Is (.int .i64 (z : Int)), Is (.pointer (some ⟨w.heap.size, 2, none⟩)), Is (.pointer (some ⟨w.heap.size, 2 + z, none⟩)), Is (.int .u64 px), Is (.int .i64 (z : Int)), Is (.pointer (some ⟨w.heap.size + 1, 2, none⟩)), Is (.pointer (some ⟨w.heap.size + 1, 2 + z, none⟩)), Is (.int .u64 py), Is (.bool (px != py))] (by kernel_rfl) (by kernel_rfl) rfl Grows.refl (fun _ _ _ => Grows.trans) (stable_mem ⟨fun _ _ _ h _ => h, fun _ _ _ h _ => h, fun _ _ _ h _ => h, fun _ _ _ h _ => h, fun _ _ _ h _ => h, fun _ _ _ h _ => h, fun _ _ _ h _ => h, fun _ _ _ h _ => h, fun _ _ _ h _ => h, trivial⟩) _ (Below.drew (Below.refl _ _)) trivial ?_
     iterate 9 (refine inv_cons ?_ (fun _ => ?_); · intro L w1 hat hb hI hF; have hc := (Grows.cells hb).1; (try simp [factsI, Region.binds, Is] at hF); go_simp; (try first | exact Grows.refl _ | exact trivial | rfl))
     refine inv_nil ?_
     intro w1 hb hI hF
     simp [Is, Nat.forall_lt_succ_right] at hF
     simp only [Act.put, List.setIfInBounds_toArray, List.set_cons_succ, List.set_cons_zero, hF]
     clear hF
     have gx' := gx.grow hb
     have gy' := gy.grow hb
     have hB' := bel_trans hB hb
     have cx' := (gx'.cell (2 + z)).trans (ac_plane x hlt)
     have cy' := (gy'.cell (2 + z)).trans (ac_plane (x.1, x.2.1, D) hlt)
     rw [← HPP.out.1] at cx'
     rw [← HPP.out.2] at cy'
     have lx' := gx'.lt
     have ly' := gy'.lt
     have Gx := Lib.hid gx'
     have Gy := Lib.hid gy'
     clear gx gy hB hb cx cy lx ly gx' gy'
     cases hc : (px != py) with
     | true =>
      have hne : ¬ px = py := by simpa using hc
      have hR := HS.out HH.out.1 HH.out.2 z hlt HZ.out (by rw [← HPP.out.1, ← HPP.out.2]; exact hne)
      rw [← HPP.out.1, ← HPP.out.2] at hR
      subst hR
      clear hc
      go_wp2_with fail
      refine wp_region_inv Grows (fun _ _ => True) [Is (.int .i64 (z : Int)), Is (.pointer (some ⟨w.heap.size, 2, none⟩)), Is (.pointer (some ⟨w.heap.size, 2 + z, none⟩)), Is (.int .u64 px), Is (.int .i64 (z : Int)), Is (.pointer (some ⟨w.heap.size + 1, 2, none⟩)), Is (.pointer (some ⟨w.heap.size + 1, 2 + z, none⟩)), Is (.int .u64 py), Is (.bool (decide (px < py))), Is (.bool (decide (px < py)))] (by kernel_rfl) (by kernel_rfl) rfl Grows.refl (fun _ _ _ => Grows.trans) (stable_mem ⟨fun _ _ _ h _ => h, fun _ _ _ h _ => h, fun _ _ _ h _ => h, fun _ _ _ h _ => h, fun _ _ _ h _ => h, fun _ _ _ h _ => h, fun _ _ _ h _ => h, fun _ _ _ h _ => h, fun _ _ _ h _ => h, fun _ _ _ h _ => h, trivial⟩) _ (Below.drew (Below.refl _ _)) trivial ?_
      iterate 10 (refine inv_cons ?_ (fun _ => ?_); · intro L w1 hat hb hI hF; have hc := (Grows.cells hb).1; (try simp [factsI, Region.binds, Is] at hF); go_simp; (try first | exact Grows.refl _ | exact trivial | rfl))
      refine inv_nil ?_
      intro w1 hb hI hF
      simp [Is, Nat.forall_lt_succ_right] at hF
      simp only [Act.put, List.setIfInBounds_toArray, List.set_cons_succ, List.set_cons_zero, hF]
      clear hF
      have hB2 := bel_trans hB' hb
      clear cx' cy' lx' ly' hb
      go_wp2_with fail
      refine bodyPost_ret (v := .bool (decide (px < py))) (by simp [results, Tryz.results164, go_sem]) rfl ⟨rfl, hB2⟩
     | false =>
      have heq : px = py := by simpa using hc
      clear cx' cy' lx' ly'
      have HZ' : Hid (∀ j, j < z + 1 → pl x.2.2 j = pl D j) := Lib.hid fun j hj => by
       rcases Nat.lt_or_eq_of_le (Nat.le_of_lt_succ hj) with h | h
       ·exact HZ.out j h
       ·subst h; rw [← HPP.out.1, ← HPP.out.2]; exact heq
      clear heq
      go_wp2_with fail
      go_roundw
      case rel => exact ⟨z + 1, by omega, by go_num, HZ', Gx.out, Gy.out, hB'⟩
      case measure => simp [intOf]; omega
    ·have hz8 : z = 8 := by omega
     subst hz8
     have hR := HE.out HH.out.1 HH.out.2 HZ.out
     subst hR
     go_wp2_with fail
     refine bodyPost_ret (v := .bool false) (by simp [results, Tryz.results164, go_sem]) rfl ⟨rfl, hB⟩
  ·have hR := HP.out h1 h2
   have e1 : ((x.1 : Nat) : Int) = ((y.1 : Nat) : Int) := by rw [h1]
   subst hR
   go_enter Tryz.func164, Tryz.ntmps164
   go_wp2_with fail
   refine bodyPost_ret (v := .bool (decide (x.2.1 < y.2.1))) (by simp [results, Tryz.results164, go_sem]) rfl ⟨rfl, bel_by⟩
 ·have hR := HK.out h1
  have hn : ¬ ((x.1 : Nat) : Int) = ((y.1 : Nat) : Int) := by omega
  have hd : decide (((x.1 : Nat) : Int) < ((y.1 : Nat) : Int)) = decide (x.1 < y.1) := by rw [Bool.eq_iff_iff]; simp
  rw [← hd] at hR
  clear hd
  subst hR
  go_enter Tryz.func164, Tryz.ntmps164
  go_wp2_with fail
  refine bodyPost_ret (v := .bool (decide (((x.1 : Nat) : Int) < ((y.1 : Nat) : Int)))) (by simp [results, Tryz.results164, go_sem]) rfl ⟨rfl, bel_by⟩
end Go.Proofs.YtccnkebkgegohaaGreatDoor
end
section
namespace Go.Proofs.YtccnkebkgegohaaGreatDoor
open Go.RowKit Go.Rel
set_option maxRecDepth 100000
theorem lex_head {a b : Int} {l m : List Int} (h : a ≠ b) : (a :: l < b :: m) = (a < b) := by
 rw [List.cons_lt_cons_iff]
 exact propext ⟨fun h' => h'.elim id fun h2 => absurd h2.1 h, .inl⟩
theorem lex_tail {a b : Int} {l m : List Int} (h : a = b) : (a :: l < b :: m) = (l < m) := by
 subst h
 rw [List.cons_lt_cons_iff]
 exact propext ⟨fun h' => h'.elim (fun h2 => absurd h2 (Int.lt_irrefl _)) fun h2 => h2.2, fun h' => .inr ⟨rfl, h'⟩⟩
theorem Less164_spec (x y : Ac) (w : World) : Calls Tryz.prog 164 #[.agg #[.int .u8 x.1, .int .i64 x.2.1, .int .u64 (pl x.2.2 0), .int .u64 (pl x.2.2 1), .int .u64 (pl x.2.2 2), .int .u64 (pl x.2.2 3), .int .u64 (pl x.2.2 4), .int .u64 (pl x.2.2 5), .int .u64 (pl x.2.2 6), .int .u64 (pl x.2.2 7)], .agg #[.int .u8 y.1, .int .i64 y.2.1, .int .u64 (pl y.2.2 0), .int .u64 (pl y.2.2 1), .int .u64 (pl y.2.2 2), .int .u64 (pl y.2.2 3), .int .u64 (pl y.2.2 4), .int .u64 (pl y.2.2 5), .int .u64 (pl y.2.2 6), .int .u64 (pl y.2.2 7)]] w fun e w' => e = .returned (.bool (decide (cmpA x y < 0))) ∧ Below w.heap.size w w' := by
 have hk : (cmpA x y < 0) = (keyA x < keyA y) := propext cmpA_lt
 refine Less164_main x y w _ (fun h => ?_) (fun h1 h2 => ?_) (fun h1 h2 z hz hp hne => ?_) (fun h1 h2 hp => ?_)
 ·rw [decide_eq_decide, cmpA_lt]
  unfold keyA
  rw [lex_head (by omega)]; omega
 ·rw [decide_eq_decide, cmpA_lt]
  unfold keyA
  rw [lex_tail (by omega), lex_head h2]
 ·rw [decide_eq_decide, cmpA_lt]
  unfold keyA
  rw [lex_tail (by omega), lex_tail h2]
  unfold planes
  match z, hz with
  | 0, _ => rw [lex_head hne]
  | 1, _ => rw [lex_tail (hp 0 (by omega)), lex_head hne]
  | 2, _ => rw [lex_tail (hp 0 (by omega)), lex_tail (hp 1 (by omega)), lex_head hne]
  | 3, _ => rw [lex_tail (hp 0 (by omega)), lex_tail (hp 1 (by omega)), lex_tail (hp 2 (by omega)), lex_head hne]
  | 4, _ => rw [lex_tail (hp 0 (by omega)), lex_tail (hp 1 (by omega)), lex_tail (hp 2 (by omega)), lex_tail (hp 3 (by omega)), lex_head hne]
  | 5, _ => rw [lex_tail (hp 0 (by omega)), lex_tail (hp 1 (by omega)), lex_tail (hp 2 (by omega)), lex_tail (hp 3 (by omega)), lex_tail (hp 4 (by omega)), lex_head hne]
  | 6, _ => rw [lex_tail (hp 0 (by omega)), lex_tail (hp 1 (by omega)), lex_tail (hp 2 (by omega)), lex_tail (hp 3 (by omega)), lex_tail (hp 4 (by omega)), lex_tail (hp 5 (by omega)), lex_head hne]
  | 7, _ => rw [lex_tail (hp 0 (by omega)), lex_tail (hp 1 (by omega)), lex_tail (hp 2 (by omega)), lex_tail (hp 3 (by omega)), lex_tail (hp 4 (by omega)), lex_tail (hp 5 (by omega)), lex_tail (hp 6 (by omega)), lex_head hne]
  | n + 8, h => exact absurd h (by omega)
 ·rw [decide_eq_false_iff_not, cmpA_lt]
  unfold keyA
  rw [lex_tail (by omega), lex_tail h2]
  unfold planes
  rw [lex_tail (hp 0 (by omega)), lex_tail (hp 1 (by omega)), lex_tail (hp 2 (by omega)), lex_tail (hp 3 (by omega)), lex_tail (hp 4 (by omega)), lex_tail (hp 5 (by omega)), lex_tail (hp 6 (by omega)), lex_tail (hp 7 (by omega))]
  simp
end Go.Proofs.YtccnkebkgegohaaGreatDoor
end
