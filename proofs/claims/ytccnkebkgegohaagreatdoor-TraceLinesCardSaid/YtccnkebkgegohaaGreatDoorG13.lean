import Derived.Test.YtccnkebkgegohaaGreatDoorG12
import Derived.RegionTactic
import Derived.ChangeAlike
/-
  Given contracts of functions of the program, and laws for them, one behind the other.
-/
set_option linter.unusedVariables false
set_option linter.unusedSimpArgs false
set_option linter.unusedSectionVars false
section
namespace Go.Proofs.YtccnkebkgegohaaGreatDoor
open Go.RowKit Go.Rel
set_option maxRecDepth 100000
theorem info4 : (Tryz.prog.info? 4).map (fun i => (i.zero, i.size, i.bytes)) = some (some (.bool false), 1, 1) := by kernel_rfl
theorem own_setOther {w : World} {base : Nat} {e : TypeId} {size : Nat} {v : Value} {n : Nat} {xs : List Value} (h : w.ownsRow base e size v n xs) {a : Addr} (hab : a.block < base) (u : Value) : (w.setCell a u).ownsRow base e size v n xs := by
 refine ⟨h.1, ?_⟩
 rcases h.2 with h | ⟨g, cap, cur, e1, hb, hg, rest⟩
 ·exact .inl h
 ·exact .inr ⟨g, cap, cur, e1, hb, (Below.heap_setCell w a u g (by omega)).trans hg, rest⟩
theorem outD_yes {dep : Nat → Nat → Bool} {i k : Nat} (hk : k < i) (h : ahd dep i k = true) : outD dep i (i - k) = outD dep i (i - (k + 1)) ++ [(k : Int)] := by
 obtain ⟨m, hm⟩ : ∃ m, i - k = m + 1 := ⟨i - k - 1, by omega⟩
 have e : i - (m + 1) = k := by omega
 rw [hm, show i - (k + 1) = m by omega, outD, e, if_pos h]
theorem outD_no {dep : Nat → Nat → Bool} {i k : Nat} (hk : k < i) (h : ahd dep i k = false) : outD dep i (i - k) = outD dep i (i - (k + 1)) := by
 obtain ⟨m, hm⟩ : ∃ m, i - k = m + 1 := ⟨i - k - 1, by omega⟩
 have e : i - (m + 1) = k := by omega
 rw [hm, show i - (k + 1) = m by omega, outD, e, if_neg (by simp [h])]
/-- of the acts behind act k the first ones looked at -/
def partA (dep : Nat → Nat → Bool) (i k j : Nat) : Bool := (List.range (j - (k + 1))).any fun t => ahd dep i (k + 1 + t) && dep k (k + 1 + t)
theorem partA_zero (dep : Nat → Nat → Bool) (i k : Nat) : partA dep i k (k + 1) = false := by simp [partA]
theorem partA_succ (dep : Nat → Nat → Bool) (i k j : Nat) (h : k + 1 ≤ j) : partA dep i k (j + 1) = (partA dep i k j || (ahd dep i j && dep k j)) := by
 unfold partA
 rw [show j + 1 - (k + 1) = (j - (k + 1)) + 1 by omega, List.range_succ, List.any_append]
 congr 1
 simp [show k + 1 + (j - (k + 1)) = j by omega]
theorem partA_all (dep : Nat → Nat → Bool) (i k : Nat) (h : k < i) : partA dep i k (i + 1) = ahd dep i k := by
 rw [ahd_step dep h, partA, show i + 1 - (k + 1) = i - k by omega]
set_option maxHeartbeats 16000000 in
theorem needs_spec {bp : Nat} {blank : Sol} {v av : Value} {l : List Sol} {acts : List Ac} {s : Stn} (w : World) (HP : PastAt bp blank v av l acts s w) (i : Nat) (hi : i < acts.length) (hn : acts.length ≤ 60) :
  Calls Tryz.prog 117 #[.pointer (some ⟨bp, 0, none⟩), .int .i64 i] w fun e w' => ∃ u, e = .returned u ∧ OwnI w' w.heap.size u (needsM (depN (cellsOf l acts)) i) ∧ Below w.heap.size w w' := by
 obtain ⟨g, c, hpast, hcc, hcm, hg, hd⟩ := HP.opn (by omega)
 have HDC : Hid (∀ k j, k < acts.length → j < acts.length → ∃ dk dj, w.cell? ⟨g, k, none⟩ = some dk ∧ w.cell? ⟨g, j, none⟩ = some dj ∧ ∀ w', Calls Tryz.prog 101 #[dk, dj] w' fun e w'' => e = .returned (.bool (!(depN (cellsOf l acts) k j))) ∧ Below w'.heap.size w' w'') := fun k j hk hj =>
  ⟨_, _, hd k _ (by simp [hk] : acts[k]? = some acts[k]), hd j _ (by simp [hj] : acts[j]? = some acts[j]), fun w' => by
   have := independent_spec (made l acts[k]) (made l acts[j]) w'
   have e : depN (cellsOf l acts) k j = meetsB (made l acts[k]).2.2 (made l acts[j]).2.2 := by simp [depN, cellsOf, hk, hj, made]
   rw [e]; exact this⟩
 have cpw := Lib.hid hpast
 have lp := hpast.lt
 obtain ⟨i1, hi0, hz0, hz1, hz2⟩ := info_parts info4
 have HI1 := Lib.hid (And.intro hi0 (And.intro hz0 (And.intro hz1 hz2))); clear hi0 hz0 hz1 hz2
 obtain ⟨i3, hi0, hz0, hz1, hz2⟩ := info_parts info3
 have HI3 := Lib.hid (And.intro hi0 (And.intro hz0 (And.intro hz1 hz2))); clear hi0 hz0 hz1 hz2
 have cp0 := hpast.cell
 clear HP hpast hd
 generalize depN (cellsOf l acts) = dep at *
 generalize acts.length = n at *
 have HW0 : Hid (Below w.heap.size w w) := Below.refl _ _
 go_enter Tryz.func117, Tryz.ntmps117
 go_wp2_with (first | (at_make; refine wpList_make_full _ rfl _ _ 144 rfl w.heap.size 4 i1 (.bool false) 1 Tryz.underlying144 HI1.out.1 HI1.out.2.1 HI1.out.2.2.1 .i64 .i64 _ _ n rfl rfl rfl rfl (by rw [HI1.out.2.2.2]; omega) (by unfold maxLen; omega) (Nat.le_refl _) ?_; intro w1 hown1 hgrow1; have hb1 := (own_made hown1).1; have c1 := (hb1.cell i).trans (tab_get hi); have f1 := hb1.free i; have lb1 := hb1.lt; have HB0 := Lib.hid hb1; have HBel : Hid (Below w.heap.size w w1) := Lib.hid ((Below.refl _ _).grown hgrow1 (Nat.le_refl _) (fun j hj => by cases hj)); clear hb1 hown1 hgrow1))
 clear c1 f1 lb1 cp0
 go_loopw [6, 7] (fun o x wr => ∃ (q : Nat) (z : Int), q ≤ i ∧ z = (q : Int) - 1 ∧ x = .int .i64 z ∧ Hid (OwnI wr (w.heap.size + 1) o (outD dep i (i - q))) ∧ Blk wr w.heap.size (tab n (fun t => .bool (decide (q ≤ t) && ahd dep i t))) 4 ∧ Below w.heap.size w wr) (fun _ x _ => (intOf x + 1).toNat)
 case atStart =>
  refine ⟨i, _, Nat.le_refl _, rfl, rfl, Lib.hid (by rw [Nat.sub_self]; exact World.ownsRow_nil _ _ _ _), ?_, HBel.out.setCell (by simp) _⟩
  have hs := HB0.out.set i (.bool true)
  rw [tab_set] at hs
  refine (congrArg (fun a => Blk _ _ a 4) (tab_congr fun t ht => ?_)).mp hs
  by_cases e : t = i
  ·subst e; simp [ahd_self]
  ·rw [if_neg e]
   by_cases e2 : i ≤ t
   ·rw [ahd_above (show i < t by omega)]; simp
   ·simp [e2]
 case round =>
  clear HB0 HBel
  obtain ⟨q, z, hq, hz, rfl, hO, hB, hbel⟩ := hrel
  rcases q with _ | k
  ·obtain rfl : z = -1 := by omega
   have hsz := hbel.size
   have HR := Lib.hid (Reverse_spec _ _ _ wr hO.out (by have := hB.lt; omega))
   have HL := Lib.hid hbel
   clear hz hq hB hbel
   go_wp2_with fail
   refine HR.out.mono ?_
   rintro e w2 ⟨⟨u, rfl⟩, hO2, hb2⟩
   have HO2 := Lib.hid (And.intro hO2 hb2); clear hO2 hb2
   go_wp2_with fail
   go_ret
   exact ⟨_, rfl, own_weak (show OwnI w2 (w.heap.size + 1) _ (needsM dep i) from HO2.out.1) (by omega), HL.out.trans (HO2.out.2.mono (by omega))⟩
  ·obtain rfl : z = (k : Int) := by omega
   have hki : k < i := by omega
   have hkn : k < n := by omega
   clear hz hq
   have hBk : Blk wr w.heap.size (tab n (fun t => .bool (if t = k then partA dep i k (k + 1) else decide (k + 1 ≤ t) && ahd dep i t))) 4 := by
    refine (congrArg (fun a => Blk _ _ a 4) (tab_congr fun t ht => ?_)).mp hB
    by_cases e : t = k
    ·subst e; rw [if_pos rfl, partA_zero]; simp; omega
    ·rw [if_neg e]
   have HBK := Lib.hid (And.intro hBk hbel)
   clear hB hBk hbel
   go_wp2_with fail
   obtain ⟨wo, rfl⟩ : ∃ wo : World, wo = wr := ⟨_, rfl⟩
   have hol := outD_length dep i (i - (k + 1))
   generalize hLL : outD dep i (i - (k + 1)) = L at hO hol
   have HLL := Lib.hid hLL; clear hLL
   go_loopw [8] (fun y wr => ∃ j : Nat, k + 1 ≤ j ∧ j ≤ i + 1 ∧ y = .int .i64 j ∧ Blk wr w.heap.size (tab n (fun t => .bool (if t = k then partA dep i k j else decide (k + 1 ≤ t) && ahd dep i t))) 4 ∧ Hid (OwnI wr (w.heap.size + 1) u6 (L)) ∧ Below w.heap.size w wr) (fun y _ => i + 1 - (intOf y).toNat)
   case atStart => exact ⟨k + 1, Nat.le_refl _, by omega, by go_num, HBK.out.1, hO, HBK.out.2⟩
   case round =>
    obtain ⟨j, hj1, hj2, rfl, hB, hO, hbel⟩ := hrel
    clear HBK
    by_cases hlt : j ≤ i
    ·have hjn : j < n := by omega
     have hjk : ¬ j = k := by omega
     have hck := (hB.cell k).trans (tab_get hkn)
     have hcj := (hB.cell j).trans (tab_get hjn)
     rw [if_pos rfl] at hck
     rw [if_neg hjk] at hcj
     have e1 : decide (k + 1 ≤ j) = true := by simp; omega
     rw [e1, Bool.true_and] at hcj
     have hps := partA_succ dep i k j hj1
     have lB := hB.lt
     obtain ⟨dk, dj, ck', cj', hH⟩ := HDC.out k j hkn hjn
     have HH := Lib.hid hH; clear hH
     have cp : ∀ o, wr.cell? ⟨bp, o, none⟩ = _ := fun o => (hbel.cell (p := ⟨bp, o, none⟩) lp).trans (cpw.out.cell o)
     have ck := (hbel.cell (p := ⟨g, k, none⟩) hg).trans ck'
     have cj := (hbel.cell (p := ⟨g, j, none⟩) hg).trans cj'
     have lp' : bp < wr.heap.size := Nat.lt_of_lt_of_le lp hbel.size
     have lg' : g < wr.heap.size := Nat.lt_of_lt_of_le hg hbel.size
     clear ck' cj' e1
     have HB := Lib.hid hB
     clear hB
     rcases hA : partA dep i k j with _ | _
     ·rcases hb' : ahd dep i j with _ | _
      ·have HP : Hid (partA dep i k (j + 1) = false) := by rw [hps, hA, hb']; rfl
       rw [hA] at hck; rw [hb'] at hcj
       clear hb' HH
       go_wp2_with fail
       refine wp_region_grow 30 [Is (.slice (some ⟨w.heap.size, 0, none⟩) n n), Is (.int .i64 k), Is (.slice (some ⟨w.heap.size, 0, none⟩) n n), Is (.int .i64 k), Is (.pointer (some ⟨w.heap.size, k, none⟩)), Is (.bool false), Is (.bool false), Is (.slice (some ⟨w.heap.size, 0, none⟩) n n), Is (.int .i64 j), Is (.pointer (some ⟨w.heap.size, j, none⟩)), Is (.bool false), Is (.bool false), Is undef, Is undef, Is undef, Is undef, Is undef, Is undef, Is undef, Is undef, Is undef, Is undef, Is undef, Is undef, Is undef, Is undef, Is undef, Is undef, Is (.bool false), Is (.bool false)] (by kernel_rfl) (by kernel_rfl) rfl ⟨fun _ _ _ h _ => h, fun _ _ _ h _ => h, fun _ _ _ h _ => h, fun _ _ _ h _ => h, fun _ _ _ h _ => h, fun _ _ _ h _ => h, fun _ _ _ h _ => h, fun _ _ _ h _ => h, fun _ _ _ h _ => h, fun _ _ _ h _ => h, fun _ _ _ h _ => h, fun _ _ _ h _ => h, fun _ _ _ h _ => h, fun _ _ _ h _ => h, fun _ _ _ h _ => h, fun _ _ _ h _ => h, fun _ _ _ h _ => h, fun _ _ _ h _ => h, fun _ _ _ h _ => h, fun _ _ _ h _ => h, fun _ _ _ h _ => h, fun _ _ _ h _ => h, fun _ _ _ h _ => h, fun _ _ _ h _ => h, fun _ _ _ h _ => h, fun _ _ _ h _ => h, fun _ _ _ h _ => h, fun _ _ _ h _ => h, fun _ _ _ h _ => h, fun _ _ _ h _ => h, trivial⟩ ?_
       simp only [List.take_succ_cons, List.take_zero, List.drop_succ_cons, List.drop_zero]
       iterate 30 (refine rel_cons ?_ (fun _ => ?_); · intro w1 hb hF; have hc := (Grows.cells hb).1; have hf := (Grows.cells hb).2; (try simp [facts, Is] at hF); go_simp; (all_goals first | exact Grows.refl _ | (intro hx; cases hx)))
       refine rel_nil ?_
       intro w1 hb hF
       simp [Is, Nat.forall_lt_succ_right] at hF
       simp only [Act.put, List.setIfInBounds_toArray, List.set_cons_succ, List.set_cons_zero, hF]
       clear hF
       have hB1 := HB.out.grow hb
       have c1 := (hB1.cell k).trans (tab_get hkn)
       have f1 := hB1.free k
       have l1 := hB1.lt
       rw [if_pos rfl] at c1
       have HB1 := Lib.hid hB1
       have HG := Lib.hid (And.intro (own_grow hO.out hb) (bel_trans hbel hb))
       clear hB1 hb hbel hck hcj cp ck cj hA hps
       go_wp2_with fail
       go_roundw
       case rel => exact ⟨j + 1, by omega, by omega, by go_num, by
         have hs := HB1.out.set k (.bool false)
         rw [tab_set] at hs
         refine (congrArg (fun a => Blk _ _ a 4) (tab_congr fun t ht => ?_)).mp hs
         by_cases e : t = k
         ·rw [if_pos e, if_pos e, HP.out]
         ·rw [if_neg e, if_neg e, if_neg e], Lib.hid (own_setOther HG.out.1 (by simp) _), HG.out.2.setCell (by simp) _⟩
       case measure => simp [intOf]; omega
      ·generalize hr : dep k j = r at HH
       have HP : Hid (partA dep i k (j + 1) = r) := Lib.hid (by rw [hps, hA, hb', hr]; simp)
       rw [hA] at hck; rw [hb'] at hcj
       clear hb' hr
       go_wp2_with fail
       refine wp_region_grow 30 [Is (.slice (some ⟨w.heap.size, 0, none⟩) n n), Is (.int .i64 k), Is (.slice (some ⟨w.heap.size, 0, none⟩) n n), Is (.int .i64 k), Is (.pointer (some ⟨w.heap.size, k, none⟩)), Is (.bool false), Is (.bool false), Is (.slice (some ⟨w.heap.size, 0, none⟩) n n), Is (.int .i64 j), Is (.pointer (some ⟨w.heap.size, j, none⟩)), Is (.bool true), Is (.bool true), Is (.pointer (some ⟨bp, 0, none⟩)), Is (.pointer (some ⟨bp, 0, none⟩)), Is (.pointer (some ⟨bp, 10, none⟩)), Is (.slice (some ⟨g, 0, none⟩) n c), Is (.int .i64 k), Is (.pointer (some ⟨g, k, none⟩)), Is dk, Is (.pointer (some ⟨bp, 0, none⟩)), Is (.pointer (some ⟨bp, 0, none⟩)), Is (.pointer (some ⟨bp, 10, none⟩)), Is (.slice (some ⟨g, 0, none⟩) n c), Is (.int .i64 j), Is (.pointer (some ⟨g, j, none⟩)), Is dj, Is (.bool (!r)), Is (.bool r), Is (.bool r), Is (.bool r)] (by kernel_rfl) (by kernel_rfl) rfl ⟨fun _ _ _ h _ => h, fun _ _ _ h _ => h, fun _ _ _ h _ => h, fun _ _ _ h _ => h, fun _ _ _ h _ => h, fun _ _ _ h _ => h, fun _ _ _ h _ => h, fun _ _ _ h _ => h, fun _ _ _ h _ => h, fun _ _ _ h _ => h, fun _ _ _ h _ => h, fun _ _ _ h _ => h, fun _ _ _ h _ => h, fun _ _ _ h _ => h, fun _ _ _ h _ => h, fun _ _ _ h _ => h, fun _ _ _ h _ => h, fun _ _ _ h _ => h, fun _ _ _ h _ => h, fun _ _ _ h _ => h, fun _ _ _ h _ => h, fun _ _ _ h _ => h, fun _ _ _ h _ => h, fun _ _ _ h _ => h, fun _ _ _ h _ => h, fun _ _ _ h _ => h, fun _ _ _ h _ => h, fun _ _ _ h _ => h, fun _ _ _ h _ => h, fun _ _ _ h _ => h, trivial⟩ ?_
       simp only [List.take_succ_cons, List.take_zero, List.drop_succ_cons, List.drop_zero]
       iterate 26 (refine rel_cons ?_ (fun _ => ?_); · intro w1 hb hF; have hc := (Grows.cells hb).1; have hf := (Grows.cells hb).2; (try simp [facts, Is] at hF); go_simp; (all_goals first | exact Grows.refl _ | (intro hx; cases hx)))
       refine rel_cons ?_ (fun v26 => ?_)
       ·intro w1 hb hF; have hc := (Grows.cells hb).1; have hf := (Grows.cells hb).2; try simp [facts, Is] at hF
        go_simp
        refine (HH.out _).mono ?_
        rintro e w4 ⟨rfl, hb4⟩
        exact ⟨rfl, hb4⟩
       iterate 3 (refine rel_cons ?_ (fun _ => ?_); · intro w1 hb hF; have hc := (Grows.cells hb).1; have hf := (Grows.cells hb).2; (try simp [facts, Is] at hF); go_simp; (all_goals first | exact Grows.refl _ | (intro hx; cases hx)))
       refine rel_nil ?_
       intro w1 hb hF
       simp [Is, Nat.forall_lt_succ_right] at hF
       simp only [Act.put, List.setIfInBounds_toArray, List.set_cons_succ, List.set_cons_zero, hF]
       clear hF
       have hB1 := HB.out.grow hb
       have c1 := (hB1.cell k).trans (tab_get hkn)
       have f1 := hB1.free k
       have l1 := hB1.lt
       rw [if_pos rfl] at c1
       have HB1 := Lib.hid hB1
       have HG := Lib.hid (And.intro (own_grow hO.out hb) (bel_trans hbel hb))
       clear hB1 hb hbel hck hcj cp ck cj hA hps
       go_wp2_with fail
       go_roundw
       case rel => exact ⟨j + 1, by omega, by omega, by go_num, by
         have hs := HB1.out.set k (.bool r)
         rw [tab_set] at hs
         refine (congrArg (fun a => Blk _ _ a 4) (tab_congr fun t ht => ?_)).mp hs
         by_cases e : t = k
         ·rw [if_pos e, if_pos e, HP.out]
         ·rw [if_neg e, if_neg e, if_neg e], Lib.hid (own_setOther HG.out.1 (by simp) _), HG.out.2.setCell (by simp) _⟩
       case measure => simp [intOf]; omega
     ·have HP : Hid (partA dep i k (j + 1) = true) := by rw [hps, hA]; rfl
      rw [hA] at hck
      clear HH
      go_wp2_with fail
      refine wp_region_grow 30 [Is (.slice (some ⟨w.heap.size, 0, none⟩) n n), Is (.int .i64 k), Is (.slice (some ⟨w.heap.size, 0, none⟩) n n), Is (.int .i64 k), Is (.pointer (some ⟨w.heap.size, k, none⟩)), Is (.bool true), Is (.bool true), Is undef, Is undef, Is undef, Is undef, Is undef, Is undef, Is undef, Is undef, Is undef, Is undef, Is undef, Is undef, Is undef, Is undef, Is undef, Is undef, Is undef, Is undef, Is undef, Is undef, Is undef, Is undef, Is (.bool true)] (by kernel_rfl) (by kernel_rfl) rfl ⟨fun _ _ _ h _ => h, fun _ _ _ h _ => h, fun _ _ _ h _ => h, fun _ _ _ h _ => h, fun _ _ _ h _ => h, fun _ _ _ h _ => h, fun _ _ _ h _ => h, fun _ _ _ h _ => h, fun _ _ _ h _ => h, fun _ _ _ h _ => h, fun _ _ _ h _ => h, fun _ _ _ h _ => h, fun _ _ _ h _ => h, fun _ _ _ h _ => h, fun _ _ _ h _ => h, fun _ _ _ h _ => h, fun _ _ _ h _ => h, fun _ _ _ h _ => h, fun _ _ _ h _ => h, fun _ _ _ h _ => h, fun _ _ _ h _ => h, fun _ _ _ h _ => h, fun _ _ _ h _ => h, fun _ _ _ h _ => h, fun _ _ _ h _ => h, fun _ _ _ h _ => h, fun _ _ _ h _ => h, fun _ _ _ h _ => h, fun _ _ _ h _ => h, fun _ _ _ h _ => h, trivial⟩ ?_
      simp only [List.take_succ_cons, List.take_zero, List.drop_succ_cons, List.drop_zero]
      iterate 30 (refine rel_cons ?_ (fun _ => ?_); · intro w1 hb hF; have hc := (Grows.cells hb).1; have hf := (Grows.cells hb).2; (try simp [facts, Is] at hF); go_simp; (all_goals first | exact Grows.refl _ | (intro hx; cases hx)))
      refine rel_nil ?_
      intro w1 hb hF
      simp [Is, Nat.forall_lt_succ_right] at hF
      simp only [Act.put, List.setIfInBounds_toArray, List.set_cons_succ, List.set_cons_zero, hF]
      clear hF
      have hB1 := HB.out.grow hb
      have c1 := (hB1.cell k).trans (tab_get hkn)
      have f1 := hB1.free k
      have l1 := hB1.lt
      rw [if_pos rfl] at c1
      have HB1 := Lib.hid hB1
      have HG := Lib.hid (And.intro (own_grow hO.out hb) (bel_trans hbel hb))
      clear hB1 hb hbel hck hcj cp ck cj hA hps
      go_wp2_with fail
      go_roundw
      case rel => exact ⟨j + 1, by omega, by omega, by go_num, by
        have hs := HB1.out.set k (.bool true)
        rw [tab_set] at hs
        refine (congrArg (fun a => Blk _ _ a 4) (tab_congr fun t ht => ?_)).mp hs
        by_cases e : t = k
        ·rw [if_pos e, if_pos e, HP.out]
        ·rw [if_neg e, if_neg e, if_neg e], Lib.hid (own_setOther HG.out.1 (by simp) _), HG.out.2.setCell (by simp) _⟩
      case measure => simp [intOf]; omega
    ·have hji : j = i + 1 := by omega
     subst hji
     have hB' : Blk wr w.heap.size (tab n (fun t => .bool (decide (k ≤ t) && ahd dep i t))) 4 := by
      refine (congrArg (fun a => Blk _ _ a 4) (tab_congr fun t ht => ?_)).mp hB
      by_cases e : t = k
      ·subst e; rw [if_pos rfl, partA_all dep i t hki]; simp
      ·rw [if_neg e]
       have : (k + 1 ≤ t) = (k ≤ t) := by simp; omega
       simp only [this]
     have hck := (hB'.cell k).trans (tab_get hkn)
     have e1 : decide (k ≤ k) = true := by simp
     rw [e1, Bool.true_and] at hck
     have lB := hB'.lt
     have HB := Lib.hid (And.intro hB' hbel); clear hB hB' e1 hbel
     rcases hA : ahd dep i k with _ | _
     ·rw [hA] at hck
      have HA := Lib.hid hA; clear hA
      go_wp2_with fail
      go_roundw
      case rel => exact ⟨k, _, by omega, by omega, rfl, Lib.hid (by rw [outD_no hki HA.out, HLL.out]; exact hO.out), HB.out.1, HB.out.2⟩
      case measure => simp [intOf]
     ·rw [hA] at hck
      have HA := Lib.hid hA; clear hA
      have hszB := HB.out.2.size
      go_wp2_with (first | (at_builtin; refine wpList_append_own _ rfl _ _ 66 rfl (w.heap.size + 1) 3 i3 (.int .i64 0) 1 8 Tryz.underlying66 HI3.out.1 HI3.out.2.1 HI3.out.2.2.1 HI3.out.2.2.2 rfl (by decide) _ _ _ rfl (hO.out.alloc _) ⟨wr.heap.size, 0, none⟩ 1 1 [.int .i64 k] rfl rfl (cell_one_new _ _ _) (fun x hx => by simp at hx; subst hx; rfl) (by unfold maxLen; omega) (by omega) (by simp; omega) ?_; intro v' w3 hown' hgrow3 hnil3))
      have hB3 : Below w.heap.size w w3 := (bel_alloc HB.out.2 _).grown hgrow3 (by simp; omega) (fun j hj => by have := (hO.out.lt j hj).1; omega)
      have hBl3 : Blk w3 w.heap.size (tab n (fun t => .bool (decide (k ≤ t) && ahd dep i t))) 4 := (hgrow3.block w.heap.size (by simp; omega) (fun e => by have := (hO.out.lt w.heap.size e.symm).1; omega)).trans (HB.out.1.alloc _)
      have H3 := Lib.hid (And.intro hown' (And.intro hBl3 hB3)); clear hown' hBl3 hB3 hgrow3 hnil3
      go_wp2_with fail
      go_roundw
      case rel => exact ⟨k, _, by omega, by omega, rfl, Lib.hid (by rw [outD_yes hki HA.out, HLL.out]; unfold OwnI; rw [List.length_append, List.map_append]; exact H3.out.1), H3.out.2.1, H3.out.2.2⟩
      case measure => simp [intOf]
end Go.Proofs.YtccnkebkgegohaaGreatDoor
end
section
namespace Go.Proofs.YtccnkebkgegohaaGreatDoor
open Go.RowKit Go.Rel
set_option maxRecDepth 100000
set_option maxHeartbeats 4000000 in
theorem Needs_bad {blank : Sol} {v av : Value} {l : List Sol} {acts : List Ac} {x : Nat × Int} (h : begunM blank l acts = .inl x) (i : Int) (w : World) (Hv : SlS w v l) (Hav : SlA w av acts) :
  Calls Tryz.prog 50 #[.agg #[.int .u64 (pl blank 0), .int .u64 (pl blank 1), .int .u64 (pl blank 2), .int .u64 (pl blank 3), .int .u64 (pl blank 4), .int .u64 (pl blank 5), .int .u64 (pl blank 6), .int .u64 (pl blank 7), v, av], .int .i64 i] w fun e w' => e = .returned (.tuple #[.slice none 0 0, .int .i64 x.2]) ∧ Below w.heap.size w w' := by
 have H := Lib.hid fun w' (hb : Below w.heap.size w w') => acted_bad h i w' (Hv.mono hb) (Hav.mono hb)
 have hne := begunM_bad h
 clear h Hv Hav
 go_enter Tryz.func50, Tryz.ntmps50
 go_wp2_with fail
 refine (H.out _ bel_by).mono ?_
 rintro e w1 ⟨rfl, hb⟩
 have hB1 : Below w.heap.size w w1 := bel_trans bel_by hb
 go_wp2_with fail
 refine bodyPost_ret (by simp [results, Tryz.results50, go_sem]) rfl ⟨rfl, hB1⟩
set_option maxHeartbeats 4000000 in
theorem Needs_err {blank : Sol} {v av : Value} {l : List Sol} {acts : List Ac} {s : Stn} (h : begunM blank l acts = .inr s) (i : Int) (hi : i < 0 ∨ (acts.length : Int) ≤ i) (w : World) (Hv : SlS w v l) (Hav : SlA w av acts) :
  Calls Tryz.prog 50 #[.agg #[.int .u64 (pl blank 0), .int .u64 (pl blank 1), .int .u64 (pl blank 2), .int .u64 (pl blank 3), .int .u64 (pl blank 4), .int .u64 (pl blank 5), .int .u64 (pl blank 6), .int .u64 (pl blank 7), v, av], .int .i64 i] w fun e w' => e = .returned (.tuple #[.slice none 0 0, .int .i64 1]) ∧ Below w.heap.size w w' := by
 have H := Lib.hid fun w' (hb : Below w.heap.size w w') => acted_good h i w' (Hv.mono hb) (Hav.mono hb)
 have he : actedE acts.length i = 1 := by unfold actedE; rw [if_pos hi]
 rw [he] at H
 clear h Hv Hav he hi
 go_enter Tryz.func50, Tryz.ntmps50
 go_wp2_with fail
 refine (H.out _ bel_by).mono ?_
 rintro e w1 ⟨bp, rfl, hP, hb⟩
 have hB1 : Below w.heap.size w w1 := bel_trans bel_by hb
 go_wp2_with fail
 refine bodyPost_ret (by simp [results, Tryz.results50, go_sem]) rfl ⟨rfl, hB1⟩
set_option maxHeartbeats 4000000 in
theorem Needs_good {blank : Sol} {v av : Value} {l : List Sol} {acts : List Ac} {s : Stn} (h : begunM blank l acts = .inr s) (i : Nat) (hi : i < acts.length) (w : World) (Hv : SlS w v l) (Hav : SlA w av acts) :
  Calls Tryz.prog 50 #[.agg #[.int .u64 (pl blank 0), .int .u64 (pl blank 1), .int .u64 (pl blank 2), .int .u64 (pl blank 3), .int .u64 (pl blank 4), .int .u64 (pl blank 5), .int .u64 (pl blank 6), .int .u64 (pl blank 7), v, av], .int .i64 i] w fun e w' => ∃ u, e = .returned (.tuple #[u, .int .i64 0]) ∧ OwnI w' w.heap.size u (needsM (depN (cellsOf l acts)) i) ∧ Below w.heap.size w w' := by
 have H := Lib.hid fun w' (hb : Below w.heap.size w w') => acted_good h i w' (Hv.mono hb) (Hav.mono hb)
 have he : actedE acts.length i = 0 := by unfold actedE; rw [if_neg (by omega)]
 have hn := (begunM_good h).2.1
 rw [he] at H
 clear h Hv Hav he
 go_enter Tryz.func50, Tryz.ntmps50
 go_wp2_with fail
 refine (H.out _ bel_by).mono ?_
 rintro e w1 ⟨bp, rfl, hP, hb⟩
 have hB1 : Below w.heap.size w w1 := bel_trans bel_by hb
 have HN := Lib.hid (needs_spec w1 hP i hi hn); clear hP
 have hs := hb.size
 simp only [World.size_alloc] at hs
 go_wp2_with fail
 refine HN.out.mono ?_
 rintro e w2 ⟨u, rfl, hO, hb2⟩
 have HO := Lib.hid (And.intro hO (bel_trans hB1 hb2)); clear hO hb2
 go_wp2_with fail
 refine bodyPost_ret (by simp [results, Tryz.results50, go_sem]) rfl ⟨_, rfl, own_weak HO.out.1 (by omega), HO.out.2⟩
end Go.Proofs.YtccnkebkgegohaaGreatDoor
end
section
namespace Go.Proofs.YtccnkebkgegohaaGreatDoor
open Go.RowKit Go.Rel
set_option maxRecDepth 100000
/-- whether two acts are the fitting and the taking of one piece -/
def oppA (a b : Ac) : Bool := (a.2.1 == b.2.1) && ((decide (min a.1 b.1 = 2)) && decide (max a.1 b.1 = 3))
theorem oppA_iff {a b : Ac} : oppA a b = true ↔ a.2.1 = b.2.1 ∧ min a.1 b.1 = 2 ∧ max a.1 b.1 = 3 := by simp [oppA]
set_option maxHeartbeats 8000000 in
theorem opposite_spec {bp : Nat} {blank : Sol} {v av : Value} {l : List Sol} {acts : List Ac} {s : Stn} (w : World) (HP : PastAt bp blank v av l acts s w) (Ha : SlA w av acts) (i j : Nat) (x y : Ac) (hx : acts[i]? = some x) (hy : acts[j]? = some y) :
  Calls Tryz.prog 145 #[.pointer (some ⟨bp, 0, none⟩), .int .i64 i, .int .i64 j] w fun e w' => e = .returned (.bool (oppA x y)) ∧ Below w.heap.size w w' := by
 obtain ⟨dv, hpast, _⟩ := HP.past
 have cp := hpast.cell
 have lp := hpast.lt
 have hil : i < acts.length := (List.getElem?_eq_some_iff.1 hx).1
 have hjl : j < acts.length := (List.getElem?_eq_some_iff.1 hy).1
 rcases Ha.cases with ⟨h, _⟩ | ⟨b, off, ca, rfl, h2, h3, _, hcs⟩
 ·have : acts = [] := by simpa using h
  subst this; simp at hil
 rw [List.length_map] at *
 have ci := ac_cells hcs hx
 have cj := ac_cells hcs hy
 have lb := hcs.1
 clear HP hpast Ha hcs hx hy
 generalize acts.length = n at *
 obtain ⟨a0, a1, a2, a3, a4, a5, a6, a7, a8, a9⟩ := ci
 obtain ⟨b0, b1, b2, b3, b4, b5, b6, b7, b8, b9⟩ := cj
 go_enter Tryz.func145, Tryz.ntmps145
 go_wp2_with fail
 go_region
 all_goals go_wp2_with fail
 all_goals clear cp a0 a1 a2 a3 a4 a5 a6 a7 a8 a9 b0 b1 b2 b3 b4 b5 b6 b7 b8 b9
 all_goals go_ret
 all_goals refine ⟨ret_bool ?_, ((((Below.refl _ _).drew.alloc (Nat.le_refl _) _).alloc (by simp) _))⟩
 all_goals (rw [Bool.eq_iff_iff, oppA_iff]; simp only [beq_iff_eq, Bool.false_eq_true]; first | omega | exact ⟨False.elim, fun hh => absurd hh (by omega)⟩)
end Go.Proofs.YtccnkebkgegohaaGreatDoor
end
section
namespace Go.Rel
open Go.RowKit
variable {P : Program}
/-- no statement here is a defer -/
def noDefer (l : List Oper) : Bool := l.all fun o => match o.op with | .defer _ => false | _ => true
theorem noDefer_get {l : List Oper} (h : noDefer l = true) {i : Nat} {o : Oper} (hi : l.toArray[i]? = some o) : ∀ c, o.op ≠ .defer c := by
 intro c hc
 have hm : o ∈ l := List.mem_of_getElem? (by simpa using hi)
 have := List.all_eq_true.1 h o hm
 simp [hc] at this
/-- only what goes on -/
def normalOnly (Q : Exit → Act → World → Prop) : Exit → Act → World → Prop
 | .normal, a, w => Q .normal a w
 | _, _, _ => False
theorem wpOpsIn_of_plain {l : List Oper} (hnd : noDefer l = true) {Q : Exit → Act → World → Prop} {r n : Nat} : ∀ (is : List Nat) (a : Act) (w : World), wpOps P l.toArray (normalOnly Q) is a w → wpOpsIn (Fence.wide.inRound r) n P l.toArray (normalOnly Q) is a w
 | [], a, w, h => h
 | i :: is, a, w, h => by
  simp only [wpOps] at h
  simp only [wpOpsIn]
  cases ho : l.toArray[i]? with
  | none =>
   simp only [ho] at h ⊢
   exact wpOpsIn_of_plain hnd is a w h
  | some o =>
   simp only [ho] at h ⊢
   split at h
   ·next hw =>
    rw [if_pos hw]
    rcases h with h | ⟨_, h⟩
    ·refine ⟨fun _ _ => trivial, ?_⟩
     rw [Oper.semAt_eq _ _ _ (noDefer_get hnd ho)]
     unfold Oper.wp at h
     revert h
     generalize (execOp a.eval o).run P w = x
     intro h
     unfold Oper.upon at h
     unfold Oper.uponIn
     split at h
     ·exact wpOpsIn_of_plain hnd is _ _ h
     ·exact wpOpsIn_of_plain hnd is _ _ h
     ·exact wpOpsIn_of_plain hnd is _ _ h
     ·refine ⟨fun h => (by cases h), CallsIn.inRound r (callsIn_wide.2 ?_)⟩
      refine Calls.mono h fun e w' he => ?_
      cases e with
      | returned v => exact wpOpsIn_of_plain hnd is _ _ he
      | panicked c => exact he
      | outgrown => obtain ⟨_, _, hf⟩ := he; exact hf.elim
     ·refine ⟨fun h => (by cases h), fun c cs _ => ?_⟩
      obtain ⟨v, w', h1, h2⟩ := h c cs
      exact ⟨v, w', wpOpsIn_of_plain hnd is _ _ h1, stepsIn_wide.2 h2⟩
     ·exact h
     ·exact h.elim
    ·obtain ⟨_, _, hf⟩ := h; exact hf.elim
   ·next hw =>
    rw [if_neg hw]
    exact ⟨fun _ _ => trivial, wpOpsIn_of_plain hnd is _ _ h⟩
/-- a region that draws, in a round, by what holds of it outside one -/
theorem wpIn_of_any {id r n : Nat} {Q : Exit → Act → World → Prop} {a : Act} {w : World} {l : List Oper} (hnd : noDefer l = true) (hm : P.follows .mixedOrders = true)
  (h : wpAny P .any l.toArray (normalOnly Q) l.toArray.size (Array.replicate l.toArray.size false) a { w with drawn := w.drawn + 1 }) : (Code.region id l.toArray true).wpIn (Fence.wide.inRound r) n P Q a w := by
 refine wpIn_mono (Q := normalOnly Q) (wpIn_region_draw fun t => ?_) ?_
 ·simp only [Region.schedule, hm, Bool.true_or, if_true]
  exact wpOpsIn_of_plain hnd _ _ _ (wpAny_sound l.toArray.size t _ a _ h)
 ·intro e a' w' hq
  cases e with
  | normal => exact hq
  | _ => exact hq.elim
theorem wpIn_region_inv {id r n : Nat} {Q : Exit → Act → World → Prop} {a : Act} {w : World} {l : List Oper} (R : World → World → Prop) (I : (Nat → Bool) → World → Prop) (Vs : List (Value → World → Prop))
  (hnd : noDefer l = true) (hm : P.follows .mixedOrders = true) (hB : okI l.toArray = true) (hlen : Vs.length = l.length) (hrefl : ∀ w, R w w) (htrans : ∀ x y z, R x y → R y z → R x z)
  (hst : ∀ φ ∈ Vs, ∀ v w w', φ v w → R w w' → φ v w') (w0 : World) (h0 : R w0 w.drew) (hI : I (fun _ => false) w.drew)
  (h : wpInv P l.toArray R I w0 (fun a' w' => Q .normal a' w') l Vs 0 a (fun _ _ => True)) : (Code.region id l.toArray true).wpIn (Fence.wide.inRound r) n P Q a w := by
 refine wpIn_of_any hnd hm ?_
 have hL0 : listedL (Array.replicate l.toArray.size false) = fun _ => false := by
  funext j; unfold listedL; rw [getD_replicate_false]
 have hc : cnt l.length (Array.replicate l.toArray.size false) = l.length := by
  unfold cnt
  rw [List.filter_eq_self.2]
  ·simp
  ·intro j hj
   have hj' : j < l.length := List.mem_range.1 hj
   have := getD_in (listed := Array.replicate l.toArray.size false) (i := j) (by simpa using hj') (getD_replicate_false _ _)
   rw [this]; rfl
 have := any_of_inv (Q := normalOnly Q) (okI_of hB) hlen hrefl htrans hst h l.length _ a { w with drawn := w.drawn + 1 } (fun _ => undef)
  ⟨by simp, fun j oj _ hl => (by rw [getD_replicate_false] at hl; cases hl)⟩ hc ⟨rfl, rfl, fun t => by
  unfold slotI
  split
  ·rw [hL0]; simp
  ·rfl⟩ h0 (by rw [hL0]; exact hI) (fun j φ hl => by rw [getD_replicate_false] at hl; cases hl)
 simpa using this
end Go.Rel
end
