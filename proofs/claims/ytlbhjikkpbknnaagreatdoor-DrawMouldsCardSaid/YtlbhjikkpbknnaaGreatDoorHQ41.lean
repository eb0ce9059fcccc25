import Derived.Test.YtlbhjikkpbknnaaGreatDoorHQ39
/-
  Given contracts of functions of the program, and laws for them, one behind the other.
-/
set_option linter.unusedVariables false
set_option linter.unusedSimpArgs false
set_option linter.unusedSectionVars false
section
namespace Go.Proofs.YtlbhjikkpbknnaaGreatDoor
open Go.RowKit Go.Rel Go.Draw
set_option maxRecDepth 100000
/-! Joined of the reference -/
set_option maxHeartbeats 16000000 in
theorem refJoined_n {w : World} {v : Value} {m : List Sol} {p q : Int} (H : SlS w v m) : Calls Tryz.prog 56 #[v, .int .i64 p, .int .i64 q] w fun e w' => ∃ u, e = .returned (.tuple #[u, .int .i64 (joinE m p q)]) ∧ SlS w' u (joinL m p q) ∧ Below w.heap.size w w' := by
 have HA := Lib.hid fun W (h : Below w.heap.size w W) => refAsked_spec (gone := []) p (H.mono h) (sl_nil (w := W))
 have HA2 := Lib.hid fun W (h : Below w.heap.size w W) => refAsked_spec (gone := []) q (H.mono h) (sl_nil (w := W))
 obtain ⟨ai, nn, c, rfl, hnn, hc, hcm⟩ := H.out
 subst hnn
 have HH := Lib.hid H
 clear H
 obtain ⟨E, hE⟩ : ∃ E, E = joinE m p q := ⟨_, rfl⟩
 obtain ⟨L, hL⟩ : ∃ L, L = joinL m p q := ⟨_, rfl⟩
 obtain ⟨A, hA⟩ : ∃ A, A = askE m [] [p] := ⟨_, rfl⟩
 obtain ⟨B, hB⟩ : ∃ B, B = askE m [] [q] := ⟨_, rfl⟩
 rw [← hL, ← hE]
 rw [← hA] at HA
 rw [← hB] at HA2
 have h2 : askE m [] [p, q] = if A = 0 then B else A := by rw [askE_two, ← hA, ← hB]
 have hE2 : E = if (if A = 0 then B else A) = 0 then (if p = q then 1 else 0) else (if A = 0 then B else A) := by rw [hE, ← h2]; rfl
 have HE := Lib.hid (And.intro hE (And.intro hL (And.intro hE2 (And.intro hA (And.intro hB h2)))))
 clear hE hL hE2 hA hB h2
 have hLe : E ≠ 0 → L = [] := fun h => by rw [HE.out.2.1]; unfold joinL; rw [← HE.out.1, if_neg h]
 have HLe := Lib.hid hLe; clear hLe
 go_enter Tryz.func56, Tryz.ntmps56
 go_wp2_with fail
 refine (HA.out _ (bel_refl _)).mono ?_
 rintro e w1 ⟨rfl, hb1⟩
 by_cases hA0 : A = 0
 ·subst hA0
  have HB1 := Lib.hid hb1; clear hb1
  go_wp2_with fail
  refine (HA2.out _ HB1.out).mono ?_
  rintro e w2 ⟨rfl, hb2⟩
  have HB2 := Lib.hid (bel_trans HB1.out hb2); clear hb2
  have hEB : E = if B = 0 then (if p = q then 1 else 0) else B := by have := HE.out.2.2.1; simpa using this
  by_cases hB0 : B = 0
  ·subst hB0
   rw [if_pos rfl] at hEB
   have h2 : askE m [] [p, q] = 0 := by have := HE.out.2.2.2.2.2; simpa using this
   obtain ⟨hm12, p', q', rfl, rfl, hp, hq⟩ := join_in h2
   clear h2
   by_cases hpq : p' = q'
   ·have hpi : (p' : Int) = (q' : Int) := by rw [hpq]
    rw [if_pos hpi] at hEB
    subst hEB
    subst hpq
    clear hpi HA HA2
    go_wp2_with fail
    go_ret2
    exact ⟨_, rfl, by rw [HLe.out (by decide)]; exact sl_nil, HB2.out⟩
   ·have hpi : ¬ ((p' : Int) = (q' : Int)) := by omega
    rw [if_neg hpi] at hEB
    subst hEB
    obtain ⟨a, b, ha, hb', hab, hbm, hpqab⟩ : ∃ a b : Nat, min (p' : Int) q' = a ∧ max (p' : Int) q' = b ∧ a < b ∧ b < m.length ∧ (p' = a ∧ q' = b ∨ p' = b ∧ q' = a) := by
     rcases Nat.lt_or_gt_of_ne hpq with h | h
     ·exact ⟨p', q', by omega, by omega, h, hq, .inl ⟨rfl, rfl⟩⟩
     ·exact ⟨q', p', by omega, by omega, h, hp, .inr ⟨rfl, rfl⟩⟩
    have hLe : L = joinN m a b := HE.out.2.1.trans (joinL_of HE.out.1.symm ha hb')
    have HB := Lib.hid (And.intro HB2.out (And.intro hLe hm12))
    have ne1 : ((p' : Int) == (q' : Int)) = false := by simp; omega
    obtain ⟨x', hx'⟩ : ∃ x, m[p']? = some x := ⟨_, List.getElem?_eq_getElem hp⟩
    obtain ⟨y', hy'⟩ : ∃ x, m[q']? = some x := ⟨_, List.getElem?_eq_getElem hq⟩
    obtain ⟨b0, off, c1, he, _, _, hbb, hcs⟩ := sol_at_piece HH.out hx'
    obtain ⟨rfl, -, rfl⟩ : ai = some ⟨b0, off, none⟩ ∧ True ∧ c = c1 := by
     simp only [Value.slice.injEq] at he; exact ⟨he.1, trivial, he.2.2⟩
    obtain ⟨x, hx⟩ : ∃ x, m[a]? = some x := ⟨_, List.getElem?_eq_getElem (by omega)⟩
    obtain ⟨y, hy⟩ : ∃ y, m[b]? = some y := ⟨_, List.getElem?_eq_getElem hbm⟩
    obtain ⟨t, ht⟩ : ∃ t, t = x ||| y := ⟨_, rfl⟩
    have ht' : x' ||| y' = t := by
     rcases hpqab with ⟨h1, h2⟩ | ⟨h1, h2⟩
     ·subst h1 h2; rw [hx] at hx'; rw [hy] at hy'; cases hx'; cases hy'; exact ht.symm
     ·subst h1 h2; rw [hx] at hy'; rw [hy] at hx'; cases hx'; cases hy'; rw [ht, BitVec.or_comm]
    have HX := Lib.hid (And.intro hx (And.intro hy (And.intro ht (And.intro ht' (And.intro hx' (And.intro hy' hcs))))))
    obtain ⟨i0, hi0, hz0, hz1, hz2⟩ := info_parts infoSolid
    have HI0 := Lib.hid (And.intro hi0 (And.intro hz0 (And.intro hz1 hz2))); clear hi0 hz0 hz1 hz2
    have hcs2 : Cells w2 b0 off 8 (m.map solL) := hcs.mono HB.out.1 hbb
    have hne : Hid (∀ j u, ((m.map solL).flatten)[j]? = some u → (w2.alloc (.cells #[] 64)).cell? ((⟨b0, off, none⟩ : Addr).add j) = some u) := Lib.hid (fun j u hu => (Cells.mono hcs2 (bel_alloc (bel_refl w2) (.cells #[] 64)) hcs2.1).flat (fun r hr => by obtain ⟨s, _, rfl⟩ := List.mem_map.1 hr; rfl) j u hu)
    have HON := Lib.hid (own_nilS w2 (Nat.le_refl w2.heap.size))
    obtain ⟨n, hn⟩ : ∃ n, n = m.length := ⟨_, rfl⟩
    have HN := Lib.hid hn
    have hn12 : n ≤ 12 := by rw [hn]; exact hm12
    rw [← hn] at hbm hc hp hq ⊢
    clear hn hx hy ht ht' hx' hy' hcs hcs2 he HA HA2 HE hLe hpqab hm12
    go_wp2_with (first
     | (at_builtin; refine wpList_append_own _ rfl _ _ 22 rfl w2.heap.size 64 i0 _ 8 64 Tryz.underlying22 HI0.out.1 HI0.out.2.1 HI0.out.2.2.1 HI0.out.2.2.2 rfl (by decide) _ 0 [] rfl HON.out ⟨b0, off, none⟩ n c ((m.map solL).flatten) rfl (by rw [solFlat_len, HN.out]) hne.out one_sol (by unfold maxLen; omega) (by omega) (by simp) ?_; intro v' w7 hown' hgrow7 hnil7))
    have hO7 : OwnS w7 w2.heap.size v' m := by
     unfold OwnS
     rw [← HN.out]
     simpa using hown'
    have hb7 : Below w2.heap.size w2 w7 := (bel_alloc (bel_refl w2) (.cells #[] 64)).grown hgrow7 (by simp) (fun j hj => (HON.out.lt j hj).1)
    clear hown' hgrow7 hnil7
    obtain ⟨g, cap, cur, rfl, hQ⟩ := hO7.opn (fun h => by have h2 := HN.out; rw [h] at h2; simp at h2; omega)
    have hbg := hQ.base
    have hbc := hQ.le
    have hcM := hQ.lim
    have hset : m.set a x = m := by
     apply List.ext_getElem?
     intro k
     rw [List.getElem?_set]
     by_cases h : a = k
     ·subst h; rw [if_pos rfl, if_pos (by rw [← HN.out]; omega), HX.out.1]
     ·rw [if_neg h]
    have H7 : Hid (OwnR w7 w2.heap.size (m.set a (mixW x t 0)) g cap ∧ Below w.heap.size w w7 ∧ Below w2.heap.size w2 w7) := Lib.hid ⟨⟨cur, by rw [show mixW x t 0 = x from rfl, hset]; exact hQ⟩, bel_trans HB.out.1 hb7, hb7⟩
    rw [← HN.out] at hbc ⊢
    unfold maxLen at hcM
    clear hO7 hQ hb7 hset HON hne
    go_loopw [10] (fun iv wx => ∃ z : Nat, z ≤ 8 ∧ iv = .int .i64 z ∧ Hid (OwnR wx w2.heap.size (m.set a (mixW x t z)) g cap ∧ w7.grownBy wx (some g))) (fun iv _ => 8 - (intOf iv).toNat)
    case atStart => exact ⟨0, by omega, rfl, Lib.hid ⟨H7.out.1, gb_refl _ _⟩⟩
    case round =>
     obtain ⟨z, hz, rfl, HI⟩ := hrel
     by_cases hz8 : z < 8
     ·have hzI : (z : Int) < 8 := by omega
      have hdz : decide ((z : Int) < 8) = true := decide_eq_true hzI
      have hai : (a : Int) < (n : Int) := by omega
      have hbi : (b : Int) < (n : Int) := by omega
      have hpi' : (p' : Int) < (n : Int) := by omega
      have hqi' : (q' : Int) < (n : Int) := by omega
      have hor := (bits_or_pl x' y' z).trans (by rw [HX.out.2.2.2.1])
      have hbW : Below w.heap.size w wr := H7.out.2.1.grown HI.out.2 H7.out.2.1.size (fun j e => by cases e; exact Nat.le_trans HB.out.1.size hbg)
      have HBW := Lib.hid hbW; clear hbW
      go_wp2_with fail
      refine wp_region_val (GbN g) (fun L vs W => JJ w2.heap.size m a x t z g cap (L 20) W) [Is (.slice (some ⟨g, 0, none⟩) n cap), Is (.int .i64 (p' : Int)), Is (.int .i64 (q' : Int)), Is (.int .i64 (a : Int)), Is (.int .i64 (z : Int)), Is (.slice (some ⟨b0, off, none⟩) n c), Is (.int .i64 (p' : Int)), Is (.int .i64 (z : Int)), Is (.pointer (some ⟨b0, off + p' * 8, none⟩)), Is (.pointer (some ⟨b0, off + p' * 8 + z, none⟩)), Is (.int .u64 (pl x' z)), Is (.slice (some ⟨b0, off, none⟩) n c), Is (.int .i64 (q' : Int)), Is (.int .i64 (z : Int)), Is (.pointer (some ⟨b0, off + q' * 8, none⟩)), Is (.pointer (some ⟨b0, off + q' * 8 + z, none⟩)), Is (.int .u64 (pl y' z)), Is (.int .u64 (pl t z)), Is (.pointer (some ⟨g, a * 8, none⟩)), Is (.pointer (some ⟨g, a * 8 + z, none⟩)), AnyV] (by kernel_rfl) (by kernel_rfl) rfl (fun W => gb_refl W _) (GbN.trans g) (stable_mem ⟨fun _ _ _ h _ => h, fun _ _ _ h _ => h, fun _ _ _ h _ => h, fun _ _ _ h _ => h, fun _ _ _ h _ => h, fun _ _ _ h _ => h, fun _ _ _ h _ => h, fun _ _ _ h _ => h, fun _ _ _ h _ => h, fun _ _ _ h _ => h, fun _ _ _ h _ => h, fun _ _ _ h _ => h, fun _ _ _ h _ => h, fun _ _ _ h _ => h, fun _ _ _ h _ => h, fun _ _ _ h _ => h, fun _ _ _ h _ => h, fun _ _ _ h _ => h, fun _ _ _ h _ => h, fun _ _ _ h _ => h, fun _ _ _ h _ => h, trivial⟩) wr (gb_drew (gb_refl _ _)) (⟨fun _ => HI.out.1.drew, fun e => (by cases e)⟩) ?_
      refine val_cons ?_ (fun v0 => ?_)
      ·intro L vs w1 hvs hat hb hI hF; try simp [factsI, Region.binds, Is] at hF
       have HI2 := Lib.hid hI; clear hI
       go_simp
       first | exact ⟨gb_refl _ _, HI2.out⟩ | exact HI2.out | exact ⟨HI2.out, trivial⟩
      refine val_cons ?_ (fun v1 => ?_)
      ·intro L vs w1 hvs hat hb hI hF; try simp [factsI, Region.binds, Is] at hF
       have HI2 := Lib.hid hI; clear hI
       go_simp
       first | exact ⟨gb_refl _ _, HI2.out⟩ | exact HI2.out | exact ⟨HI2.out, trivial⟩
      refine val_cons ?_ (fun v2 => ?_)
      ·intro L vs w1 hvs hat hb hI hF; try simp [factsI, Region.binds, Is] at hF
       have HI2 := Lib.hid hI; clear hI
       go_simp
       first | exact ⟨gb_refl _ _, HI2.out⟩ | exact HI2.out | exact ⟨HI2.out, trivial⟩
      refine val_cons ?_ (fun v3 => ?_)
      ·intro L vs w1 hvs hat hb hI hF; try simp [factsI, Region.binds, Is] at hF
       have HI2 := Lib.hid hI; clear hI
       go_simp
       first | exact ⟨gb_refl _ _, HI2.out⟩ | exact HI2.out | exact ⟨HI2.out, trivial⟩
      refine val_cons ?_ (fun v4 => ?_)
      ·intro L vs w1 hvs hat hb hI hF; try simp [factsI, Region.binds, Is] at hF
       have HI2 := Lib.hid hI; clear hI
       go_simp
       first | exact ⟨gb_refl _ _, HI2.out⟩ | exact HI2.out | exact ⟨HI2.out, trivial⟩
      refine val_cons ?_ (fun v5 => ?_)
      ·intro L vs w1 hvs hat hb hI hF; try simp [factsI, Region.binds, Is] at hF
       have HI2 := Lib.hid hI; clear hI
       go_simp
       first | exact ⟨gb_refl _ _, HI2.out⟩ | exact HI2.out | exact ⟨HI2.out, trivial⟩
      refine val_cons ?_ (fun v6 => ?_)
      ·intro L vs w1 hvs hat hb hI hF; try simp [factsI, Region.binds, Is] at hF
       have HI2 := Lib.hid hI; clear hI
       go_simp
       first | exact ⟨gb_refl _ _, HI2.out⟩ | exact HI2.out | exact ⟨HI2.out, trivial⟩
      refine val_cons ?_ (fun v7 => ?_)
      ·intro L vs w1 hvs hat hb hI hF; try simp [factsI, Region.binds, Is] at hF
       have HI2 := Lib.hid hI; clear hI
       go_simp
       first | exact ⟨gb_refl _ _, HI2.out⟩ | exact HI2.out | exact ⟨HI2.out, trivial⟩
      refine val_cons ?_ (fun v8 => ?_)
      ·intro L vs w1 hvs hat hb hI hF; try simp [factsI, Region.binds, Is] at hF
       have HI2 := Lib.hid hI; clear hI
       go_simp
       first | exact ⟨gb_refl _ _, HI2.out⟩ | exact HI2.out | exact ⟨HI2.out, trivial⟩
      refine val_cons ?_ (fun v9 => ?_)
      ·intro L vs w1 hvs hat hb hI hF; try simp [factsI, Region.binds, Is] at hF
       have HI2 := Lib.hid hI; clear hI
       go_simp
       first | exact ⟨gb_refl _ _, HI2.out⟩ | exact HI2.out | exact ⟨HI2.out, trivial⟩
      refine val_cons ?_ (fun v10 => ?_)
      ·intro L vs w1 hvs hat hb hI hF; try simp [factsI, Region.binds, Is] at hF
       have hbz : Below w.heap.size w w1 := HBW.out.grown hb HBW.out.size (fun j e => by cases e; exact Nat.le_trans HB.out.1.size hbg)
       have c7 := sol_cellz (HX.out.2.2.2.2.2.2.mono hbz hbb) HX.out.2.2.2.2.1 hz8
       have l7 : b0 < w1.heap.size := Nat.lt_of_lt_of_le hbb hbz.size
       have HI2 := Lib.hid hI; clear hI
       go_simp
       first | exact ⟨gb_refl _ _, HI2.out⟩ | exact HI2.out | exact ⟨HI2.out, trivial⟩
      refine val_cons ?_ (fun v11 => ?_)
      ·intro L vs w1 hvs hat hb hI hF; try simp [factsI, Region.binds, Is] at hF
       have HI2 := Lib.hid hI; clear hI
       go_simp
       first | exact ⟨gb_refl _ _, HI2.out⟩ | exact HI2.out | exact ⟨HI2.out, trivial⟩
      refine val_cons ?_ (fun v12 => ?_)
      ·intro L vs w1 hvs hat hb hI hF; try simp [factsI, Region.binds, Is] at hF
       have HI2 := Lib.hid hI; clear hI
       go_simp
       first | exact ⟨gb_refl _ _, HI2.out⟩ | exact HI2.out | exact ⟨HI2.out, trivial⟩
      refine val_cons ?_ (fun v13 => ?_)
      ·intro L vs w1 hvs hat hb hI hF; try simp [factsI, Region.binds, Is] at hF
       have HI2 := Lib.hid hI; clear hI
       go_simp
       first | exact ⟨gb_refl _ _, HI2.out⟩ | exact HI2.out | exact ⟨HI2.out, trivial⟩
      refine val_cons ?_ (fun v14 => ?_)
      ·intro L vs w1 hvs hat hb hI hF; try simp [factsI, Region.binds, Is] at hF
       have HI2 := Lib.hid hI; clear hI
       go_simp
       first | exact ⟨gb_refl _ _, HI2.out⟩ | exact HI2.out | exact ⟨HI2.out, trivial⟩
      refine val_cons ?_ (fun v15 => ?_)
      ·intro L vs w1 hvs hat hb hI hF; try simp [factsI, Region.binds, Is] at hF
       have HI2 := Lib.hid hI; clear hI
       go_simp
       first | exact ⟨gb_refl _ _, HI2.out⟩ | exact HI2.out | exact ⟨HI2.out, trivial⟩
      refine val_cons ?_ (fun v16 => ?_)
      ·intro L vs w1 hvs hat hb hI hF; try simp [factsI, Region.binds, Is] at hF
       have hbz : Below w.heap.size w w1 := HBW.out.grown hb HBW.out.size (fun j e => by cases e; exact Nat.le_trans HB.out.1.size hbg)
       have c7 := sol_cellz (HX.out.2.2.2.2.2.2.mono hbz hbb) HX.out.2.2.2.2.2.1 hz8
       have l7 : b0 < w1.heap.size := Nat.lt_of_lt_of_le hbb hbz.size
       have HI2 := Lib.hid hI; clear hI
       go_simp
       first | exact ⟨gb_refl _ _, HI2.out⟩ | exact HI2.out | exact ⟨HI2.out, trivial⟩
      refine val_cons ?_ (fun v17 => ?_)
      ·intro L vs w1 hvs hat hb hI hF; try simp [factsI, Region.binds, Is] at hF
       have HI2 := Lib.hid hI; clear hI
       go_simp
       first | exact ⟨gb_refl _ _, HI2.out⟩ | exact HI2.out | exact ⟨HI2.out, trivial⟩
      refine val_cons ?_ (fun v18 => ?_)
      ·intro L vs w1 hvs hat hb hI hF; try simp [factsI, Region.binds, Is] at hF
       have HI2 := Lib.hid hI; clear hI
       go_simp
       first | exact ⟨gb_refl _ _, HI2.out⟩ | exact HI2.out | exact ⟨HI2.out, trivial⟩
      refine val_cons ?_ (fun v19 => ?_)
      ·intro L vs w1 hvs hat hb hI hF; try simp [factsI, Region.binds, Is] at hF
       have HI2 := Lib.hid hI; clear hI
       go_simp
       first | exact ⟨gb_refl _ _, HI2.out⟩ | exact HI2.out | exact ⟨HI2.out, trivial⟩
      refine val_cons ?_ (fun v20 => ?_)
      ·intro L vs w1 hvs hat hb hI hF; try simp [factsI, Region.binds, Is] at hF
       have h15 := Lib.hid hat.self
       have OR := hI.1 h15.out
       obtain ⟨cur1, hB1⟩ := OR.blk
       have l6 := hB1.lt
       have f6 := hB1.free (a * 8 + z)
       have c6 := OR.cellz (show (m.set a (mixW x t z))[a]? = some (mixW x t z) by rw [List.getElem?_set, if_pos rfl, if_pos (by rw [← HN.out]; omega)]) hz8
       have HW := Lib.hid OR
       clear hI OR hB1
       go_simp
       exact ⟨gb_set (gb_refl _ _) _ rfl _, ⟨fun e => (by cases e), fun _ => HW.out.step (by rw [← HN.out]; omega) hz8⟩, trivial⟩
      refine val_nil ?_
      intro vs w1 hvs hb hI hF
      simp [Is, Nat.forall_lt_succ_right] at hF
      have e0 := hF.1.1.1.1.1.1.1.1.1.1.1.1.1.1.1.1.1.1.1.1
      have e1 := hF.1.1.1.1.1.1.1.1.1.1.1.1.1.1.1.1.1.1.1.2
      have e2 := hF.1.1.1.1.1.1.1.1.1.1.1.1.1.1.1.1.1.1.2
      have e3 := hF.1.1.1.1.1.1.1.1.1.1.1.1.1.1.1.1.1.2
      have e4 := hF.1.1.1.1.1.1.1.1.1.1.1.1.1.1.1.1.2
      have e5 := hF.1.1.1.1.1.1.1.1.1.1.1.1.1.1.1.2
      have e6 := hF.1.1.1.1.1.1.1.1.1.1.1.1.1.1.2
      have e7 := hF.1.1.1.1.1.1.1.1.1.1.1.1.1.2
      have e8 := hF.1.1.1.1.1.1.1.1.1.1.1.1.2
      have e9 := hF.1.1.1.1.1.1.1.1.1.1.1.2
      have e10 := hF.1.1.1.1.1.1.1.1.1.1.2
      have e11 := hF.1.1.1.1.1.1.1.1.1.2
      have e12 := hF.1.1.1.1.1.1.1.1.2
      have e13 := hF.1.1.1.1.1.1.1.2
      have e14 := hF.1.1.1.1.1.1.2
      have e15 := hF.1.1.1.1.1.2
      have e16 := hF.1.1.1.1.2
      have e17 := hF.1.1.1.2
      have e18 := hF.1.1.2
      have e19 := hF.1.2
      have e20 := hF.2
      clear hF
      simp only [Act.put, List.setIfInBounds_toArray, List.set_cons_succ, List.set_cons_zero, e0, e1, e2, e3, e4, e5, e6, e7, e8, e9, e10, e11, e12, e13, e14, e15, e16, e17, e18, e19]
      clear e0 e1 e2 e3 e4 e5 e6 e7 e8 e9 e10 e11 e12 e13 e14 e15 e16 e17 e18 e19
      have HC2 := Lib.hid (And.intro (hI.2 rfl) (HI.out.2.trans hb))
      clear hI hb hvs hor
      go_wp2_with fail
      refine ⟨⟨z + 1, by omega, by simp, HC2⟩, by simp [intOf]; omega⟩
     ·obtain rfl : z = 8 := by omega
      have hdz : decide (((8 : Nat) : Int) < 8) = false := by decide
      have hbl : Below w.heap.size w wr := H7.out.2.1.grown HI.out.2 H7.out.2.1.size (fun j e => by cases e; exact Nat.le_trans HB.out.1.size hbg)
      have hO8 := HI.out.1
      rw [mixW_end] at hO8
      obtain ⟨cur8, hQ8⟩ := hO8
      have HQ := Lib.hid (And.intro hQ8 hbl)
      have hln : (m.set a t).length = n := by rw [List.length_set]; exact HN.out.symm
      have HLN := Lib.hid hln
      have hwq := wrap_succ (q := b) (by omega)
      have hb1n : b + 1 ≤ n := by omega
      have hbcap : b ≤ cap := by omega
      have hbcI : (b : Int) ≤ (cap : Int) := by omega
      have hb1I : (b : Int) + 1 ≤ (n : Int) := by omega
      have h0b : (0 : Int) ≤ (b : Int) + 1 := by omega
      have hncap : n ≤ cap := hbc
      clear hQ8 hbl HI hln
      go_wp2_with fail
      refine wp_region_val (Below w2.heap.size) (fun L vs W => JD w2.heap.size g cap (m.set a t) b cur8 (L 11) W) [Is (.slice (some ⟨g, 0, none⟩) n cap), Is (.int .i64 (p' : Int)), Is (.int .i64 (q' : Int)), Is (.int .i64 (b : Int)), Is (.slice (some ⟨g, 0, none⟩) b cap), Is (.slice (some ⟨g, 0, none⟩) n cap), Is (.int .i64 (p' : Int)), Is (.int .i64 (q' : Int)), Is (.int .i64 (b : Int)), Is (.int .i64 ((b : Int) + 1)), VSl (sliced (some ⟨g, 0, none⟩) (b + 1) n cap 8), Is (.slice (some ⟨g, 0, none⟩) (b + (n - (b + 1))) cap), Is (.slice (some ⟨g, 0, none⟩) (b + (n - (b + 1))) cap), Is (.int .i64 0)] (by kernel_rfl) (by kernel_rfl) rfl (Below.refl w2.heap.size) (fun _ _ _ => Below.trans) (stable_mem ⟨fun _ _ _ h _ => h, fun _ _ _ h _ => h, fun _ _ _ h _ => h, fun _ _ _ h _ => h, fun _ _ _ h _ => h, fun _ _ _ h _ => h, fun _ _ _ h _ => h, fun _ _ _ h _ => h, fun _ _ _ h _ => h, fun _ _ _ h _ => h, VSl.stab, fun _ _ _ h _ => h, fun _ _ _ h _ => h, fun _ _ _ h _ => h, trivial⟩) wr (Below.drew (Below.refl _ _)) (⟨(fun _ => HQ.out.1.grw (bel_drew (bel_refl _))), (fun e => by cases e)⟩) ?_
      refine val_cons ?_ (fun v0 => ?_)
      ·intro L vs w1 hvs hat hb hI hF; try simp [factsI, Region.binds, Is] at hF
       have HI2 := Lib.hid hI; clear hI
       go_simp
       first | exact ⟨Below.refl _ _, HI2.out⟩ | exact Below.refl _ _ | exact ⟨Below.refl _ _, HI2.out, trivial⟩
      refine val_cons ?_ (fun v1 => ?_)
      ·intro L vs w1 hvs hat hb hI hF; try simp [factsI, Region.binds, Is] at hF
       have HI2 := Lib.hid hI; clear hI
       go_simp
       first | exact ⟨Below.refl _ _, HI2.out⟩ | exact Below.refl _ _ | exact ⟨Below.refl _ _, HI2.out, trivial⟩
      refine val_cons ?_ (fun v2 => ?_)
      ·intro L vs w1 hvs hat hb hI hF; try simp [factsI, Region.binds, Is] at hF
       have HI2 := Lib.hid hI; clear hI
       go_simp
       first | exact ⟨Below.refl _ _, HI2.out⟩ | exact Below.refl _ _ | exact ⟨Below.refl _ _, HI2.out, trivial⟩
      refine val_cons ?_ (fun v3 => ?_)
      ·intro L vs w1 hvs hat hb hI hF; try simp [factsI, Region.binds, Is] at hF
       have HI2 := Lib.hid hI; clear hI
       go_simp
       first | exact ⟨Below.refl _ _, HI2.out⟩ | exact Below.refl _ _ | exact ⟨Below.refl _ _, HI2.out, trivial⟩
      refine val_cons ?_ (fun v4 => ?_)
      ·intro L vs w1 hvs hat hb hI hF; try simp [factsI, Region.binds, Is] at hF
       have HI2 := Lib.hid hI; clear hI
       go_simp
       first | exact ⟨Below.refl _ _, HI2.out⟩ | exact Below.refl _ _ | exact ⟨Below.refl _ _, HI2.out, trivial⟩
      refine val_cons ?_ (fun v5 => ?_)
      ·intro L vs w1 hvs hat hb hI hF; try simp [factsI, Region.binds, Is] at hF
       have HI2 := Lib.hid hI; clear hI
       go_simp
       first | exact ⟨Below.refl _ _, HI2.out⟩ | exact Below.refl _ _ | exact ⟨Below.refl _ _, HI2.out, trivial⟩
      refine val_cons ?_ (fun v6 => ?_)
      ·intro L vs w1 hvs hat hb hI hF; try simp [factsI, Region.binds, Is] at hF
       have HI2 := Lib.hid hI; clear hI
       go_simp
       first | exact ⟨Below.refl _ _, HI2.out⟩ | exact Below.refl _ _ | exact ⟨Below.refl _ _, HI2.out, trivial⟩
      refine val_cons ?_ (fun v7 => ?_)
      ·intro L vs w1 hvs hat hb hI hF; try simp [factsI, Region.binds, Is] at hF
       have HI2 := Lib.hid hI; clear hI
       go_simp
       first | exact ⟨Below.refl _ _, HI2.out⟩ | exact Below.refl _ _ | exact ⟨Below.refl _ _, HI2.out, trivial⟩
      refine val_cons ?_ (fun v8 => ?_)
      ·intro L vs w1 hvs hat hb hI hF; try simp [factsI, Region.binds, Is] at hF
       have HI2 := Lib.hid hI; clear hI
       go_simp
       first | exact ⟨Below.refl _ _, HI2.out⟩ | exact Below.refl _ _ | exact ⟨Below.refl _ _, HI2.out, trivial⟩
      refine val_cons ?_ (fun v9 => ?_)
      ·intro L vs w1 hvs hat hb hI hF; try simp [factsI, Region.binds, Is] at hF
       have HI2 := Lib.hid hI; clear hI
       go_simp
       first | exact ⟨Below.refl _ _, HI2.out⟩ | exact Below.refl _ _ | exact ⟨Below.refl _ _, HI2.out, trivial⟩
      refine val_cons ?_ (fun v10 => ?_)
      ·intro L vs w1 hvs hat hb hI hF; try simp [factsI, Region.binds, Is] at hF
       have HI2 := Lib.hid hI; clear hI
       go_simp
       first | exact ⟨Below.refl _ _, HI2.out, (by unfold VSl; rfl)⟩ | (refine ⟨Below.refl _ _, ?_⟩; unfold VSl; rfl)
      refine val_cons ?_ (fun v11 => ?_)
      ·intro L vs w1 hvs hat hb hI hF; try simp [factsI, Region.binds, Is] at hF
       have h6 := hat.self
       have hv10 : v10 = sliced (some ⟨g, 0, none⟩) (b + 1) n cap 8 := by have := hF.2; unfold VSl at this; first | exact this | exact this.1
       have OB := hI.1 h6
       have hr := del_append OB HLN.out hbm
       subst hv10
       refine step_append (v := .slice (some ⟨g, 0, none⟩) b cap) (v7 := sliced (some ⟨g, 0, none⟩) (b + 1) n cap 8) rfl rfl ?_ ?_ hr ?_
       ·have h2 := hF.1
        subst h2
        go_simp
       ·go_simp
       simp [upd]
       exact ⟨blw_row (Below.refl _ _) hbg _, (fun e => by cases e), fun _ => OB.del (by rw [HLN.out]; exact hbm)⟩
      refine val_cons ?_ (fun v12 => ?_)
      ·intro L vs w1 hvs hat hb hI hF; try simp [factsI, Region.binds, Is] at hF
       have HI2 := Lib.hid hI; clear hI
       go_simp
       first | exact ⟨Below.refl _ _, HI2.out⟩ | exact Below.refl _ _ | exact ⟨Below.refl _ _, HI2.out, trivial⟩
      refine val_cons ?_ (fun v13 => ?_)
      ·intro L vs w1 hvs hat hb hI hF; try simp [factsI, Region.binds, Is] at hF
       have HI2 := Lib.hid hI; clear hI
       go_simp
       first | exact ⟨Below.refl _ _, HI2.out⟩ | exact Below.refl _ _ | exact ⟨Below.refl _ _, HI2.out, trivial⟩
      refine val_nil ?_
      intro vs w1 hvs hb hI hF
      simp [Is, Nat.forall_lt_succ_right] at hF
      have e0 := hF.1.1.1.1.1.1.1.1.1.1.1.1.1
      have e1 := hF.1.1.1.1.1.1.1.1.1.1.1.1.2
      have e2 := hF.1.1.1.1.1.1.1.1.1.1.1.2
      have e3 := hF.1.1.1.1.1.1.1.1.1.1.2
      have e4 := hF.1.1.1.1.1.1.1.1.1.2
      have e5 := hF.1.1.1.1.1.1.1.1.2
      have e6 := hF.1.1.1.1.1.1.1.2
      have e7 := hF.1.1.1.1.1.1.2
      have e8 := hF.1.1.1.1.1.2
      have e9 := hF.1.1.1.1.2
      have e10 := hF.1.1.1.2
      have e11 := hF.1.1.2
      have e12 := hF.1.2
      have e13 := hF.2
      clear hF
      simp only [Act.put, List.setIfInBounds_toArray, List.set_cons_succ, List.set_cons_zero, e0, e1, e2, e3, e4, e5, e6, e7, e8, e9, e11, e12, e13]
      clear e0 e1 e2 e3 e4 e5 e6 e7 e8 e9 e11 e12 e13
      have OB := hI.2 rfl
      have hlen : (dropL (m.set a t) b).length = b + (n - (b + 1)) := by rw [dropL_len (by rw [HLN.out]; exact hbm), HLN.out]; omega
      have HZ := Lib.hid (And.intro (own_len OB.own hlen).sl hb)
      clear hvs hI e10 OB hb hlen
      go_wp2_with fail
      go_ret2
      refine ⟨_, rfl, ?_, HQ.out.2.trans (HZ.out.2.mono HB.out.1.size)⟩
      rw [HB.out.2.1]
      unfold joinN
      rw [List.eraseIdx_eq_take_drop_succ]
      have e1 : m.getD a 0 = x := by rw [List.getD_eq_getElem?_getD, HX.out.1]; rfl
      have e2 : m.getD b 0 = y := by rw [List.getD_eq_getElem?_getD, HX.out.2.1]; rfl
      rw [e1, e2, ← HX.out.2.2.1]
      exact HZ.out.1
  ·have h1 : ¬ (B = 0) := hB0
   rw [if_neg hB0] at hEB
   subst hEB
   clear HA HA2 hB0
   go_wp2_with fail
   go_ret2
   exact ⟨_, rfl, by rw [HLe.out h1]; exact sl_nil, HB2.out⟩
 ·have h1 : ¬ (A = 0) := hA0
  have hEA : E = A := by have := HE.out.2.2.1; rw [if_neg hA0, if_neg hA0] at this; exact this
  subst hEA
  have HB1 := Lib.hid hb1
  clear HA HA2 hA0 hb1
  go_wp2_with fail
  go_ret2
  exact ⟨_, rfl, by rw [HLe.out h1]; exact sl_nil, HB1.out⟩
end Go.Proofs.YtlbhjikkpbknnaaGreatDoor
end
section
namespace Go.Proofs.YtlbhjikkpbknnaaGreatDoor
open Go.RowKit Go.Rel Go.Draw
set_option maxRecDepth 100000
/-! lists of solids that are the same (wpStill_yes) -/
theorem sols_open8 {w : World} {v : Value} {l : List Sol} (h : SlS w v l) : ∃ b cc, v = .slice b l.length cc ∧ l.length ≤ 9223372036854775807 ∧ ∀ (k : Nat) (x : Sol), l[k]? = some x → ∃ ib io, b = some ⟨ib, io, none⟩ ∧ ib < w.heap.size ∧ ∀ z, z < 8 → w.cell? ⟨ib, io + k * 8 + z, none⟩ = some (.int .u64 (pl x z)) := by
 rcases h.cases with ⟨hz, a, c, rfl, hc⟩ | ⟨ib, io, c, hv, hq1, hq2, _, hcs⟩
 ·have : l = [] := by simpa using hz
  subst this
  exact ⟨_, _, rfl, by simp, fun k x hx => by simp at hx⟩
 ·subst hv
  exact ⟨_, _, by rw [List.length_map], by simp at hq1 hq2; omega, fun k x hx => ⟨ib, io, rfl, hcs.1, fun z hz => sol_cellz hcs hx hz⟩⟩
theorem drop_atS8 {l : List Sol} {k : Nat} {x : Sol} (hx : l[k]? = some x) : l.drop k = x :: l.drop (k + 1) := by
 obtain ⟨h1, h2⟩ := List.getElem?_eq_some_iff.1 hx
 rw [← h2]; exact List.drop_eq_getElem_cons h1
theorem sameS_drop8 {l r : List Sol} {k : Nat} {x y : Sol} (hx : l[k]? = some x) (hy : r[k]? = some y) : (l.drop k == r.drop k) = (x == y && (l.drop (k + 1) == r.drop (k + 1))) := by
 rw [drop_atS8 hx, drop_atS8 hy]; rfl
set_option maxHeartbeats 4000000 in
theorem SameSolids_spec {w : World} {v u : Value} {l r : List Sol} (h : SlS w v l) (hr : SlS w u r) : Calls Tryz.prog 61 #[v, u] w fun e w' => e = .returned (.bool (l == r)) ∧ Below w.heap.size w w' := by
 obtain ⟨b, cc, rfl, hmx, hH⟩ := sols_open8 h
 obtain ⟨b2, cc2, rfl, hmx2, hH2⟩ := sols_open8 hr
 have HH := Lib.hid (And.intro hH hH2)
 clear hH hH2 h hr
 by_cases hlen : l.length = r.length
 ·obtain ⟨n, hn⟩ : ∃ n, n = r.length := ⟨_, rfl⟩
  rw [hlen, ← hn]
  have HL := Lib.hid (And.intro hlen hn)
  rw [hlen, ← hn] at hmx
  clear hlen hn hmx2
  go_enter Tryz.func61, Tryz.ntmps61
  go_wp2_with fail
  go_loopw [5] (fun iv wx => ∃ (k : Nat), k ≤ n ∧ iv = .int .i64 k ∧ Hid ((l == r) = (l.drop k == r.drop k)) ∧ Below w.heap.size w wx) (fun iv _ => n - (intOf iv).toNat)
  case atStart => exact ⟨0, Nat.zero_le _, rfl, Lib.hid rfl, Below.refl _ _⟩
  case round =>
   obtain ⟨k, hk, rfl, HI, hbel⟩ := hrel
   by_cases hlt : k < n
   ·obtain ⟨x, hx⟩ : ∃ x, l[k]? = some x := ⟨_, List.getElem?_eq_getElem (by have := HL.out; omega)⟩
    obtain ⟨y, hy⟩ : ∃ y, r[k]? = some y := ⟨_, List.getElem?_eq_getElem (by have := HL.out; omega)⟩
    obtain ⟨ib, io, rfl, lib, hc⟩ := HH.out.1 k x hx
    obtain ⟨ib2, io2, rfl, lib2, hd⟩ := HH.out.2 k y hy
    have HX := Lib.hid (sameS_drop8 hx hy)
    have c0 : wr.cell? ⟨ib, io + k * 8, none⟩ = some (.int .u64 (pl x 0)) := ((bcell hbel).1 ib _ lib).trans (hc 0 (by decide))
    have d0 : wr.cell? ⟨ib2, io2 + k * 8, none⟩ = some (.int .u64 (pl y 0)) := ((bcell hbel).1 ib2 _ lib2).trans (hd 0 (by decide))
    have c1 : wr.cell? ⟨ib, io + k * 8 + 1, none⟩ = some (.int .u64 (pl x 1)) := ((bcell hbel).1 ib _ lib).trans (hc 1 (by decide))
    have d1 : wr.cell? ⟨ib2, io2 + k * 8 + 1, none⟩ = some (.int .u64 (pl y 1)) := ((bcell hbel).1 ib2 _ lib2).trans (hd 1 (by decide))
    have c2 : wr.cell? ⟨ib, io + k * 8 + 2, none⟩ = some (.int .u64 (pl x 2)) := ((bcell hbel).1 ib _ lib).trans (hc 2 (by decide))
    have d2 : wr.cell? ⟨ib2, io2 + k * 8 + 2, none⟩ = some (.int .u64 (pl y 2)) := ((bcell hbel).1 ib2 _ lib2).trans (hd 2 (by decide))
    have c3 : wr.cell? ⟨ib, io + k * 8 + 3, none⟩ = some (.int .u64 (pl x 3)) := ((bcell hbel).1 ib _ lib).trans (hc 3 (by decide))
    have d3 : wr.cell? ⟨ib2, io2 + k * 8 + 3, none⟩ = some (.int .u64 (pl y 3)) := ((bcell hbel).1 ib2 _ lib2).trans (hd 3 (by decide))
    have c4 : wr.cell? ⟨ib, io + k * 8 + 4, none⟩ = some (.int .u64 (pl x 4)) := ((bcell hbel).1 ib _ lib).trans (hc 4 (by decide))
    have d4 : wr.cell? ⟨ib2, io2 + k * 8 + 4, none⟩ = some (.int .u64 (pl y 4)) := ((bcell hbel).1 ib2 _ lib2).trans (hd 4 (by decide))
    have c5 : wr.cell? ⟨ib, io + k * 8 + 5, none⟩ = some (.int .u64 (pl x 5)) := ((bcell hbel).1 ib _ lib).trans (hc 5 (by decide))
    have d5 : wr.cell? ⟨ib2, io2 + k * 8 + 5, none⟩ = some (.int .u64 (pl y 5)) := ((bcell hbel).1 ib2 _ lib2).trans (hd 5 (by decide))
    have c6 : wr.cell? ⟨ib, io + k * 8 + 6, none⟩ = some (.int .u64 (pl x 6)) := ((bcell hbel).1 ib _ lib).trans (hc 6 (by decide))
    have d6 : wr.cell? ⟨ib2, io2 + k * 8 + 6, none⟩ = some (.int .u64 (pl y 6)) := ((bcell hbel).1 ib2 _ lib2).trans (hd 6 (by decide))
    have c7 : wr.cell? ⟨ib, io + k * 8 + 7, none⟩ = some (.int .u64 (pl x 7)) := ((bcell hbel).1 ib _ lib).trans (hc 7 (by decide))
    have d7 : wr.cell? ⟨ib2, io2 + k * 8 + 7, none⟩ = some (.int .u64 (pl y 7)) := ((bcell hbel).1 ib2 _ lib2).trans (hd 7 (by decide))
    have hsz := hbel.size
    have lb := Nat.lt_of_lt_of_le lib hsz
    have lb2 := Nat.lt_of_lt_of_le lib2 hsz
    have HQ := Lib.hid (And.intro lib lib2)
    clear hx hy hc hd lib lib2 hsz
    cases he : (x == y) with
    | true =>
     go_wp2_with fail
     refine Go.Rel.region_still_tail 8 (by kernel_rfl) (by kernel_rfl) ?_
     simp only [List.take_succ_cons, List.take_zero, List.drop_succ_cons, List.drop_zero]
     iterate 8 (with_reducible refine wpStill_yes (by kernel_rfl) (fun K hK => ?_); go_simp; refine hK _ ?_; clear hK K)
     refine wpStill_nil ?_
     clear c0 c1 c2 c3 c4 c5 c6 c7 d0 d1 d2 d3 d4 d5 d6 d7 lb lb2
     go_wp2_with fail
     refine ⟨⟨k + 1, by omega, by simp, Lib.hid ?_, bel_drew hbel⟩, by simp [intOf]; omega⟩
     rw [HI.out, HX.out, he]; simp
    | false =>
     go_wp2_with fail
     refine Go.Rel.region_still_tail 8 (by kernel_rfl) (by kernel_rfl) ?_
     simp only [List.take_succ_cons, List.take_zero, List.drop_succ_cons, List.drop_zero]
     iterate 8 (with_reducible refine wpStill_yes (by kernel_rfl) (fun K hK => ?_); go_simp; refine hK _ ?_; clear hK K)
     refine wpStill_nil ?_
     clear c0 c1 c2 c3 c4 c5 c6 c7 d0 d1 d2 d3 d4 d5 d6 d7 lb lb2
     go_wp2_with fail
     go_ret
     refine ⟨ret_bool ?_, bel_drew hbel⟩
     rw [HI.out, HX.out, he]; rfl
   ·obtain rfl : k = n := by omega
    go_wp2_with fail
    go_ret
    refine ⟨ret_bool ?_, hbel⟩
    rw [HI.out, List.drop_eq_nil_of_le (by have := HL.out; omega), List.drop_eq_nil_of_le (by have := HL.out; omega)]; rfl
 ·have hl2 : ¬ ((l.length : Int) = r.length) := fun e => hlen (Int.ofNat.inj e)
  have HL := Lib.hid hlen
  clear hlen
  go_enter Tryz.func61, Tryz.ntmps61
  go_wp2_with fail
  go_ret
  refine ⟨ret_bool ?_, Below.refl _ _⟩
  symm
  rw [beq_eq_false_iff_ne]
  intro e; exact HL.out (by rw [e])
end Go.Proofs.YtlbhjikkpbknnaaGreatDoor
end
