import Derived.Test.YtkfimbonmnoglaaGreatDoorRShape33
import Derived.Test.YtkfimbonmnoglaaGreatDoorRShape34
import Derived.Deep.Cut
/-
  Given contracts of functions of the program, and laws for them, one behind the other.
-/
set_option linter.unusedVariables false
set_option linter.unusedSimpArgs false
set_option linter.unusedSectionVars false
section
namespace Go.Proofs.YtkfimbonmnoglaaGreatDoor
open Go.RowKit Go.Rel Go.Draw Go.Solid
set_option maxRecDepth 100000
attribute [local go_sem] Oper.semAt_some
set_option maxHeartbeats 4000000 in
theorem refTunnels_spec (s : Sol) (w : World) (hT : Tab w) : Calls Tryz.prog 44 #[solV s] w fun e w' => e = .returned (.int .i64 (tunS s)) ∧ Below w.heap.size w w' := by
 have HP : Hid (∀ W, Tab W → Calls Tryz.prog 38 #[solV s] W fun e w' => (∃ p c, e = .returned (.slice p (partsS s).length c)) ∧ Below W.heap.size W w') := Lib.hid fun W _ => (refParts_spec s W).mono fun e w' he => by
  obtain ⟨u, h1, h2, h3⟩ := he
  obtain ⟨p, c, hv, _, _⟩ := own_shape' h2
  exact ⟨⟨p, c, by rw [h1, hv]⟩, h3⟩
 have HC : Hid (∀ W, Tab W → Calls Tryz.prog 40 #[solV s] W fun e w' => (∃ p c, e = .returned (.slice p (cavsS s).length c)) ∧ Below W.heap.size W w') := Lib.hid fun W _ => (refCavities_spec s W).mono fun e w' he => by
  obtain ⟨u, h1, h2, h3⟩ := he
  obtain ⟨p, c, hv, _, _⟩ := own_shape' h2
  exact ⟨⟨p, c, by rw [h1, hv]⟩, h3⟩
 have HE : Hid (∀ W, Tab W → Calls Tryz.prog 42 #[solV s] W fun e w' => e = .returned (.int .i64 (eulerS s)) ∧ Below W.heap.size W w') := Lib.hid fun W _ => refEuler_spec s W
 have hp : (partsS s).length ≤ 512 := classes_len _ _
 have hc := cavs_len s
 have he := euler_le s
 have ht : tunS s = (partsS s).length + (cavsS s).length - eulerS s := rfl
 obtain ⟨a, ha⟩ : ∃ a, a = (partsS s).length := ⟨_, rfl⟩
 obtain ⟨b, hb⟩ : ∃ b, b = (cavsS s).length := ⟨_, rfl⟩
 obtain ⟨d, hd⟩ : ∃ d, d = eulerS s := ⟨_, rfl⟩
 rw [← ha] at HP hp ht
 rw [← hb] at HC hc ht
 rw [← hd] at HE he ht
 rw [ht]
 have x1 : IntKind.i64.wrap ((a : Int) + b) = a + b := IntWalk.i64_in _ ⟨by omega, by omega⟩
 have x2 : IntKind.i64.wrap ((a : Int) + b - d) = a + b - d := IntWalk.i64_in _ ⟨by omega, by omega⟩
 clear ha hb hd ht hp hc he
 have HT := Lib.hid hT
 clear hT
 go_enter Tryz.func44, Tryz.ntmps44
 go_upto_region 1 with fail
 obtain ⟨wA, hwA⟩ : ∃ wA, wA = w.alloc (.cells #[.int .u64 (pl s 0), .int .u64 (pl s 1), .int .u64 (pl s 2), .int .u64 (pl s 3), .int .u64 (pl s 4), .int .u64 (pl s 5), .int .u64 (pl s 6), .int .u64 (pl s 7)] 26) := ⟨_, rfl⟩
 have bA : Blk wA w.heap.size #[.int .u64 (pl s 0), .int .u64 (pl s 1), .int .u64 (pl s 2), .int .u64 (pl s 3), .int .u64 (pl s 4), .int .u64 (pl s 5), .int .u64 (pl s 6), .int .u64 (pl s 7)] 26 := by rw [hwA]; exact Blk.new _ _ _
 have hbA : Below w.heap.size w wA := by rw [hwA]; exact bel_alloc (bel_refl w) _
 have hsA : wA.heap.size = w.heap.size + 1 := by rw [hwA]; simp
 rw [← hwA]
 have HA := Lib.hid (And.intro bA (And.intro hbA hsA))
 have HTA := Lib.hid (HT.out.grow hbA)
 clear hwA bA hbA hsA
 refine wp_region_val (Below wA.heap.size) (fun L vs W => Below wA.heap.size wA W) [Is (solV s), IsLen a, Is (.int .i64 (a : Int)), Is (solV s), IsLen b, Is (.int .i64 (b : Int)), Is (.int .i64 ((a : Int) + b)), Is (solV s), Is (.int .i64 d), Is (.int .i64 ((a : Int) + b - d)), Is (.int .i64 ((a : Int) + b - d))] (by kernel_rfl) (by kernel_rfl) rfl (Below.refl wA.heap.size) (fun _ _ _ => Below.trans) (stable_mem ⟨fun _ _ _ h _ => h, fun _ _ _ h _ => h, fun _ _ _ h _ => h, fun _ _ _ h _ => h, fun _ _ _ h _ => h, fun _ _ _ h _ => h, fun _ _ _ h _ => h, fun _ _ _ h _ => h, fun _ _ _ h _ => h, fun _ _ _ h _ => h, fun _ _ _ h _ => h, trivial⟩) wA (Below.drew (Below.refl _ _)) (Below.drew (Below.refl _ _)) ?_
 refine val_cons ?_ (fun v0 => ?_)
 ·intro L vs w1 hvs hat hb hI hF; try simp [factsI, Region.binds, Is] at hF
  have BA := HA.out.1.grow (show Below _ _ _ from hI)
  have hc := BA.cell; have hl := BA.lt
  have HI2 := Lib.hid (show Below wA.heap.size wA w1 from hI); clear hI BA
  go_simp
  first | exact ⟨Below.refl _ _, HI2.out⟩ | exact HI2.out | exact ⟨HI2.out, trivial⟩ | exact ⟨Below.refl _ _, HI2.out, rfl⟩ | exact Below.refl _ _
 refine val_cons ?_ (fun v1 => ?_)
 ·intro L vs w1 hvs hat hb hI hF; try simp [factsI, Region.binds, Is] at hF
  have HI2 := Lib.hid (show Below wA.heap.size wA w1 from hI); clear hI
  have HT1 := Lib.hid (HTA.out.mono HI2.out (by have := HTA.out.lt; omega))
  go_simp
  refine (HP.out _ HT1.out).mono ?_
  rintro e w2 ⟨⟨p, c, rfl⟩, hb2⟩
  have hle := HI2.out.size
  exact ⟨_, rfl, hb2.mono hle, HI2.out.trans (hb2.mono hle), ⟨p, c, rfl⟩⟩
 refine val_cons ?_ (fun v2 => ?_)
 ·intro L vs w1 hvs hat hb hI hF; try simp [factsI, Region.binds, Is] at hF
  have HI2 := Lib.hid (show Below wA.heap.size wA w1 from hI); clear hI
  obtain ⟨p, c, hv⟩ := hF
  subst hv
  go_simp
  first | exact ⟨Below.refl _ _, HI2.out⟩ | exact HI2.out | exact ⟨HI2.out, trivial⟩ | exact ⟨Below.refl _ _, HI2.out, rfl⟩ | exact Below.refl _ _
 refine val_cons ?_ (fun v3 => ?_)
 ·intro L vs w1 hvs hat hb hI hF; try simp [factsI, Region.binds, Is] at hF
  have BA := HA.out.1.grow (show Below _ _ _ from hI)
  have hc := BA.cell; have hl := BA.lt
  have HI2 := Lib.hid (show Below wA.heap.size wA w1 from hI); clear hI BA
  go_simp
  first | exact ⟨Below.refl _ _, HI2.out⟩ | exact HI2.out | exact ⟨HI2.out, trivial⟩ | exact ⟨Below.refl _ _, HI2.out, rfl⟩ | exact Below.refl _ _
 refine val_cons ?_ (fun v4 => ?_)
 ·intro L vs w1 hvs hat hb hI hF; try simp [factsI, Region.binds, Is] at hF
  have HI2 := Lib.hid (show Below wA.heap.size wA w1 from hI); clear hI
  have HT1 := Lib.hid (HTA.out.mono HI2.out (by have := HTA.out.lt; omega))
  go_simp
  refine (HC.out _ HT1.out).mono ?_
  rintro e w2 ⟨⟨p, c, rfl⟩, hb2⟩
  have hle := HI2.out.size
  exact ⟨_, rfl, hb2.mono hle, HI2.out.trans (hb2.mono hle), ⟨p, c, rfl⟩⟩
 refine val_cons ?_ (fun v5 => ?_)
 ·intro L vs w1 hvs hat hb hI hF; try simp [factsI, Region.binds, Is] at hF
  have HI2 := Lib.hid (show Below wA.heap.size wA w1 from hI); clear hI
  obtain ⟨p, c, hv⟩ := hF
  subst hv
  go_simp
  first | exact ⟨Below.refl _ _, HI2.out⟩ | exact HI2.out | exact ⟨HI2.out, trivial⟩ | exact ⟨Below.refl _ _, HI2.out, rfl⟩ | exact Below.refl _ _
 refine val_cons ?_ (fun v6 => ?_)
 ·intro L vs w1 hvs hat hb hI hF; try simp [factsI, Region.binds, Is] at hF
  have HI2 := Lib.hid (show Below wA.heap.size wA w1 from hI); clear hI
  go_simp
  first | exact ⟨Below.refl _ _, HI2.out⟩ | exact HI2.out | exact ⟨HI2.out, trivial⟩ | exact ⟨Below.refl _ _, HI2.out, rfl⟩ | exact Below.refl _ _
 refine val_cons ?_ (fun v7 => ?_)
 ·intro L vs w1 hvs hat hb hI hF; try simp [factsI, Region.binds, Is] at hF
  have BA := HA.out.1.grow (show Below _ _ _ from hI)
  have hc := BA.cell; have hl := BA.lt
  have HI2 := Lib.hid (show Below wA.heap.size wA w1 from hI); clear hI BA
  go_simp
  first | exact ⟨Below.refl _ _, HI2.out⟩ | exact HI2.out | exact ⟨HI2.out, trivial⟩ | exact ⟨Below.refl _ _, HI2.out, rfl⟩ | exact Below.refl _ _
 refine val_cons ?_ (fun v8 => ?_)
 ·intro L vs w1 hvs hat hb hI hF; try simp [factsI, Region.binds, Is] at hF
  have HI2 := Lib.hid (show Below wA.heap.size wA w1 from hI); clear hI
  have HT1 := Lib.hid (HTA.out.mono HI2.out (by have := HTA.out.lt; omega))
  go_simp
  refine (HE.out _ HT1.out).mono ?_
  rintro e w2 ⟨rfl, hb2⟩
  have hle := HI2.out.size
  exact ⟨_, rfl, hb2.mono hle, HI2.out.trans (hb2.mono hle), rfl⟩
 refine val_cons ?_ (fun v9 => ?_)
 ·intro L vs w1 hvs hat hb hI hF; try simp [factsI, Region.binds, Is] at hF
  have HI2 := Lib.hid (show Below wA.heap.size wA w1 from hI); clear hI
  go_simp
  first | exact ⟨Below.refl _ _, HI2.out⟩ | exact HI2.out | exact ⟨HI2.out, trivial⟩ | exact ⟨Below.refl _ _, HI2.out, rfl⟩ | exact Below.refl _ _
 refine val_cons ?_ (fun v10 => ?_)
 ·intro L vs w1 hvs hat hb hI hF; try simp [factsI, Region.binds, Is] at hF
  have HI2 := Lib.hid (show Below wA.heap.size wA w1 from hI); clear hI
  go_simp
  first | exact ⟨Below.refl _ _, HI2.out⟩ | exact HI2.out | exact ⟨HI2.out, trivial⟩ | exact ⟨Below.refl _ _, HI2.out, rfl⟩ | exact Below.refl _ _
 refine val_nil ?_
 intro vs w1 hvs hb hI hF
 simp [Is, Nat.forall_lt_succ_right] at hF
 have e0 := hF.1.1.1.1.1.1.1.1.1.1
 have e1 := hF.1.1.1.1.1.1.1.1.1.2
 have e2 := hF.1.1.1.1.1.1.1.1.2
 have e3 := hF.1.1.1.1.1.1.1.2
 have e4 := hF.1.1.1.1.1.1.2
 have e5 := hF.1.1.1.1.1.2
 have e6 := hF.1.1.1.1.2
 have e7 := hF.1.1.1.2
 have e8 := hF.1.1.2
 have e9 := hF.1.2
 have e10 := hF.2
 clear hF
 simp only [Act.put, List.setIfInBounds_toArray, List.set_cons_succ, List.set_cons_zero, e0, e2, e3, e5, e6, e7, e8, e9, e10]
 clear e0 e2 e3 e5 e6 e7 e8 e9 e10
 have hbw : Below w.heap.size w w1 := HA.out.2.1.trans ((show Below wA.heap.size wA w1 from hI).mono (by have := HA.out.2.2; omega))
 have HF := Lib.hid hbw
 clear hbw hI hb hvs
 go_wp2_with fail
 go_ret
 exact ⟨rfl, HF.out⟩
def bareJ (s : Sol) (c : Cl) (j : Nat) : Nat := if j = 0 then 0 else if j = 1 then oneB (!hasS s (addC c (-1, 0, 0))) + oneB (!hasS s (addC c (0, -1, 0))) + oneB (!hasS s (addC c (0, 0, -1))) else bareR s c
theorem oneB_le (b : Bool) : oneB b ≤ 1 := by cases b <;> decide
theorem bareR_le (s : Sol) (c : Cl) : bareR s c ≤ 6 := by
 unfold bareR
 have h1 := oneB_le (!hasS s (addC c (-1, 0, 0))); have h2 := oneB_le (!hasS s (addC c (0, -1, 0))); have h3 := oneB_le (!hasS s (addC c (0, 0, -1)))
 have h4 := oneB_le (!hasS s (addC c (1, 0, 0))); have h5 := oneB_le (!hasS s (addC c (0, 1, 0))); have h6 := oneB_le (!hasS s (addC c (0, 0, 1)))
 omega
theorem skinQ_le (s : Sol) (L : List Cl) : ∀ i, skinQ s L i ≤ 6 * i
 | 0 => by simp [skinQ_zero]
 | i + 1 => by
  have ih := skinQ_le s L i
  cases h : L[i]? with
  | none =>
   have e : skinQ s L (i + 1) = skinQ s L i := by unfold skinQ; rw [List.take_add_one, h]; simp
   omega
  | some c =>
   rw [skinQ_step s h]
   have := bareR_le s c
   omega
attribute [local irreducible] skinQ bareJ bareR hasS addC cellsS skinS
set_option maxHeartbeats 64000000 in
theorem refSkin_spec (s : Sol) (w : World) : Calls Tryz.prog 46 #[solV s] w fun e w' => e = .returned (.int .i64 (skinS s : Nat)) ∧ Below w.heap.size w w' := by
 have HC := Lib.hid fun W => refCells_open s W
 have HMv := Lib.hid fun c d h0 h1 h2 W => refMoved_spec c d h0 h1 h2 W
 have HHa := Lib.hid fun c W => refHas_spec s c W
 have hend := skinQ_end s
 obtain ⟨R, hR⟩ : ∃ R, R = skinS s := ⟨_, rfl⟩
 rw [← hR] at hend ⊢
 have hn512 := cells512 s
 obtain ⟨L, hL⟩ : ∃ L, L = cellsS s := ⟨_, rfl⟩
 rw [← hL] at HC hend hn512
 have HIN := Lib.hid (show ∀ c ∈ L, inG c = true by rw [hL]; exact fun c hc => cellsS_in hc)
 obtain ⟨n, hn⟩ : ∃ n, n = L.length := ⟨_, rfl⟩
 rw [← hn] at HC hend hn512
 have HN := Lib.hid hn
 have HE := Lib.hid hend
 have H5 := Lib.hid hn512
 clear hR hL hn hend hn512
 go_enter Tryz.func46, Tryz.ntmps46
 go_wp2_with fail
 refine (HC.out _).mono ?_
 rintro e w2 ⟨⟨a, c9, rfl, hO⟩, hb⟩
 obtain ⟨N3, hN3⟩ : ∃ N, N = (w.alloc (.cells #[.int .u64 (pl s 0), .int .u64 (pl s 1), .int .u64 (pl s 2), .int .u64 (pl s 3), .int .u64 (pl s 4), .int .u64 (pl s 5), .int .u64 (pl s 6), .int .u64 (pl s 7)] 26)).heap.size := ⟨_, rfl⟩
 rw [← hN3] at hO
 have HB : Hid (Blk w2 w.heap.size #[.int .u64 (pl s 0), .int .u64 (pl s 1), .int .u64 (pl s 2), .int .u64 (pl s 3), .int .u64 (pl s 4), .int .u64 (pl s 5), .int .u64 (pl s 6), .int .u64 (pl s 7)] 26 ∧ ClO N3 w2 a L ∧ Below w.heap.size w w2) := Lib.hid ⟨(Blk.new w #[.int .u64 (pl s 0), .int .u64 (pl s 1), .int .u64 (pl s 2), .int .u64 (pl s 3), .int .u64 (pl s 4), .int .u64 (pl s 5), .int .u64 (pl s 6), .int .u64 (pl s 7)] 26).grow hb, hO, bel_trans ((by repeat (first | with_reducible exact bel_refl _ | with_reducible assumption | with_reducible refine bel_drewN ?_ _ | with_reducible refine bel_drew ?_ | with_reducible refine bel_alloc ?_ _ | with_reducible refine bel_row ?_ ?_ _ | with_reducible refine bel_set ?_ ?_ _ | refine bel_trans ?_ (by with_reducible assumption) | (simp; done) | (simp; omega))) : Below w.heap.size w (w.alloc (.cells #[.int .u64 (pl s 0), .int .u64 (pl s 1), .int .u64 (pl s 2), .int .u64 (pl s 3), .int .u64 (pl s 4), .int .u64 (pl s 5), .int .u64 (pl s 6), .int .u64 (pl s 7)] 26))) hb⟩
 clear hO hb hN3
 go_wp2_with fail
 go_loopw [3, 5] (fun nv iv wx => ∃ i : Nat, i ≤ n ∧ iv = .int .i64 i ∧ nv = .int .i64 (skinQ s L i : Nat) ∧ Hid (Blk wx w.heap.size #[.int .u64 (pl s 0), .int .u64 (pl s 1), .int .u64 (pl s 2), .int .u64 (pl s 3), .int .u64 (pl s 4), .int .u64 (pl s 5), .int .u64 (pl s 6), .int .u64 (pl s 7)] 26 ∧ ClO N3 wx a L ∧ Below w.heap.size w wx)) (fun _ iv _ => n - (intOf iv).toNat)
 case atStart => exact ⟨0, by omega, rfl, by rw [skinQ_zero]; rfl, HB⟩
 case round =>
  clear HB
  obtain ⟨i, hi, rfl, rfl, HM⟩ := hrel
  by_cases hlt : i < n
  ·obtain ⟨⟨c0, c1, c2⟩, hc⟩ : ∃ x, L[i]? = some x := ⟨_, List.getElem?_eq_getElem (by rw [← HN.out]; exact hlt)⟩
   have hcin := inG_iff.1 (HIN.out _ (List.mem_iff_getElem?.2 ⟨i, hc⟩))
   simp only at hcin
   have HSS := Lib.hid (skinQ_step s hc)
   obtain ⟨b1, o1, rfl, hC1, hN1⟩ := HM.out.2.1.at hc
   have HX := Lib.hid hc
   have hle := skinQ_le s L i
   have hn5 := H5.out
   have hiI : (i : Int) < (n : Int) := by omega
   have HR1 : Hid (bareJ s (c0, c1, c2) 0 = 0 ∧ bareJ s (c0, c1, c2) 2 = bareR s (c0, c1, c2)) := Lib.hid ⟨by unfold bareJ; rfl, by unfold bareJ; rfl⟩
   have HJ0 : Hid (bareJ s (c0, c1, c2) 1 = oneB (!hasS s (addC (c0, c1, c2) (-1, 0, 0))) + oneB (!hasS s (addC (c0, c1, c2) (0, -1, 0))) + oneB (!hasS s (addC (c0, c1, c2) (0, 0, -1)))) := Lib.hid (by unfold bareJ; rfl)
   have HJ1 : Hid (bareJ s (c0, c1, c2) 2 = bareJ s (c0, c1, c2) 1 + oneB (!hasS s (addC (c0, c1, c2) (1, 0, 0))) + oneB (!hasS s (addC (c0, c1, c2) (0, 1, 0))) + oneB (!hasS s (addC (c0, c1, c2) (0, 0, 1)))) := Lib.hid (by rw [HR1.out.2, HJ0.out]; unfold bareR; rfl)
   obtain ⟨A, hA⟩ : ∃ A, A = skinQ s L i := ⟨_, rfl⟩
   rw [← hA] at HSS hle ⊢
   clear hA hc hC1 hN1
   go_wp2_with fail
   go_loopw [3, 6] (fun nv kv wx => ∃ j : Nat, j ≤ 2 ∧ kv = .int .i64 (2 * (j : Int) - 1) ∧ nv = .int .i64 ((A + bareJ s (c0, c1, c2) j : Nat) : Int) ∧ Hid (Blk wx w.heap.size #[.int .u64 (pl s 0), .int .u64 (pl s 1), .int .u64 (pl s 2), .int .u64 (pl s 3), .int .u64 (pl s 4), .int .u64 (pl s 5), .int .u64 (pl s 6), .int .u64 (pl s 7)] 26 ∧ ClO N3 wx (some ⟨b1, o1, none⟩) L ∧ Below w.heap.size w wx)) (fun _ kv _ => (3 - intOf kv).toNat)
   case atStart => exact ⟨0, by omega, rfl, by rw [HR1.out.1, Nat.add_zero], HM⟩
   case round =>
    clear HM
    obtain ⟨j, hj, rfl, rfl, HK⟩ := hrel
    obtain rfl | rfl | rfl : j = 0 ∨ j = 1 ∨ j = 2 := by omega
    ·have HJJ := HJ0
     have HV0 := Lib.hid fun W => HMv.out (c0, c1, c2) (-1, 0, 0) ⟨by simp only; omega, by simp only; omega⟩ ⟨by simp only; omega, by simp only; omega⟩ ⟨by simp only; omega, by simp only; omega⟩ W
     have HH0 := Lib.hid fun W => HHa.out (addC (c0, c1, c2) (-1, 0, 0)) W
     obtain ⟨q0, hq⟩ : ∃ q, q = hasS s (addC (c0, c1, c2) (-1, 0, 0)) := ⟨_, rfl⟩
     rw [← hq] at HH0 HJJ
     clear hq
     have HV1 := Lib.hid fun W => HMv.out (c0, c1, c2) (0, -1, 0) ⟨by simp only; omega, by simp only; omega⟩ ⟨by simp only; omega, by simp only; omega⟩ ⟨by simp only; omega, by simp only; omega⟩ W
     have HH1 := Lib.hid fun W => HHa.out (addC (c0, c1, c2) (0, -1, 0)) W
     obtain ⟨q1, hq⟩ : ∃ q, q = hasS s (addC (c0, c1, c2) (0, -1, 0)) := ⟨_, rfl⟩
     rw [← hq] at HH1 HJJ
     clear hq
     have HV2 := Lib.hid fun W => HMv.out (c0, c1, c2) (0, 0, -1) ⟨by simp only; omega, by simp only; omega⟩ ⟨by simp only; omega, by simp only; omega⟩ ⟨by simp only; omega, by simp only; omega⟩ W
     have HH2 := Lib.hid fun W => HHa.out (addC (c0, c1, c2) (0, 0, -1)) W
     obtain ⟨q2, hq⟩ : ∃ q, q = hasS s (addC (c0, c1, c2) (0, 0, -1)) := ⟨_, rfl⟩
     rw [← hq] at HH2 HJJ
     clear hq
     have hbj : bareJ s (c0, c1, c2) 0 ≤ 3 := by
      rw [HR1.out.1]; omega
     obtain ⟨B, hB9⟩ : ∃ B, B = A + bareJ s (c0, c1, c2) 0 := ⟨_, rfl⟩
     have hB3 : B ≤ 3100 := by omega
     rw [← hB9]
     have HB9 := Lib.hid hB9
     clear hB9
     go_wp2_with fail
     obtain ⟨wB0, hwB⟩ : ∃ x, x = wr := ⟨_, rfl⟩
     rw [← hwB] at HK ⊢
     clear hwB
     refine wp_region_val Grows (fun _ _ _ => True) [Is (solV s), Is (.slice (some ⟨b1, o1, none⟩) n c9), Is (.int .i64 (i : Nat)), Is (.pointer (some ⟨b1, o1 + i * 3, none⟩)), Is (clV (c0, c1, c2)), Is (.int .i64 (-1)), Is (clV (addC (c0, c1, c2) (-1, 0, 0))), Is (.bool q0), Is (.bool (!q0))] (by kernel_rfl) (by kernel_rfl) rfl Grows.refl (fun _ _ _ => Grows.trans) (stable_mem ⟨fun _ _ _ h _ => h, fun _ _ _ h _ => h, fun _ _ _ h _ => h, fun _ _ _ h _ => h, fun _ _ _ h _ => h, fun _ _ _ h _ => h, fun _ _ _ h _ => h, fun _ _ _ h _ => h, fun _ _ _ h _ => h, trivial⟩) wB0 (Below.drew (Below.refl _ _)) trivial ?_
     refine val_cons ?_ (fun v0 => ?_)
     ·intro L vs w1 hvs hat hb hI hF; try simp [factsI, Region.binds, Is] at hF
      have D := (HK.out.1).grow (show Below _ _ _ from hb); have cD := D.cell; have lD := D.lt; clear D
      go_simp
      first | exact Grows.refl _ | exact ⟨Grows.refl _, trivial⟩
     refine val_cons ?_ (fun v1 => ?_)
     ·intro L vs w1 hvs hat hb hI hF; try simp [factsI, Region.binds, Is] at hF
      have hc := (Grows.cells hb).1
      clear hI
      go_simp
      try simp [upd]
      try first | exact Grows.refl _ | exact trivial | exact ⟨Grows.refl _, trivial⟩
     refine val_cons ?_ (fun v2 => ?_)
     ·intro L vs w1 hvs hat hb hI hF; try simp [factsI, Region.binds, Is] at hF
      have hc := (Grows.cells hb).1
      clear hI
      go_simp
      try simp [upd]
      try first | exact Grows.refl _ | exact trivial | exact ⟨Grows.refl _, trivial⟩
     refine val_cons ?_ (fun v3 => ?_)
     ·intro L vs w1 hvs hat hb hI hF; try simp [factsI, Region.binds, Is] at hF
      have hc := (Grows.cells hb).1
      clear hI
      go_simp
      try simp [upd]
      try first | exact Grows.refl _ | exact trivial | exact ⟨Grows.refl _, trivial⟩
     refine val_cons ?_ (fun v4 => ?_)
     ·intro L vs w1 hvs hat hb hI hF; try simp [factsI, Region.binds, Is] at hF
      obtain ⟨b', off', h1', hCs, _⟩ := (HK.out.2.1.mono (show Below _ _ _ from hb)).at HX.out
      cases h1'
      obtain ⟨z0, z1, z2⟩ := cl_cells hCs HX.out
      have lz := hCs.1
      clear hCs
      go_simp
      first | exact Grows.refl _ | exact ⟨Grows.refl _, trivial⟩
     refine val_cons ?_ (fun v5 => ?_)
     ·intro L vs w1 hvs hat hb hI hF; try simp [factsI, Region.binds, Is] at hF
      have hc := (Grows.cells hb).1
      clear hI
      go_simp
      try simp [upd]
      try first | exact Grows.refl _ | exact trivial | exact ⟨Grows.refl _, trivial⟩
     refine val_cons ?_ (fun v6 => ?_)
     ·intro L vs w1 hvs hat hb hI hF; try simp [factsI, Region.binds, Is] at hF
      have hb0 := hb
      go_simp
      refine (HV0.out _).mono ?_
      rintro e w2 ⟨rfl, hb2⟩
      first | exact ⟨rfl, hb2⟩ | exact ⟨_, rfl, hb2, trivial, rfl⟩ | exact ⟨_, rfl, hb2, rfl⟩
     refine val_cons ?_ (fun v7 => ?_)
     ·intro L vs w1 hvs hat hb hI hF; try simp [factsI, Region.binds, Is] at hF
      have hb0 := hb
      go_simp
      refine (HH0.out _).mono ?_
      rintro e w2 ⟨rfl, hb2⟩
      first | exact ⟨rfl, hb2⟩ | exact ⟨_, rfl, hb2, trivial, rfl⟩ | exact ⟨_, rfl, hb2, rfl⟩
     refine val_cons ?_ (fun v8 => ?_)
     ·intro L vs w1 hvs hat hb hI hF; try simp [factsI, Region.binds, Is] at hF
      have hc := (Grows.cells hb).1
      clear hI
      go_simp
      try simp [upd]
      try first | exact Grows.refl _ | exact trivial | exact ⟨Grows.refl _, trivial⟩
     refine val_nil ?_
     intro vs w1 hvs hb hI hF
     simp [Is, Nat.forall_lt_succ_right] at hF
     simp only [Act.put, List.setIfInBounds_toArray, List.set_cons_succ, List.set_cons_zero, hF]
     clear hF
     have hbB : Below wB0.heap.size wB0 w1 := hb
     have HK0 := Lib.hid (And.intro (HK.out.1.grow hbB) (And.intro (HK.out.2.1.mono hbB) (bel_trans HK.out.2.2 hbB)))
     clear hb hvs hbB
     cases q0 with
     | false =>
      go_wp2_with fail
      obtain ⟨wB1, hwB⟩ : ∃ x, x = w1 := ⟨_, rfl⟩
      rw [← hwB] at HK0 ⊢
      clear hwB
      refine wp_region_val Grows (fun _ _ _ => True) [Is (solV s), Is (.slice (some ⟨b1, o1, none⟩) n c9), Is (.int .i64 (i : Nat)), Is (.pointer (some ⟨b1, o1 + i * 3, none⟩)), Is (clV (c0, c1, c2)), Is (.int .i64 (-1)), Is (clV (addC (c0, c1, c2) (0, -1, 0))), Is (.bool q1), Is (.bool (!q1))] (by kernel_rfl) (by kernel_rfl) rfl Grows.refl (fun _ _ _ => Grows.trans) (stable_mem ⟨fun _ _ _ h _ => h, fun _ _ _ h _ => h, fun _ _ _ h _ => h, fun _ _ _ h _ => h, fun _ _ _ h _ => h, fun _ _ _ h _ => h, fun _ _ _ h _ => h, fun _ _ _ h _ => h, fun _ _ _ h _ => h, trivial⟩) wB1 (Below.drew (Below.refl _ _)) trivial ?_
      refine val_cons ?_ (fun v0 => ?_)
      ·intro L vs w1 hvs hat hb hI hF; try simp [factsI, Region.binds, Is] at hF
       have D := (HK0.out.1).grow (show Below _ _ _ from hb); have cD := D.cell; have lD := D.lt; clear D
       go_simp
       first | exact Grows.refl _ | exact ⟨Grows.refl _, trivial⟩
      refine val_cons ?_ (fun v1 => ?_)
      ·intro L vs w1 hvs hat hb hI hF; try simp [factsI, Region.binds, Is] at hF
       have hc := (Grows.cells hb).1
       clear hI
       go_simp
       try simp [upd]
       try first | exact Grows.refl _ | exact trivial | exact ⟨Grows.refl _, trivial⟩
      refine val_cons ?_ (fun v2 => ?_)
      ·intro L vs w1 hvs hat hb hI hF; try simp [factsI, Region.binds, Is] at hF
       have hc := (Grows.cells hb).1
       clear hI
       go_simp
       try simp [upd]
       try first | exact Grows.refl _ | exact trivial | exact ⟨Grows.refl _, trivial⟩
      refine val_cons ?_ (fun v3 => ?_)
      ·intro L vs w1 hvs hat hb hI hF; try simp [factsI, Region.binds, Is] at hF
       have hc := (Grows.cells hb).1
       clear hI
       go_simp
       try simp [upd]
       try first | exact Grows.refl _ | exact trivial | exact ⟨Grows.refl _, trivial⟩
      refine val_cons ?_ (fun v4 => ?_)
      ·intro L vs w1 hvs hat hb hI hF; try simp [factsI, Region.binds, Is] at hF
       obtain ⟨b', off', h1', hCs, _⟩ := (HK0.out.2.1.mono (show Below _ _ _ from hb)).at HX.out
       cases h1'
       obtain ⟨z0, z1, z2⟩ := cl_cells hCs HX.out
       have lz := hCs.1
       clear hCs
       go_simp
       first | exact Grows.refl _ | exact ⟨Grows.refl _, trivial⟩
      refine val_cons ?_ (fun v5 => ?_)
      ·intro L vs w1 hvs hat hb hI hF; try simp [factsI, Region.binds, Is] at hF
       have hc := (Grows.cells hb).1
       clear hI
       go_simp
       try simp [upd]
       try first | exact Grows.refl _ | exact trivial | exact ⟨Grows.refl _, trivial⟩
      refine val_cons ?_ (fun v6 => ?_)
      ·intro L vs w1 hvs hat hb hI hF; try simp [factsI, Region.binds, Is] at hF
       have hb0 := hb
       go_simp
       refine (HV1.out _).mono ?_
       rintro e w2 ⟨rfl, hb2⟩
       first | exact ⟨rfl, hb2⟩ | exact ⟨_, rfl, hb2, trivial, rfl⟩ | exact ⟨_, rfl, hb2, rfl⟩
      refine val_cons ?_ (fun v7 => ?_)
      ·intro L vs w1 hvs hat hb hI hF; try simp [factsI, Region.binds, Is] at hF
       have hb0 := hb
       go_simp
       refine (HH1.out _).mono ?_
       rintro e w2 ⟨rfl, hb2⟩
       first | exact ⟨rfl, hb2⟩ | exact ⟨_, rfl, hb2, trivial, rfl⟩ | exact ⟨_, rfl, hb2, rfl⟩
      refine val_cons ?_ (fun v8 => ?_)
      ·intro L vs w1 hvs hat hb hI hF; try simp [factsI, Region.binds, Is] at hF
       have hc := (Grows.cells hb).1
       clear hI
       go_simp
       try simp [upd]
       try first | exact Grows.refl _ | exact trivial | exact ⟨Grows.refl _, trivial⟩
      refine val_nil ?_
      intro vs w1 hvs hb hI hF
      simp [Is, Nat.forall_lt_succ_right] at hF
      simp only [Act.put, List.setIfInBounds_toArray, List.set_cons_succ, List.set_cons_zero, hF]
      clear hF
      have hbB : Below wB1.heap.size wB1 w1 := hb
      have HK1 := Lib.hid (And.intro (HK0.out.1.grow hbB) (And.intro (HK0.out.2.1.mono hbB) (bel_trans HK0.out.2.2 hbB)))
      clear hb hvs hbB
      cases q1 with
      | false =>
       go_wp2_with fail
       obtain ⟨wB2, hwB⟩ : ∃ x, x = w1 := ⟨_, rfl⟩
       rw [← hwB] at HK1 ⊢
       clear hwB
       refine wp_region_val Grows (fun _ _ _ => True) [Is (solV s), Is (.slice (some ⟨b1, o1, none⟩) n c9), Is (.int .i64 (i : Nat)), Is (.pointer (some ⟨b1, o1 + i * 3, none⟩)), Is (clV (c0, c1, c2)), Is (.int .i64 (-1)), Is (clV (addC (c0, c1, c2) (0, 0, -1))), Is (.bool q2), Is (.bool (!q2))] (by kernel_rfl) (by kernel_rfl) rfl Grows.refl (fun _ _ _ => Grows.trans) (stable_mem ⟨fun _ _ _ h _ => h, fun _ _ _ h _ => h, fun _ _ _ h _ => h, fun _ _ _ h _ => h, fun _ _ _ h _ => h, fun _ _ _ h _ => h, fun _ _ _ h _ => h, fun _ _ _ h _ => h, fun _ _ _ h _ => h, trivial⟩) wB2 (Below.drew (Below.refl _ _)) trivial ?_
       refine val_cons ?_ (fun v0 => ?_)
       ·intro L vs w1 hvs hat hb hI hF; try simp [factsI, Region.binds, Is] at hF
        have D := (HK1.out.1).grow (show Below _ _ _ from hb); have cD := D.cell; have lD := D.lt; clear D
        go_simp
        first | exact Grows.refl _ | exact ⟨Grows.refl _, trivial⟩
       refine val_cons ?_ (fun v1 => ?_)
       ·intro L vs w1 hvs hat hb hI hF; try simp [factsI, Region.binds, Is] at hF
        have hc := (Grows.cells hb).1
        clear hI
        go_simp
        try simp [upd]
        try first | exact Grows.refl _ | exact trivial | exact ⟨Grows.refl _, trivial⟩
       refine val_cons ?_ (fun v2 => ?_)
       ·intro L vs w1 hvs hat hb hI hF; try simp [factsI, Region.binds, Is] at hF
        have hc := (Grows.cells hb).1
        clear hI
        go_simp
        try simp [upd]
        try first | exact Grows.refl _ | exact trivial | exact ⟨Grows.refl _, trivial⟩
       refine val_cons ?_ (fun v3 => ?_)
       ·intro L vs w1 hvs hat hb hI hF; try simp [factsI, Region.binds, Is] at hF
        have hc := (Grows.cells hb).1
        clear hI
        go_simp
        try simp [upd]
        try first | exact Grows.refl _ | exact trivial | exact ⟨Grows.refl _, trivial⟩
       refine val_cons ?_ (fun v4 => ?_)
       ·intro L vs w1 hvs hat hb hI hF; try simp [factsI, Region.binds, Is] at hF
        obtain ⟨b', off', h1', hCs, _⟩ := (HK1.out.2.1.mono (show Below _ _ _ from hb)).at HX.out
        cases h1'
        obtain ⟨z0, z1, z2⟩ := cl_cells hCs HX.out
        have lz := hCs.1
        clear hCs
        go_simp
        first | exact Grows.refl _ | exact ⟨Grows.refl _, trivial⟩
       refine val_cons ?_ (fun v5 => ?_)
       ·intro L vs w1 hvs hat hb hI hF; try simp [factsI, Region.binds, Is] at hF
        have hc := (Grows.cells hb).1
        clear hI
        go_simp
        try simp [upd]
        try first | exact Grows.refl _ | exact trivial | exact ⟨Grows.refl _, trivial⟩
       refine val_cons ?_ (fun v6 => ?_)
       ·intro L vs w1 hvs hat hb hI hF; try simp [factsI, Region.binds, Is] at hF
        have hb0 := hb
        go_simp
        refine (HV2.out _).mono ?_
        rintro e w2 ⟨rfl, hb2⟩
        first | exact ⟨rfl, hb2⟩ | exact ⟨_, rfl, hb2, trivial, rfl⟩ | exact ⟨_, rfl, hb2, rfl⟩
       refine val_cons ?_ (fun v7 => ?_)
       ·intro L vs w1 hvs hat hb hI hF; try simp [factsI, Region.binds, Is] at hF
        have hb0 := hb
        go_simp
        refine (HH2.out _).mono ?_
        rintro e w2 ⟨rfl, hb2⟩
        first | exact ⟨rfl, hb2⟩ | exact ⟨_, rfl, hb2, trivial, rfl⟩ | exact ⟨_, rfl, hb2, rfl⟩
       refine val_cons ?_ (fun v8 => ?_)
       ·intro L vs w1 hvs hat hb hI hF; try simp [factsI, Region.binds, Is] at hF
        have hc := (Grows.cells hb).1
        clear hI
        go_simp
        try simp [upd]
        try first | exact Grows.refl _ | exact trivial | exact ⟨Grows.refl _, trivial⟩
       refine val_nil ?_
       intro vs w1 hvs hb hI hF
       simp [Is, Nat.forall_lt_succ_right] at hF
       simp only [Act.put, List.setIfInBounds_toArray, List.set_cons_succ, List.set_cons_zero, hF]
       clear hF
       have hbB : Below wB2.heap.size wB2 w1 := hb
       have HK2 := Lib.hid (And.intro (HK1.out.1.grow hbB) (And.intro (HK1.out.2.1.mono hbB) (bel_trans HK1.out.2.2 hbB)))
       clear hb hvs hbB
       cases q2 with
       | false =>
        have HV9 : Hid (bareJ s (c0, c1, c2) 1 = bareJ s (c0, c1, c2) 0 + 3) := Lib.hid (by rw [HJJ.out, HR1.out.1]; rfl)
        go_wp2_with fail
        go_roundw
        case rel => exact ⟨1, by omega, by rfl, by rw [HV9.out, ← Nat.add_assoc, ← HB9.out]; first | rfl | go_num | (simp; done), HK2⟩
        case measure => simp [intOf]
       | true =>
        have HV9 : Hid (bareJ s (c0, c1, c2) 1 = bareJ s (c0, c1, c2) 0 + 2) := Lib.hid (by rw [HJJ.out, HR1.out.1]; rfl)
        go_wp2_with fail
        go_roundw
        case rel => exact ⟨1, by omega, by rfl, by rw [HV9.out, ← Nat.add_assoc, ← HB9.out]; first | rfl | go_num | (simp; done), HK2⟩
        case measure => simp [intOf]
      | true =>
       go_wp2_with fail
       obtain ⟨wB2, hwB⟩ : ∃ x, x = w1 := ⟨_, rfl⟩
       rw [← hwB] at HK1 ⊢
       clear hwB
       refine wp_region_val Grows (fun _ _ _ => True) [Is (solV s), Is (.slice (some ⟨b1, o1, none⟩) n c9), Is (.int .i64 (i : Nat)), Is (.pointer (some ⟨b1, o1 + i * 3, none⟩)), Is (clV (c0, c1, c2)), Is (.int .i64 (-1)), Is (clV (addC (c0, c1, c2) (0, 0, -1))), Is (.bool q2), Is (.bool (!q2))] (by kernel_rfl) (by kernel_rfl) rfl Grows.refl (fun _ _ _ => Grows.trans) (stable_mem ⟨fun _ _ _ h _ => h, fun _ _ _ h _ => h, fun _ _ _ h _ => h, fun _ _ _ h _ => h, fun _ _ _ h _ => h, fun _ _ _ h _ => h, fun _ _ _ h _ => h, fun _ _ _ h _ => h, fun _ _ _ h _ => h, trivial⟩) wB2 (Below.drew (Below.refl _ _)) trivial ?_
       refine val_cons ?_ (fun v0 => ?_)
       ·intro L vs w1 hvs hat hb hI hF; try simp [factsI, Region.binds, Is] at hF
        have D := (HK1.out.1).grow (show Below _ _ _ from hb); have cD := D.cell; have lD := D.lt; clear D
        go_simp
        first | exact Grows.refl _ | exact ⟨Grows.refl _, trivial⟩
       refine val_cons ?_ (fun v1 => ?_)
       ·intro L vs w1 hvs hat hb hI hF; try simp [factsI, Region.binds, Is] at hF
        have hc := (Grows.cells hb).1
        clear hI
        go_simp
        try simp [upd]
        try first | exact Grows.refl _ | exact trivial | exact ⟨Grows.refl _, trivial⟩
       refine val_cons ?_ (fun v2 => ?_)
       ·intro L vs w1 hvs hat hb hI hF; try simp [factsI, Region.binds, Is] at hF
        have hc := (Grows.cells hb).1
        clear hI
        go_simp
        try simp [upd]
        try first | exact Grows.refl _ | exact trivial | exact ⟨Grows.refl _, trivial⟩
       refine val_cons ?_ (fun v3 => ?_)
       ·intro L vs w1 hvs hat hb hI hF; try simp [factsI, Region.binds, Is] at hF
        have hc := (Grows.cells hb).1
        clear hI
        go_simp
        try simp [upd]
        try first | exact Grows.refl _ | exact trivial | exact ⟨Grows.refl _, trivial⟩
       refine val_cons ?_ (fun v4 => ?_)
       ·intro L vs w1 hvs hat hb hI hF; try simp [factsI, Region.binds, Is] at hF
        obtain ⟨b', off', h1', hCs, _⟩ := (HK1.out.2.1.mono (show Below _ _ _ from hb)).at HX.out
        cases h1'
        obtain ⟨z0, z1, z2⟩ := cl_cells hCs HX.out
        have lz := hCs.1
        clear hCs
        go_simp
        first | exact Grows.refl _ | exact ⟨Grows.refl _, trivial⟩
       refine val_cons ?_ (fun v5 => ?_)
       ·intro L vs w1 hvs hat hb hI hF; try simp [factsI, Region.binds, Is] at hF
        have hc := (Grows.cells hb).1
        clear hI
        go_simp
        try simp [upd]
        try first | exact Grows.refl _ | exact trivial | exact ⟨Grows.refl _, trivial⟩
       refine val_cons ?_ (fun v6 => ?_)
       ·intro L vs w1 hvs hat hb hI hF; try simp [factsI, Region.binds, Is] at hF
        have hb0 := hb
        go_simp
        refine (HV2.out _).mono ?_
        rintro e w2 ⟨rfl, hb2⟩
        first | exact ⟨rfl, hb2⟩ | exact ⟨_, rfl, hb2, trivial, rfl⟩ | exact ⟨_, rfl, hb2, rfl⟩
       refine val_cons ?_ (fun v7 => ?_)
       ·intro L vs w1 hvs hat hb hI hF; try simp [factsI, Region.binds, Is] at hF
        have hb0 := hb
        go_simp
        refine (HH2.out _).mono ?_
        rintro e w2 ⟨rfl, hb2⟩
        first | exact ⟨rfl, hb2⟩ | exact ⟨_, rfl, hb2, trivial, rfl⟩ | exact ⟨_, rfl, hb2, rfl⟩
       refine val_cons ?_ (fun v8 => ?_)
       ·intro L vs w1 hvs hat hb hI hF; try simp [factsI, Region.binds, Is] at hF
        have hc := (Grows.cells hb).1
        clear hI
        go_simp
        try simp [upd]
        try first | exact Grows.refl _ | exact trivial | exact ⟨Grows.refl _, trivial⟩
       refine val_nil ?_
       intro vs w1 hvs hb hI hF
       simp [Is, Nat.forall_lt_succ_right] at hF
       simp only [Act.put, List.setIfInBounds_toArray, List.set_cons_succ, List.set_cons_zero, hF]
       clear hF
       have hbB : Below wB2.heap.size wB2 w1 := hb
       have HK2 := Lib.hid (And.intro (HK1.out.1.grow hbB) (And.intro (HK1.out.2.1.mono hbB) (bel_trans HK1.out.2.2 hbB)))
       clear hb hvs hbB
       cases q2 with
       | false =>
        have HV9 : Hid (bareJ s (c0, c1, c2) 1 = bareJ s (c0, c1, c2) 0 + 2) := Lib.hid (by rw [HJJ.out, HR1.out.1]; rfl)
        go_wp2_with fail
        go_roundw
        case rel => exact ⟨1, by omega, by rfl, by rw [HV9.out, ← Nat.add_assoc, ← HB9.out]; first | rfl | go_num | (simp; done), HK2⟩
        case measure => simp [intOf]
       | true =>
        have HV9 : Hid (bareJ s (c0, c1, c2) 1 = bareJ s (c0, c1, c2) 0 + 1) := Lib.hid (by rw [HJJ.out, HR1.out.1]; rfl)
        go_wp2_with fail
        go_roundw
        case rel => exact ⟨1, by omega, by rfl, by rw [HV9.out, ← Nat.add_assoc, ← HB9.out]; first | rfl | go_num | (simp; done), HK2⟩
        case measure => simp [intOf]
     | true =>
      go_wp2_with fail
      obtain ⟨wB1, hwB⟩ : ∃ x, x = w1 := ⟨_, rfl⟩
      rw [← hwB] at HK0 ⊢
      clear hwB
      refine wp_region_val Grows (fun _ _ _ => True) [Is (solV s), Is (.slice (some ⟨b1, o1, none⟩) n c9), Is (.int .i64 (i : Nat)), Is (.pointer (some ⟨b1, o1 + i * 3, none⟩)), Is (clV (c0, c1, c2)), Is (.int .i64 (-1)), Is (clV (addC (c0, c1, c2) (0, -1, 0))), Is (.bool q1), Is (.bool (!q1))] (by kernel_rfl) (by kernel_rfl) rfl Grows.refl (fun _ _ _ => Grows.trans) (stable_mem ⟨fun _ _ _ h _ => h, fun _ _ _ h _ => h, fun _ _ _ h _ => h, fun _ _ _ h _ => h, fun _ _ _ h _ => h, fun _ _ _ h _ => h, fun _ _ _ h _ => h, fun _ _ _ h _ => h, fun _ _ _ h _ => h, trivial⟩) wB1 (Below.drew (Below.refl _ _)) trivial ?_
      refine val_cons ?_ (fun v0 => ?_)
      ·intro L vs w1 hvs hat hb hI hF; try simp [factsI, Region.binds, Is] at hF
       have D := (HK0.out.1).grow (show Below _ _ _ from hb); have cD := D.cell; have lD := D.lt; clear D
       go_simp
       first | exact Grows.refl _ | exact ⟨Grows.refl _, trivial⟩
      refine val_cons ?_ (fun v1 => ?_)
      ·intro L vs w1 hvs hat hb hI hF; try simp [factsI, Region.binds, Is] at hF
       have hc := (Grows.cells hb).1
       clear hI
       go_simp
       try simp [upd]
       try first | exact Grows.refl _ | exact trivial | exact ⟨Grows.refl _, trivial⟩
      refine val_cons ?_ (fun v2 => ?_)
      ·intro L vs w1 hvs hat hb hI hF; try simp [factsI, Region.binds, Is] at hF
       have hc := (Grows.cells hb).1
       clear hI
       go_simp
       try simp [upd]
       try first | exact Grows.refl _ | exact trivial | exact ⟨Grows.refl _, trivial⟩
      refine val_cons ?_ (fun v3 => ?_)
      ·intro L vs w1 hvs hat hb hI hF; try simp [factsI, Region.binds, Is] at hF
       have hc := (Grows.cells hb).1
       clear hI
       go_simp
       try simp [upd]
       try first | exact Grows.refl _ | exact trivial | exact ⟨Grows.refl _, trivial⟩
      refine val_cons ?_ (fun v4 => ?_)
      ·intro L vs w1 hvs hat hb hI hF; try simp [factsI, Region.binds, Is] at hF
       obtain ⟨b', off', h1', hCs, _⟩ := (HK0.out.2.1.mono (show Below _ _ _ from hb)).at HX.out
       cases h1'
       obtain ⟨z0, z1, z2⟩ := cl_cells hCs HX.out
       have lz := hCs.1
       clear hCs
       go_simp
       first | exact Grows.refl _ | exact ⟨Grows.refl _, trivial⟩
      refine val_cons ?_ (fun v5 => ?_)
      ·intro L vs w1 hvs hat hb hI hF; try simp [factsI, Region.binds, Is] at hF
       have hc := (Grows.cells hb).1
       clear hI
       go_simp
       try simp [upd]
       try first | exact Grows.refl _ | exact trivial | exact ⟨Grows.refl _, trivial⟩
      refine val_cons ?_ (fun v6 => ?_)
      ·intro L vs w1 hvs hat hb hI hF; try simp [factsI, Region.binds, Is] at hF
       have hb0 := hb
       go_simp
       refine (HV1.out _).mono ?_
       rintro e w2 ⟨rfl, hb2⟩
       first | exact ⟨rfl, hb2⟩ | exact ⟨_, rfl, hb2, trivial, rfl⟩ | exact ⟨_, rfl, hb2, rfl⟩
      refine val_cons ?_ (fun v7 => ?_)
      ·intro L vs w1 hvs hat hb hI hF; try simp [factsI, Region.binds, Is] at hF
       have hb0 := hb
       go_simp
       refine (HH1.out _).mono ?_
       rintro e w2 ⟨rfl, hb2⟩
       first | exact ⟨rfl, hb2⟩ | exact ⟨_, rfl, hb2, trivial, rfl⟩ | exact ⟨_, rfl, hb2, rfl⟩
      refine val_cons ?_ (fun v8 => ?_)
      ·intro L vs w1 hvs hat hb hI hF; try simp [factsI, Region.binds, Is] at hF
       have hc := (Grows.cells hb).1
       clear hI
       go_simp
       try simp [upd]
       try first | exact Grows.refl _ | exact trivial | exact ⟨Grows.refl _, trivial⟩
      refine val_nil ?_
      intro vs w1 hvs hb hI hF
      simp [Is, Nat.forall_lt_succ_right] at hF
      simp only [Act.put, List.setIfInBounds_toArray, List.set_cons_succ, List.set_cons_zero, hF]
      clear hF
      have hbB : Below wB1.heap.size wB1 w1 := hb
      have HK1 := Lib.hid (And.intro (HK0.out.1.grow hbB) (And.intro (HK0.out.2.1.mono hbB) (bel_trans HK0.out.2.2 hbB)))
      clear hb hvs hbB
      cases q1 with
      | false =>
       go_wp2_with fail
       obtain ⟨wB2, hwB⟩ : ∃ x, x = w1 := ⟨_, rfl⟩
       rw [← hwB] at HK1 ⊢
       clear hwB
       refine wp_region_val Grows (fun _ _ _ => True) [Is (solV s), Is (.slice (some ⟨b1, o1, none⟩) n c9), Is (.int .i64 (i : Nat)), Is (.pointer (some ⟨b1, o1 + i * 3, none⟩)), Is (clV (c0, c1, c2)), Is (.int .i64 (-1)), Is (clV (addC (c0, c1, c2) (0, 0, -1))), Is (.bool q2), Is (.bool (!q2))] (by kernel_rfl) (by kernel_rfl) rfl Grows.refl (fun _ _ _ => Grows.trans) (stable_mem ⟨fun _ _ _ h _ => h, fun _ _ _ h _ => h, fun _ _ _ h _ => h, fun _ _ _ h _ => h, fun _ _ _ h _ => h, fun _ _ _ h _ => h, fun _ _ _ h _ => h, fun _ _ _ h _ => h, fun _ _ _ h _ => h, trivial⟩) wB2 (Below.drew (Below.refl _ _)) trivial ?_
       refine val_cons ?_ (fun v0 => ?_)
       ·intro L vs w1 hvs hat hb hI hF; try simp [factsI, Region.binds, Is] at hF
        have D := (HK1.out.1).grow (show Below _ _ _ from hb); have cD := D.cell; have lD := D.lt; clear D
        go_simp
        first | exact Grows.refl _ | exact ⟨Grows.refl _, trivial⟩
       refine val_cons ?_ (fun v1 => ?_)
       ·intro L vs w1 hvs hat hb hI hF; try simp [factsI, Region.binds, Is] at hF
        have hc := (Grows.cells hb).1
        clear hI
        go_simp
        try simp [upd]
        try first | exact Grows.refl _ | exact trivial | exact ⟨Grows.refl _, trivial⟩
       refine val_cons ?_ (fun v2 => ?_)
       ·intro L vs w1 hvs hat hb hI hF; try simp [factsI, Region.binds, Is] at hF
        have hc := (Grows.cells hb).1
        clear hI
        go_simp
        try simp [upd]
        try first | exact Grows.refl _ | exact trivial | exact ⟨Grows.refl _, trivial⟩
       refine val_cons ?_ (fun v3 => ?_)
       ·intro L vs w1 hvs hat hb hI hF; try simp [factsI, Region.binds, Is] at hF
        have hc := (Grows.cells hb).1
        clear hI
        go_simp
        try simp [upd]
        try first | exact Grows.refl _ | exact trivial | exact ⟨Grows.refl _, trivial⟩
       refine val_cons ?_ (fun v4 => ?_)
       ·intro L vs w1 hvs hat hb hI hF; try simp [factsI, Region.binds, Is] at hF
        obtain ⟨b', off', h1', hCs, _⟩ := (HK1.out.2.1.mono (show Below _ _ _ from hb)).at HX.out
        cases h1'
        obtain ⟨z0, z1, z2⟩ := cl_cells hCs HX.out
        have lz := hCs.1
        clear hCs
        go_simp
        first | exact Grows.refl _ | exact ⟨Grows.refl _, trivial⟩
       refine val_cons ?_ (fun v5 => ?_)
       ·intro L vs w1 hvs hat hb hI hF; try simp [factsI, Region.binds, Is] at hF
        have hc := (Grows.cells hb).1
        clear hI
        go_simp
        try simp [upd]
        try first | exact Grows.refl _ | exact trivial | exact ⟨Grows.refl _, trivial⟩
       refine val_cons ?_ (fun v6 => ?_)
       ·intro L vs w1 hvs hat hb hI hF; try simp [factsI, Region.binds, Is] at hF
        have hb0 := hb
        go_simp
        refine (HV2.out _).mono ?_
        rintro e w2 ⟨rfl, hb2⟩
        first | exact ⟨rfl, hb2⟩ | exact ⟨_, rfl, hb2, trivial, rfl⟩ | exact ⟨_, rfl, hb2, rfl⟩
       refine val_cons ?_ (fun v7 => ?_)
       ·intro L vs w1 hvs hat hb hI hF; try simp [factsI, Region.binds, Is] at hF
        have hb0 := hb
        go_simp
        refine (HH2.out _).mono ?_
        rintro e w2 ⟨rfl, hb2⟩
        first | exact ⟨rfl, hb2⟩ | exact ⟨_, rfl, hb2, trivial, rfl⟩ | exact ⟨_, rfl, hb2, rfl⟩
       refine val_cons ?_ (fun v8 => ?_)
       ·intro L vs w1 hvs hat hb hI hF; try simp [factsI, Region.binds, Is] at hF
        have hc := (Grows.cells hb).1
        clear hI
        go_simp
        try simp [upd]
        try first | exact Grows.refl _ | exact trivial | exact ⟨Grows.refl _, trivial⟩
       refine val_nil ?_
       intro vs w1 hvs hb hI hF
       simp [Is, Nat.forall_lt_succ_right] at hF
       simp only [Act.put, List.setIfInBounds_toArray, List.set_cons_succ, List.set_cons_zero, hF]
       clear hF
       have hbB : Below wB2.heap.size wB2 w1 := hb
       have HK2 := Lib.hid (And.intro (HK1.out.1.grow hbB) (And.intro (HK1.out.2.1.mono hbB) (bel_trans HK1.out.2.2 hbB)))
       clear hb hvs hbB
       cases q2 with
       | false =>
        have HV9 : Hid (bareJ s (c0, c1, c2) 1 = bareJ s (c0, c1, c2) 0 + 2) := Lib.hid (by rw [HJJ.out, HR1.out.1]; rfl)
        go_wp2_with fail
        go_roundw
        case rel => exact ⟨1, by omega, by rfl, by rw [HV9.out, ← Nat.add_assoc, ← HB9.out]; first | rfl | go_num | (simp; done), HK2⟩
        case measure => simp [intOf]
       | true =>
        have HV9 : Hid (bareJ s (c0, c1, c2) 1 = bareJ s (c0, c1, c2) 0 + 1) := Lib.hid (by rw [HJJ.out, HR1.out.1]; rfl)
        go_wp2_with fail
        go_roundw
        case rel => exact ⟨1, by omega, by rfl, by rw [HV9.out, ← Nat.add_assoc, ← HB9.out]; first | rfl | go_num | (simp; done), HK2⟩
        case measure => simp [intOf]
      | true =>
       go_wp2_with fail
       obtain ⟨wB2, hwB⟩ : ∃ x, x = w1 := ⟨_, rfl⟩
       rw [← hwB] at HK1 ⊢
       clear hwB
       refine wp_region_val Grows (fun _ _ _ => True) [Is (solV s), Is (.slice (some ⟨b1, o1, none⟩) n c9), Is (.int .i64 (i : Nat)), Is (.pointer (some ⟨b1, o1 + i * 3, none⟩)), Is (clV (c0, c1, c2)), Is (.int .i64 (-1)), Is (clV (addC (c0, c1, c2) (0, 0, -1))), Is (.bool q2), Is (.bool (!q2))] (by kernel_rfl) (by kernel_rfl) rfl Grows.refl (fun _ _ _ => Grows.trans) (stable_mem ⟨fun _ _ _ h _ => h, fun _ _ _ h _ => h, fun _ _ _ h _ => h, fun _ _ _ h _ => h, fun _ _ _ h _ => h, fun _ _ _ h _ => h, fun _ _ _ h _ => h, fun _ _ _ h _ => h, fun _ _ _ h _ => h, trivial⟩) wB2 (Below.drew (Below.refl _ _)) trivial ?_
       refine val_cons ?_ (fun v0 => ?_)
       ·intro L vs w1 hvs hat hb hI hF; try simp [factsI, Region.binds, Is] at hF
        have D := (HK1.out.1).grow (show Below _ _ _ from hb); have cD := D.cell; have lD := D.lt; clear D
        go_simp
        first | exact Grows.refl _ | exact ⟨Grows.refl _, trivial⟩
       refine val_cons ?_ (fun v1 => ?_)
       ·intro L vs w1 hvs hat hb hI hF; try simp [factsI, Region.binds, Is] at hF
        have hc := (Grows.cells hb).1
        clear hI
        go_simp
        try simp [upd]
        try first | exact Grows.refl _ | exact trivial | exact ⟨Grows.refl _, trivial⟩
       refine val_cons ?_ (fun v2 => ?_)
       ·intro L vs w1 hvs hat hb hI hF; try simp [factsI, Region.binds, Is] at hF
        have hc := (Grows.cells hb).1
        clear hI
        go_simp
        try simp [upd]
        try first | exact Grows.refl _ | exact trivial | exact ⟨Grows.refl _, trivial⟩
       refine val_cons ?_ (fun v3 => ?_)
       ·intro L vs w1 hvs hat hb hI hF; try simp [factsI, Region.binds, Is] at hF
        have hc := (Grows.cells hb).1
        clear hI
        go_simp
        try simp [upd]
        try first | exact Grows.refl _ | exact trivial | exact ⟨Grows.refl _, trivial⟩
       refine val_cons ?_ (fun v4 => ?_)
       ·intro L vs w1 hvs hat hb hI hF; try simp [factsI, Region.binds, Is] at hF
        obtain ⟨b', off', h1', hCs, _⟩ := (HK1.out.2.1.mono (show Below _ _ _ from hb)).at HX.out
        cases h1'
        obtain ⟨z0, z1, z2⟩ := cl_cells hCs HX.out
        have lz := hCs.1
        clear hCs
        go_simp
        first | exact Grows.refl _ | exact ⟨Grows.refl _, trivial⟩
       refine val_cons ?_ (fun v5 => ?_)
       ·intro L vs w1 hvs hat hb hI hF; try simp [factsI, Region.binds, Is] at hF
        have hc := (Grows.cells hb).1
        clear hI
        go_simp
        try simp [upd]
        try first | exact Grows.refl _ | exact trivial | exact ⟨Grows.refl _, trivial⟩
       refine val_cons ?_ (fun v6 => ?_)
       ·intro L vs w1 hvs hat hb hI hF; try simp [factsI, Region.binds, Is] at hF
        have hb0 := hb
        go_simp
        refine (HV2.out _).mono ?_
        rintro e w2 ⟨rfl, hb2⟩
        first | exact ⟨rfl, hb2⟩ | exact ⟨_, rfl, hb2, trivial, rfl⟩ | exact ⟨_, rfl, hb2, rfl⟩
       refine val_cons ?_ (fun v7 => ?_)
       ·intro L vs w1 hvs hat hb hI hF; try simp [factsI, Region.binds, Is] at hF
        have hb0 := hb
        go_simp
        refine (HH2.out _).mono ?_
        rintro e w2 ⟨rfl, hb2⟩
        first | exact ⟨rfl, hb2⟩ | exact ⟨_, rfl, hb2, trivial, rfl⟩ | exact ⟨_, rfl, hb2, rfl⟩
       refine val_cons ?_ (fun v8 => ?_)
       ·intro L vs w1 hvs hat hb hI hF; try simp [factsI, Region.binds, Is] at hF
        have hc := (Grows.cells hb).1
        clear hI
        go_simp
        try simp [upd]
        try first | exact Grows.refl _ | exact trivial | exact ⟨Grows.refl _, trivial⟩
       refine val_nil ?_
       intro vs w1 hvs hb hI hF
       simp [Is, Nat.forall_lt_succ_right] at hF
       simp only [Act.put, List.setIfInBounds_toArray, List.set_cons_succ, List.set_cons_zero, hF]
       clear hF
       have hbB : Below wB2.heap.size wB2 w1 := hb
       have HK2 := Lib.hid (And.intro (HK1.out.1.grow hbB) (And.intro (HK1.out.2.1.mono hbB) (bel_trans HK1.out.2.2 hbB)))
       clear hb hvs hbB
       cases q2 with
       | false =>
        have HV9 : Hid (bareJ s (c0, c1, c2) 1 = bareJ s (c0, c1, c2) 0 + 1) := Lib.hid (by rw [HJJ.out, HR1.out.1]; rfl)
        go_wp2_with fail
        go_roundw
        case rel => exact ⟨1, by omega, by rfl, by rw [HV9.out, ← Nat.add_assoc, ← HB9.out]; first | rfl | go_num | (simp; done), HK2⟩
        case measure => simp [intOf]
       | true =>
        have HV9 : Hid (bareJ s (c0, c1, c2) 1 = bareJ s (c0, c1, c2) 0 + 0) := Lib.hid (by rw [HJJ.out, HR1.out.1]; rfl)
        go_wp2_with fail
        go_roundw
        case rel => exact ⟨1, by omega, by rfl, by rw [HV9.out, ← Nat.add_assoc, ← HB9.out]; first | rfl | go_num | (simp; done), HK2⟩
        case measure => simp [intOf]
    ·have HJJ := HJ1
     have HV0 := Lib.hid fun W => HMv.out (c0, c1, c2) (1, 0, 0) ⟨by simp only; omega, by simp only; omega⟩ ⟨by simp only; omega, by simp only; omega⟩ ⟨by simp only; omega, by simp only; omega⟩ W
     have HH0 := Lib.hid fun W => HHa.out (addC (c0, c1, c2) (1, 0, 0)) W
     obtain ⟨q0, hq⟩ : ∃ q, q = hasS s (addC (c0, c1, c2) (1, 0, 0)) := ⟨_, rfl⟩
     rw [← hq] at HH0 HJJ
     clear hq
     have HV1 := Lib.hid fun W => HMv.out (c0, c1, c2) (0, 1, 0) ⟨by simp only; omega, by simp only; omega⟩ ⟨by simp only; omega, by simp only; omega⟩ ⟨by simp only; omega, by simp only; omega⟩ W
     have HH1 := Lib.hid fun W => HHa.out (addC (c0, c1, c2) (0, 1, 0)) W
     obtain ⟨q1, hq⟩ : ∃ q, q = hasS s (addC (c0, c1, c2) (0, 1, 0)) := ⟨_, rfl⟩
     rw [← hq] at HH1 HJJ
     clear hq
     have HV2 := Lib.hid fun W => HMv.out (c0, c1, c2) (0, 0, 1) ⟨by simp only; omega, by simp only; omega⟩ ⟨by simp only; omega, by simp only; omega⟩ ⟨by simp only; omega, by simp only; omega⟩ W
     have HH2 := Lib.hid fun W => HHa.out (addC (c0, c1, c2) (0, 0, 1)) W
     obtain ⟨q2, hq⟩ : ∃ q, q = hasS s (addC (c0, c1, c2) (0, 0, 1)) := ⟨_, rfl⟩
     rw [← hq] at HH2 HJJ
     clear hq
     have hbj : bareJ s (c0, c1, c2) 1 ≤ 3 := by
      rw [HJ0.out]; have h1 := oneB_le (!hasS s (addC (c0, c1, c2) (-1, 0, 0))); have h2 := oneB_le (!hasS s (addC (c0, c1, c2) (0, -1, 0))); have h3 := oneB_le (!hasS s (addC (c0, c1, c2) (0, 0, -1))); omega
     obtain ⟨B, hB9⟩ : ∃ B, B = A + bareJ s (c0, c1, c2) 1 := ⟨_, rfl⟩
     have hB3 : B ≤ 3100 := by omega
     rw [← hB9]
     have HB9 := Lib.hid hB9
     clear hB9
     go_wp2_with fail
     obtain ⟨wB0, hwB⟩ : ∃ x, x = wr := ⟨_, rfl⟩
     rw [← hwB] at HK ⊢
     clear hwB
     refine wp_region_val Grows (fun _ _ _ => True) [Is (solV s), Is (.slice (some ⟨b1, o1, none⟩) n c9), Is (.int .i64 (i : Nat)), Is (.pointer (some ⟨b1, o1 + i * 3, none⟩)), Is (clV (c0, c1, c2)), Is (.int .i64 (1)), Is (clV (addC (c0, c1, c2) (1, 0, 0))), Is (.bool q0), Is (.bool (!q0))] (by kernel_rfl) (by kernel_rfl) rfl Grows.refl (fun _ _ _ => Grows.trans) (stable_mem ⟨fun _ _ _ h _ => h, fun _ _ _ h _ => h, fun _ _ _ h _ => h, fun _ _ _ h _ => h, fun _ _ _ h _ => h, fun _ _ _ h _ => h, fun _ _ _ h _ => h, fun _ _ _ h _ => h, fun _ _ _ h _ => h, trivial⟩) wB0 (Below.drew (Below.refl _ _)) trivial ?_
     refine val_cons ?_ (fun v0 => ?_)
     ·intro L vs w1 hvs hat hb hI hF; try simp [factsI, Region.binds, Is] at hF
      have D := (HK.out.1).grow (show Below _ _ _ from hb); have cD := D.cell; have lD := D.lt; clear D
      go_simp
      first | exact Grows.refl _ | exact ⟨Grows.refl _, trivial⟩
     refine val_cons ?_ (fun v1 => ?_)
     ·intro L vs w1 hvs hat hb hI hF; try simp [factsI, Region.binds, Is] at hF
      have hc := (Grows.cells hb).1
      clear hI
      go_simp
      try simp [upd]
      try first | exact Grows.refl _ | exact trivial | exact ⟨Grows.refl _, trivial⟩
     refine val_cons ?_ (fun v2 => ?_)
     ·intro L vs w1 hvs hat hb hI hF; try simp [factsI, Region.binds, Is] at hF
      have hc := (Grows.cells hb).1
      clear hI
      go_simp
      try simp [upd]
      try first | exact Grows.refl _ | exact trivial | exact ⟨Grows.refl _, trivial⟩
     refine val_cons ?_ (fun v3 => ?_)
     ·intro L vs w1 hvs hat hb hI hF; try simp [factsI, Region.binds, Is] at hF
      have hc := (Grows.cells hb).1
      clear hI
      go_simp
      try simp [upd]
      try first | exact Grows.refl _ | exact trivial | exact ⟨Grows.refl _, trivial⟩
     refine val_cons ?_ (fun v4 => ?_)
     ·intro L vs w1 hvs hat hb hI hF; try simp [factsI, Region.binds, Is] at hF
      obtain ⟨b', off', h1', hCs, _⟩ := (HK.out.2.1.mono (show Below _ _ _ from hb)).at HX.out
      cases h1'
      obtain ⟨z0, z1, z2⟩ := cl_cells hCs HX.out
      have lz := hCs.1
      clear hCs
      go_simp
      first | exact Grows.refl _ | exact ⟨Grows.refl _, trivial⟩
     refine val_cons ?_ (fun v5 => ?_)
     ·intro L vs w1 hvs hat hb hI hF; try simp [factsI, Region.binds, Is] at hF
      have hc := (Grows.cells hb).1
      clear hI
      go_simp
      try simp [upd]
      try first | exact Grows.refl _ | exact trivial | exact ⟨Grows.refl _, trivial⟩
     refine val_cons ?_ (fun v6 => ?_)
     ·intro L vs w1 hvs hat hb hI hF; try simp [factsI, Region.binds, Is] at hF
      have hb0 := hb
      go_simp
      refine (HV0.out _).mono ?_
      rintro e w2 ⟨rfl, hb2⟩
      first | exact ⟨rfl, hb2⟩ | exact ⟨_, rfl, hb2, trivial, rfl⟩ | exact ⟨_, rfl, hb2, rfl⟩
     refine val_cons ?_ (fun v7 => ?_)
     ·intro L vs w1 hvs hat hb hI hF; try simp [factsI, Region.binds, Is] at hF
      have hb0 := hb
      go_simp
      refine (HH0.out _).mono ?_
      rintro e w2 ⟨rfl, hb2⟩
      first | exact ⟨rfl, hb2⟩ | exact ⟨_, rfl, hb2, trivial, rfl⟩ | exact ⟨_, rfl, hb2, rfl⟩
     refine val_cons ?_ (fun v8 => ?_)
     ·intro L vs w1 hvs hat hb hI hF; try simp [factsI, Region.binds, Is] at hF
      have hc := (Grows.cells hb).1
      clear hI
      go_simp
      try simp [upd]
      try first | exact Grows.refl _ | exact trivial | exact ⟨Grows.refl _, trivial⟩
     refine val_nil ?_
     intro vs w1 hvs hb hI hF
     simp [Is, Nat.forall_lt_succ_right] at hF
     simp only [Act.put, List.setIfInBounds_toArray, List.set_cons_succ, List.set_cons_zero, hF]
     clear hF
     have hbB : Below wB0.heap.size wB0 w1 := hb
     have HK0 := Lib.hid (And.intro (HK.out.1.grow hbB) (And.intro (HK.out.2.1.mono hbB) (bel_trans HK.out.2.2 hbB)))
     clear hb hvs hbB
     cases q0 with
     | false =>
      go_wp2_with fail
      obtain ⟨wB1, hwB⟩ : ∃ x, x = w1 := ⟨_, rfl⟩
      rw [← hwB] at HK0 ⊢
      clear hwB
      refine wp_region_val Grows (fun _ _ _ => True) [Is (solV s), Is (.slice (some ⟨b1, o1, none⟩) n c9), Is (.int .i64 (i : Nat)), Is (.pointer (some ⟨b1, o1 + i * 3, none⟩)), Is (clV (c0, c1, c2)), Is (.int .i64 (1)), Is (clV (addC (c0, c1, c2) (0, 1, 0))), Is (.bool q1), Is (.bool (!q1))] (by kernel_rfl) (by kernel_rfl) rfl Grows.refl (fun _ _ _ => Grows.trans) (stable_mem ⟨fun _ _ _ h _ => h, fun _ _ _ h _ => h, fun _ _ _ h _ => h, fun _ _ _ h _ => h, fun _ _ _ h _ => h, fun _ _ _ h _ => h, fun _ _ _ h _ => h, fun _ _ _ h _ => h, fun _ _ _ h _ => h, trivial⟩) wB1 (Below.drew (Below.refl _ _)) trivial ?_
      refine val_cons ?_ (fun v0 => ?_)
      ·intro L vs w1 hvs hat hb hI hF; try simp [factsI, Region.binds, Is] at hF
       have D := (HK0.out.1).grow (show Below _ _ _ from hb); have cD := D.cell; have lD := D.lt; clear D
       go_simp
       first | exact Grows.refl _ | exact ⟨Grows.refl _, trivial⟩
      refine val_cons ?_ (fun v1 => ?_)
      ·intro L vs w1 hvs hat hb hI hF; try simp [factsI, Region.binds, Is] at hF
       have hc := (Grows.cells hb).1
       clear hI
       go_simp
       try simp [upd]
       try first | exact Grows.refl _ | exact trivial | exact ⟨Grows.refl _, trivial⟩
      refine val_cons ?_ (fun v2 => ?_)
      ·intro L vs w1 hvs hat hb hI hF; try simp [factsI, Region.binds, Is] at hF
       have hc := (Grows.cells hb).1
       clear hI
       go_simp
       try simp [upd]
       try first | exact Grows.refl _ | exact trivial | exact ⟨Grows.refl _, trivial⟩
      refine val_cons ?_ (fun v3 => ?_)
      ·intro L vs w1 hvs hat hb hI hF; try simp [factsI, Region.binds, Is] at hF
       have hc := (Grows.cells hb).1
       clear hI
       go_simp
       try simp [upd]
       try first | exact Grows.refl _ | exact trivial | exact ⟨Grows.refl _, trivial⟩
      refine val_cons ?_ (fun v4 => ?_)
      ·intro L vs w1 hvs hat hb hI hF; try simp [factsI, Region.binds, Is] at hF
       obtain ⟨b', off', h1', hCs, _⟩ := (HK0.out.2.1.mono (show Below _ _ _ from hb)).at HX.out
       cases h1'
       obtain ⟨z0, z1, z2⟩ := cl_cells hCs HX.out
       have lz := hCs.1
       clear hCs
       go_simp
       first | exact Grows.refl _ | exact ⟨Grows.refl _, trivial⟩
      refine val_cons ?_ (fun v5 => ?_)
      ·intro L vs w1 hvs hat hb hI hF; try simp [factsI, Region.binds, Is] at hF
       have hc := (Grows.cells hb).1
       clear hI
       go_simp
       try simp [upd]
       try first | exact Grows.refl _ | exact trivial | exact ⟨Grows.refl _, trivial⟩
      refine val_cons ?_ (fun v6 => ?_)
      ·intro L vs w1 hvs hat hb hI hF; try simp [factsI, Region.binds, Is] at hF
       have hb0 := hb
       go_simp
       refine (HV1.out _).mono ?_
       rintro e w2 ⟨rfl, hb2⟩
       first | exact ⟨rfl, hb2⟩ | exact ⟨_, rfl, hb2, trivial, rfl⟩ | exact ⟨_, rfl, hb2, rfl⟩
      refine val_cons ?_ (fun v7 => ?_)
      ·intro L vs w1 hvs hat hb hI hF; try simp [factsI, Region.binds, Is] at hF
       have hb0 := hb
       go_simp
       refine (HH1.out _).mono ?_
       rintro e w2 ⟨rfl, hb2⟩
       first | exact ⟨rfl, hb2⟩ | exact ⟨_, rfl, hb2, trivial, rfl⟩ | exact ⟨_, rfl, hb2, rfl⟩
      refine val_cons ?_ (fun v8 => ?_)
      ·intro L vs w1 hvs hat hb hI hF; try simp [factsI, Region.binds, Is] at hF
       have hc := (Grows.cells hb).1
       clear hI
       go_simp
       try simp [upd]
       try first | exact Grows.refl _ | exact trivial | exact ⟨Grows.refl _, trivial⟩
      refine val_nil ?_
      intro vs w1 hvs hb hI hF
      simp [Is, Nat.forall_lt_succ_right] at hF
      simp only [Act.put, List.setIfInBounds_toArray, List.set_cons_succ, List.set_cons_zero, hF]
      clear hF
      have hbB : Below wB1.heap.size wB1 w1 := hb
      have HK1 := Lib.hid (And.intro (HK0.out.1.grow hbB) (And.intro (HK0.out.2.1.mono hbB) (bel_trans HK0.out.2.2 hbB)))
      clear hb hvs hbB
      cases q1 with
      | false =>
       go_wp2_with fail
       obtain ⟨wB2, hwB⟩ : ∃ x, x = w1 := ⟨_, rfl⟩
       rw [← hwB] at HK1 ⊢
       clear hwB
       refine wp_region_val Grows (fun _ _ _ => True) [Is (solV s), Is (.slice (some ⟨b1, o1, none⟩) n c9), Is (.int .i64 (i : Nat)), Is (.pointer (some ⟨b1, o1 + i * 3, none⟩)), Is (clV (c0, c1, c2)), Is (.int .i64 (1)), Is (clV (addC (c0, c1, c2) (0, 0, 1))), Is (.bool q2), Is (.bool (!q2))] (by kernel_rfl) (by kernel_rfl) rfl Grows.refl (fun _ _ _ => Grows.trans) (stable_mem ⟨fun _ _ _ h _ => h, fun _ _ _ h _ => h, fun _ _ _ h _ => h, fun _ _ _ h _ => h, fun _ _ _ h _ => h, fun _ _ _ h _ => h, fun _ _ _ h _ => h, fun _ _ _ h _ => h, fun _ _ _ h _ => h, trivial⟩) wB2 (Below.drew (Below.refl _ _)) trivial ?_
       refine val_cons ?_ (fun v0 => ?_)
       ·intro L vs w1 hvs hat hb hI hF; try simp [factsI, Region.binds, Is] at hF
        have D := (HK1.out.1).grow (show Below _ _ _ from hb); have cD := D.cell; have lD := D.lt; clear D
        go_simp
        first | exact Grows.refl _ | exact ⟨Grows.refl _, trivial⟩
       refine val_cons ?_ (fun v1 => ?_)
       ·intro L vs w1 hvs hat hb hI hF; try simp [factsI, Region.binds, Is] at hF
        have hc := (Grows.cells hb).1
        clear hI
        go_simp
        try simp [upd]
        try first | exact Grows.refl _ | exact trivial | exact ⟨Grows.refl _, trivial⟩
       refine val_cons ?_ (fun v2 => ?_)
       ·intro L vs w1 hvs hat hb hI hF; try simp [factsI, Region.binds, Is] at hF
        have hc := (Grows.cells hb).1
        clear hI
        go_simp
        try simp [upd]
        try first | exact Grows.refl _ | exact trivial | exact ⟨Grows.refl _, trivial⟩
       refine val_cons ?_ (fun v3 => ?_)
       ·intro L vs w1 hvs hat hb hI hF; try simp [factsI, Region.binds, Is] at hF
        have hc := (Grows.cells hb).1
        clear hI
        go_simp
        try simp [upd]
        try first | exact Grows.refl _ | exact trivial | exact ⟨Grows.refl _, trivial⟩
       refine val_cons ?_ (fun v4 => ?_)
       ·intro L vs w1 hvs hat hb hI hF; try simp [factsI, Region.binds, Is] at hF
        obtain ⟨b', off', h1', hCs, _⟩ := (HK1.out.2.1.mono (show Below _ _ _ from hb)).at HX.out
        cases h1'
        obtain ⟨z0, z1, z2⟩ := cl_cells hCs HX.out
        have lz := hCs.1
        clear hCs
        go_simp
        first | exact Grows.refl _ | exact ⟨Grows.refl _, trivial⟩
       refine val_cons ?_ (fun v5 => ?_)
       ·intro L vs w1 hvs hat hb hI hF; try simp [factsI, Region.binds, Is] at hF
        have hc := (Grows.cells hb).1
        clear hI
        go_simp
        try simp [upd]
        try first | exact Grows.refl _ | exact trivial | exact ⟨Grows.refl _, trivial⟩
       refine val_cons ?_ (fun v6 => ?_)
       ·intro L vs w1 hvs hat hb hI hF; try simp [factsI, Region.binds, Is] at hF
        have hb0 := hb
        go_simp
        refine (HV2.out _).mono ?_
        rintro e w2 ⟨rfl, hb2⟩
        first | exact ⟨rfl, hb2⟩ | exact ⟨_, rfl, hb2, trivial, rfl⟩ | exact ⟨_, rfl, hb2, rfl⟩
       refine val_cons ?_ (fun v7 => ?_)
       ·intro L vs w1 hvs hat hb hI hF; try simp [factsI, Region.binds, Is] at hF
        have hb0 := hb
        go_simp
        refine (HH2.out _).mono ?_
        rintro e w2 ⟨rfl, hb2⟩
        first | exact ⟨rfl, hb2⟩ | exact ⟨_, rfl, hb2, trivial, rfl⟩ | exact ⟨_, rfl, hb2, rfl⟩
       refine val_cons ?_ (fun v8 => ?_)
       ·intro L vs w1 hvs hat hb hI hF; try simp [factsI, Region.binds, Is] at hF
        have hc := (Grows.cells hb).1
        clear hI
        go_simp
        try simp [upd]
        try first | exact Grows.refl _ | exact trivial | exact ⟨Grows.refl _, trivial⟩
       refine val_nil ?_
       intro vs w1 hvs hb hI hF
       simp [Is, Nat.forall_lt_succ_right] at hF
       simp only [Act.put, List.setIfInBounds_toArray, List.set_cons_succ, List.set_cons_zero, hF]
       clear hF
       have hbB : Below wB2.heap.size wB2 w1 := hb
       have HK2 := Lib.hid (And.intro (HK1.out.1.grow hbB) (And.intro (HK1.out.2.1.mono hbB) (bel_trans HK1.out.2.2 hbB)))
       clear hb hvs hbB
       cases q2 with
       | false =>
        have HV9 : Hid (bareJ s (c0, c1, c2) 2 = bareJ s (c0, c1, c2) 1 + 3) := Lib.hid (by rw [HJJ.out]; rfl)
        go_wp2_with fail
        go_roundw
        case rel => exact ⟨2, by omega, by rfl, by rw [HV9.out, ← Nat.add_assoc, ← HB9.out]; first | rfl | go_num | (simp; done), HK2⟩
        case measure => simp [intOf]
       | true =>
        have HV9 : Hid (bareJ s (c0, c1, c2) 2 = bareJ s (c0, c1, c2) 1 + 2) := Lib.hid (by rw [HJJ.out]; rfl)
        go_wp2_with fail
        go_roundw
        case rel => exact ⟨2, by omega, by rfl, by rw [HV9.out, ← Nat.add_assoc, ← HB9.out]; first | rfl | go_num | (simp; done), HK2⟩
        case measure => simp [intOf]
      | true =>
       go_wp2_with fail
       obtain ⟨wB2, hwB⟩ : ∃ x, x = w1 := ⟨_, rfl⟩
       rw [← hwB] at HK1 ⊢
       clear hwB
       refine wp_region_val Grows (fun _ _ _ => True) [Is (solV s), Is (.slice (some ⟨b1, o1, none⟩) n c9), Is (.int .i64 (i : Nat)), Is (.pointer (some ⟨b1, o1 + i * 3, none⟩)), Is (clV (c0, c1, c2)), Is (.int .i64 (1)), Is (clV (addC (c0, c1, c2) (0, 0, 1))), Is (.bool q2), Is (.bool (!q2))] (by kernel_rfl) (by kernel_rfl) rfl Grows.refl (fun _ _ _ => Grows.trans) (stable_mem ⟨fun _ _ _ h _ => h, fun _ _ _ h _ => h, fun _ _ _ h _ => h, fun _ _ _ h _ => h, fun _ _ _ h _ => h, fun _ _ _ h _ => h, fun _ _ _ h _ => h, fun _ _ _ h _ => h, fun _ _ _ h _ => h, trivial⟩) wB2 (Below.drew (Below.refl _ _)) trivial ?_
       refine val_cons ?_ (fun v0 => ?_)
       ·intro L vs w1 hvs hat hb hI hF; try simp [factsI, Region.binds, Is] at hF
        have D := (HK1.out.1).grow (show Below _ _ _ from hb); have cD := D.cell; have lD := D.lt; clear D
        go_simp
        first | exact Grows.refl _ | exact ⟨Grows.refl _, trivial⟩
       refine val_cons ?_ (fun v1 => ?_)
       ·intro L vs w1 hvs hat hb hI hF; try simp [factsI, Region.binds, Is] at hF
        have hc := (Grows.cells hb).1
        clear hI
        go_simp
        try simp [upd]
        try first | exact Grows.refl _ | exact trivial | exact ⟨Grows.refl _, trivial⟩
       refine val_cons ?_ (fun v2 => ?_)
       ·intro L vs w1 hvs hat hb hI hF; try simp [factsI, Region.binds, Is] at hF
        have hc := (Grows.cells hb).1
        clear hI
        go_simp
        try simp [upd]
        try first | exact Grows.refl _ | exact trivial | exact ⟨Grows.refl _, trivial⟩
       refine val_cons ?_ (fun v3 => ?_)
       ·intro L vs w1 hvs hat hb hI hF; try simp [factsI, Region.binds, Is] at hF
        have hc := (Grows.cells hb).1
        clear hI
        go_simp
        try simp [upd]
        try first | exact Grows.refl _ | exact trivial | exact ⟨Grows.refl _, trivial⟩
       refine val_cons ?_ (fun v4 => ?_)
       ·intro L vs w1 hvs hat hb hI hF; try simp [factsI, Region.binds, Is] at hF
        obtain ⟨b', off', h1', hCs, _⟩ := (HK1.out.2.1.mono (show Below _ _ _ from hb)).at HX.out
        cases h1'
        obtain ⟨z0, z1, z2⟩ := cl_cells hCs HX.out
        have lz := hCs.1
        clear hCs
        go_simp
        first | exact Grows.refl _ | exact ⟨Grows.refl _, trivial⟩
       refine val_cons ?_ (fun v5 => ?_)
       ·intro L vs w1 hvs hat hb hI hF; try simp [factsI, Region.binds, Is] at hF
        have hc := (Grows.cells hb).1
        clear hI
        go_simp
        try simp [upd]
        try first | exact Grows.refl _ | exact trivial | exact ⟨Grows.refl _, trivial⟩
       refine val_cons ?_ (fun v6 => ?_)
       ·intro L vs w1 hvs hat hb hI hF; try simp [factsI, Region.binds, Is] at hF
        have hb0 := hb
        go_simp
        refine (HV2.out _).mono ?_
        rintro e w2 ⟨rfl, hb2⟩
        first | exact ⟨rfl, hb2⟩ | exact ⟨_, rfl, hb2, trivial, rfl⟩ | exact ⟨_, rfl, hb2, rfl⟩
       refine val_cons ?_ (fun v7 => ?_)
       ·intro L vs w1 hvs hat hb hI hF; try simp [factsI, Region.binds, Is] at hF
        have hb0 := hb
        go_simp
        refine (HH2.out _).mono ?_
        rintro e w2 ⟨rfl, hb2⟩
        first | exact ⟨rfl, hb2⟩ | exact ⟨_, rfl, hb2, trivial, rfl⟩ | exact ⟨_, rfl, hb2, rfl⟩
       refine val_cons ?_ (fun v8 => ?_)
       ·intro L vs w1 hvs hat hb hI hF; try simp [factsI, Region.binds, Is] at hF
        have hc := (Grows.cells hb).1
        clear hI
        go_simp
        try simp [upd]
        try first | exact Grows.refl _ | exact trivial | exact ⟨Grows.refl _, trivial⟩
       refine val_nil ?_
       intro vs w1 hvs hb hI hF
       simp [Is, Nat.forall_lt_succ_right] at hF
       simp only [Act.put, List.setIfInBounds_toArray, List.set_cons_succ, List.set_cons_zero, hF]
       clear hF
       have hbB : Below wB2.heap.size wB2 w1 := hb
       have HK2 := Lib.hid (And.intro (HK1.out.1.grow hbB) (And.intro (HK1.out.2.1.mono hbB) (bel_trans HK1.out.2.2 hbB)))
       clear hb hvs hbB
       cases q2 with
       | false =>
        have HV9 : Hid (bareJ s (c0, c1, c2) 2 = bareJ s (c0, c1, c2) 1 + 2) := Lib.hid (by rw [HJJ.out]; rfl)
        go_wp2_with fail
        go_roundw
        case rel => exact ⟨2, by omega, by rfl, by rw [HV9.out, ← Nat.add_assoc, ← HB9.out]; first | rfl | go_num | (simp; done), HK2⟩
        case measure => simp [intOf]
       | true =>
        have HV9 : Hid (bareJ s (c0, c1, c2) 2 = bareJ s (c0, c1, c2) 1 + 1) := Lib.hid (by rw [HJJ.out]; rfl)
        go_wp2_with fail
        go_roundw
        case rel => exact ⟨2, by omega, by rfl, by rw [HV9.out, ← Nat.add_assoc, ← HB9.out]; first | rfl | go_num | (simp; done), HK2⟩
        case measure => simp [intOf]
     | true =>
      go_wp2_with fail
      obtain ⟨wB1, hwB⟩ : ∃ x, x = w1 := ⟨_, rfl⟩
      rw [← hwB] at HK0 ⊢
      clear hwB
      refine wp_region_val Grows (fun _ _ _ => True) [Is (solV s), Is (.slice (some ⟨b1, o1, none⟩) n c9), Is (.int .i64 (i : Nat)), Is (.pointer (some ⟨b1, o1 + i * 3, none⟩)), Is (clV (c0, c1, c2)), Is (.int .i64 (1)), Is (clV (addC (c0, c1, c2) (0, 1, 0))), Is (.bool q1), Is (.bool (!q1))] (by kernel_rfl) (by kernel_rfl) rfl Grows.refl (fun _ _ _ => Grows.trans) (stable_mem ⟨fun _ _ _ h _ => h, fun _ _ _ h _ => h, fun _ _ _ h _ => h, fun _ _ _ h _ => h, fun _ _ _ h _ => h, fun _ _ _ h _ => h, fun _ _ _ h _ => h, fun _ _ _ h _ => h, fun _ _ _ h _ => h, trivial⟩) wB1 (Below.drew (Below.refl _ _)) trivial ?_
      refine val_cons ?_ (fun v0 => ?_)
      ·intro L vs w1 hvs hat hb hI hF; try simp [factsI, Region.binds, Is] at hF
       have D := (HK0.out.1).grow (show Below _ _ _ from hb); have cD := D.cell; have lD := D.lt; clear D
       go_simp
       first | exact Grows.refl _ | exact ⟨Grows.refl _, trivial⟩
      refine val_cons ?_ (fun v1 => ?_)
      ·intro L vs w1 hvs hat hb hI hF; try simp [factsI, Region.binds, Is] at hF
       have hc := (Grows.cells hb).1
       clear hI
       go_simp
       try simp [upd]
       try first | exact Grows.refl _ | exact trivial | exact ⟨Grows.refl _, trivial⟩
      refine val_cons ?_ (fun v2 => ?_)
      ·intro L vs w1 hvs hat hb hI hF; try simp [factsI, Region.binds, Is] at hF
       have hc := (Grows.cells hb).1
       clear hI
       go_simp
       try simp [upd]
       try first | exact Grows.refl _ | exact trivial | exact ⟨Grows.refl _, trivial⟩
      refine val_cons ?_ (fun v3 => ?_)
      ·intro L vs w1 hvs hat hb hI hF; try simp [factsI, Region.binds, Is] at hF
       have hc := (Grows.cells hb).1
       clear hI
       go_simp
       try simp [upd]
       try first | exact Grows.refl _ | exact trivial | exact ⟨Grows.refl _, trivial⟩
      refine val_cons ?_ (fun v4 => ?_)
      ·intro L vs w1 hvs hat hb hI hF; try simp [factsI, Region.binds, Is] at hF
       obtain ⟨b', off', h1', hCs, _⟩ := (HK0.out.2.1.mono (show Below _ _ _ from hb)).at HX.out
       cases h1'
       obtain ⟨z0, z1, z2⟩ := cl_cells hCs HX.out
       have lz := hCs.1
       clear hCs
       go_simp
       first | exact Grows.refl _ | exact ⟨Grows.refl _, trivial⟩
      refine val_cons ?_ (fun v5 => ?_)
      ·intro L vs w1 hvs hat hb hI hF; try simp [factsI, Region.binds, Is] at hF
       have hc := (Grows.cells hb).1
       clear hI
       go_simp
       try simp [upd]
       try first | exact Grows.refl _ | exact trivial | exact ⟨Grows.refl _, trivial⟩
      refine val_cons ?_ (fun v6 => ?_)
      ·intro L vs w1 hvs hat hb hI hF; try simp [factsI, Region.binds, Is] at hF
       have hb0 := hb
       go_simp
       refine (HV1.out _).mono ?_
       rintro e w2 ⟨rfl, hb2⟩
       first | exact ⟨rfl, hb2⟩ | exact ⟨_, rfl, hb2, trivial, rfl⟩ | exact ⟨_, rfl, hb2, rfl⟩
      refine val_cons ?_ (fun v7 => ?_)
      ·intro L vs w1 hvs hat hb hI hF; try simp [factsI, Region.binds, Is] at hF
       have hb0 := hb
       go_simp
       refine (HH1.out _).mono ?_
       rintro e w2 ⟨rfl, hb2⟩
       first | exact ⟨rfl, hb2⟩ | exact ⟨_, rfl, hb2, trivial, rfl⟩ | exact ⟨_, rfl, hb2, rfl⟩
      refine val_cons ?_ (fun v8 => ?_)
      ·intro L vs w1 hvs hat hb hI hF; try simp [factsI, Region.binds, Is] at hF
       have hc := (Grows.cells hb).1
       clear hI
       go_simp
       try simp [upd]
       try first | exact Grows.refl _ | exact trivial | exact ⟨Grows.refl _, trivial⟩
      refine val_nil ?_
      intro vs w1 hvs hb hI hF
      simp [Is, Nat.forall_lt_succ_right] at hF
      simp only [Act.put, List.setIfInBounds_toArray, List.set_cons_succ, List.set_cons_zero, hF]
      clear hF
      have hbB : Below wB1.heap.size wB1 w1 := hb
      have HK1 := Lib.hid (And.intro (HK0.out.1.grow hbB) (And.intro (HK0.out.2.1.mono hbB) (bel_trans HK0.out.2.2 hbB)))
      clear hb hvs hbB
      cases q1 with
      | false =>
       go_wp2_with fail
       obtain ⟨wB2, hwB⟩ : ∃ x, x = w1 := ⟨_, rfl⟩
       rw [← hwB] at HK1 ⊢
       clear hwB
       refine wp_region_val Grows (fun _ _ _ => True) [Is (solV s), Is (.slice (some ⟨b1, o1, none⟩) n c9), Is (.int .i64 (i : Nat)), Is (.pointer (some ⟨b1, o1 + i * 3, none⟩)), Is (clV (c0, c1, c2)), Is (.int .i64 (1)), Is (clV (addC (c0, c1, c2) (0, 0, 1))), Is (.bool q2), Is (.bool (!q2))] (by kernel_rfl) (by kernel_rfl) rfl Grows.refl (fun _ _ _ => Grows.trans) (stable_mem ⟨fun _ _ _ h _ => h, fun _ _ _ h _ => h, fun _ _ _ h _ => h, fun _ _ _ h _ => h, fun _ _ _ h _ => h, fun _ _ _ h _ => h, fun _ _ _ h _ => h, fun _ _ _ h _ => h, fun _ _ _ h _ => h, trivial⟩) wB2 (Below.drew (Below.refl _ _)) trivial ?_
       refine val_cons ?_ (fun v0 => ?_)
       ·intro L vs w1 hvs hat hb hI hF; try simp [factsI, Region.binds, Is] at hF
        have D := (HK1.out.1).grow (show Below _ _ _ from hb); have cD := D.cell; have lD := D.lt; clear D
        go_simp
        first | exact Grows.refl _ | exact ⟨Grows.refl _, trivial⟩
       refine val_cons ?_ (fun v1 => ?_)
       ·intro L vs w1 hvs hat hb hI hF; try simp [factsI, Region.binds, Is] at hF
        have hc := (Grows.cells hb).1
        clear hI
        go_simp
        try simp [upd]
        try first | exact Grows.refl _ | exact trivial | exact ⟨Grows.refl _, trivial⟩
       refine val_cons ?_ (fun v2 => ?_)
       ·intro L vs w1 hvs hat hb hI hF; try simp [factsI, Region.binds, Is] at hF
        have hc := (Grows.cells hb).1
        clear hI
        go_simp
        try simp [upd]
        try first | exact Grows.refl _ | exact trivial | exact ⟨Grows.refl _, trivial⟩
       refine val_cons ?_ (fun v3 => ?_)
       ·intro L vs w1 hvs hat hb hI hF; try simp [factsI, Region.binds, Is] at hF
        have hc := (Grows.cells hb).1
        clear hI
        go_simp
        try simp [upd]
        try first | exact Grows.refl _ | exact trivial | exact ⟨Grows.refl _, trivial⟩
       refine val_cons ?_ (fun v4 => ?_)
       ·intro L vs w1 hvs hat hb hI hF; try simp [factsI, Region.binds, Is] at hF
        obtain ⟨b', off', h1', hCs, _⟩ := (HK1.out.2.1.mono (show Below _ _ _ from hb)).at HX.out
        cases h1'
        obtain ⟨z0, z1, z2⟩ := cl_cells hCs HX.out
        have lz := hCs.1
        clear hCs
        go_simp
        first | exact Grows.refl _ | exact ⟨Grows.refl _, trivial⟩
       refine val_cons ?_ (fun v5 => ?_)
       ·intro L vs w1 hvs hat hb hI hF; try simp [factsI, Region.binds, Is] at hF
        have hc := (Grows.cells hb).1
        clear hI
        go_simp
        try simp [upd]
        try first | exact Grows.refl _ | exact trivial | exact ⟨Grows.refl _, trivial⟩
       refine val_cons ?_ (fun v6 => ?_)
       ·intro L vs w1 hvs hat hb hI hF; try simp [factsI, Region.binds, Is] at hF
        have hb0 := hb
        go_simp
        refine (HV2.out _).mono ?_
        rintro e w2 ⟨rfl, hb2⟩
        first | exact ⟨rfl, hb2⟩ | exact ⟨_, rfl, hb2, trivial, rfl⟩ | exact ⟨_, rfl, hb2, rfl⟩
       refine val_cons ?_ (fun v7 => ?_)
       ·intro L vs w1 hvs hat hb hI hF; try simp [factsI, Region.binds, Is] at hF
        have hb0 := hb
        go_simp
        refine (HH2.out _).mono ?_
        rintro e w2 ⟨rfl, hb2⟩
        first | exact ⟨rfl, hb2⟩ | exact ⟨_, rfl, hb2, trivial, rfl⟩ | exact ⟨_, rfl, hb2, rfl⟩
       refine val_cons ?_ (fun v8 => ?_)
       ·intro L vs w1 hvs hat hb hI hF; try simp [factsI, Region.binds, Is] at hF
        have hc := (Grows.cells hb).1
        clear hI
        go_simp
        try simp [upd]
        try first | exact Grows.refl _ | exact trivial | exact ⟨Grows.refl _, trivial⟩
       refine val_nil ?_
       intro vs w1 hvs hb hI hF
       simp [Is, Nat.forall_lt_succ_right] at hF
       simp only [Act.put, List.setIfInBounds_toArray, List.set_cons_succ, List.set_cons_zero, hF]
       clear hF
       have hbB : Below wB2.heap.size wB2 w1 := hb
       have HK2 := Lib.hid (And.intro (HK1.out.1.grow hbB) (And.intro (HK1.out.2.1.mono hbB) (bel_trans HK1.out.2.2 hbB)))
       clear hb hvs hbB
       cases q2 with
       | false =>
        have HV9 : Hid (bareJ s (c0, c1, c2) 2 = bareJ s (c0, c1, c2) 1 + 2) := Lib.hid (by rw [HJJ.out]; rfl)
        go_wp2_with fail
        go_roundw
        case rel => exact ⟨2, by omega, by rfl, by rw [HV9.out, ← Nat.add_assoc, ← HB9.out]; first | rfl | go_num | (simp; done), HK2⟩
        case measure => simp [intOf]
       | true =>
        have HV9 : Hid (bareJ s (c0, c1, c2) 2 = bareJ s (c0, c1, c2) 1 + 1) := Lib.hid (by rw [HJJ.out]; rfl)
        go_wp2_with fail
        go_roundw
        case rel => exact ⟨2, by omega, by rfl, by rw [HV9.out, ← Nat.add_assoc, ← HB9.out]; first | rfl | go_num | (simp; done), HK2⟩
        case measure => simp [intOf]
      | true =>
       go_wp2_with fail
       obtain ⟨wB2, hwB⟩ : ∃ x, x = w1 := ⟨_, rfl⟩
       rw [← hwB] at HK1 ⊢
       clear hwB
       refine wp_region_val Grows (fun _ _ _ => True) [Is (solV s), Is (.slice (some ⟨b1, o1, none⟩) n c9), Is (.int .i64 (i : Nat)), Is (.pointer (some ⟨b1, o1 + i * 3, none⟩)), Is (clV (c0, c1, c2)), Is (.int .i64 (1)), Is (clV (addC (c0, c1, c2) (0, 0, 1))), Is (.bool q2), Is (.bool (!q2))] (by kernel_rfl) (by kernel_rfl) rfl Grows.refl (fun _ _ _ => Grows.trans) (stable_mem ⟨fun _ _ _ h _ => h, fun _ _ _ h _ => h, fun _ _ _ h _ => h, fun _ _ _ h _ => h, fun _ _ _ h _ => h, fun _ _ _ h _ => h, fun _ _ _ h _ => h, fun _ _ _ h _ => h, fun _ _ _ h _ => h, trivial⟩) wB2 (Below.drew (Below.refl _ _)) trivial ?_
       refine val_cons ?_ (fun v0 => ?_)
       ·intro L vs w1 hvs hat hb hI hF; try simp [factsI, Region.binds, Is] at hF
        have D := (HK1.out.1).grow (show Below _ _ _ from hb); have cD := D.cell; have lD := D.lt; clear D
        go_simp
        first | exact Grows.refl _ | exact ⟨Grows.refl _, trivial⟩
       refine val_cons ?_ (fun v1 => ?_)
       ·intro L vs w1 hvs hat hb hI hF; try simp [factsI, Region.binds, Is] at hF
        have hc := (Grows.cells hb).1
        clear hI
        go_simp
        try simp [upd]
        try first | exact Grows.refl _ | exact trivial | exact ⟨Grows.refl _, trivial⟩
       refine val_cons ?_ (fun v2 => ?_)
       ·intro L vs w1 hvs hat hb hI hF; try simp [factsI, Region.binds, Is] at hF
        have hc := (Grows.cells hb).1
        clear hI
        go_simp
        try simp [upd]
        try first | exact Grows.refl _ | exact trivial | exact ⟨Grows.refl _, trivial⟩
       refine val_cons ?_ (fun v3 => ?_)
       ·intro L vs w1 hvs hat hb hI hF; try simp [factsI, Region.binds, Is] at hF
        have hc := (Grows.cells hb).1
        clear hI
        go_simp
        try simp [upd]
        try first | exact Grows.refl _ | exact trivial | exact ⟨Grows.refl _, trivial⟩
       refine val_cons ?_ (fun v4 => ?_)
       ·intro L vs w1 hvs hat hb hI hF; try simp [factsI, Region.binds, Is] at hF
        obtain ⟨b', off', h1', hCs, _⟩ := (HK1.out.2.1.mono (show Below _ _ _ from hb)).at HX.out
        cases h1'
        obtain ⟨z0, z1, z2⟩ := cl_cells hCs HX.out
        have lz := hCs.1
        clear hCs
        go_simp
        first | exact Grows.refl _ | exact ⟨Grows.refl _, trivial⟩
       refine val_cons ?_ (fun v5 => ?_)
       ·intro L vs w1 hvs hat hb hI hF; try simp [factsI, Region.binds, Is] at hF
        have hc := (Grows.cells hb).1
        clear hI
        go_simp
        try simp [upd]
        try first | exact Grows.refl _ | exact trivial | exact ⟨Grows.refl _, trivial⟩
       refine val_cons ?_ (fun v6 => ?_)
       ·intro L vs w1 hvs hat hb hI hF; try simp [factsI, Region.binds, Is] at hF
        have hb0 := hb
        go_simp
        refine (HV2.out _).mono ?_
        rintro e w2 ⟨rfl, hb2⟩
        first | exact ⟨rfl, hb2⟩ | exact ⟨_, rfl, hb2, trivial, rfl⟩ | exact ⟨_, rfl, hb2, rfl⟩
       refine val_cons ?_ (fun v7 => ?_)
       ·intro L vs w1 hvs hat hb hI hF; try simp [factsI, Region.binds, Is] at hF
        have hb0 := hb
        go_simp
        refine (HH2.out _).mono ?_
        rintro e w2 ⟨rfl, hb2⟩
        first | exact ⟨rfl, hb2⟩ | exact ⟨_, rfl, hb2, trivial, rfl⟩ | exact ⟨_, rfl, hb2, rfl⟩
       refine val_cons ?_ (fun v8 => ?_)
       ·intro L vs w1 hvs hat hb hI hF; try simp [factsI, Region.binds, Is] at hF
        have hc := (Grows.cells hb).1
        clear hI
        go_simp
        try simp [upd]
        try first | exact Grows.refl _ | exact trivial | exact ⟨Grows.refl _, trivial⟩
       refine val_nil ?_
       intro vs w1 hvs hb hI hF
       simp [Is, Nat.forall_lt_succ_right] at hF
       simp only [Act.put, List.setIfInBounds_toArray, List.set_cons_succ, List.set_cons_zero, hF]
       clear hF
       have hbB : Below wB2.heap.size wB2 w1 := hb
       have HK2 := Lib.hid (And.intro (HK1.out.1.grow hbB) (And.intro (HK1.out.2.1.mono hbB) (bel_trans HK1.out.2.2 hbB)))
       clear hb hvs hbB
       cases q2 with
       | false =>
        have HV9 : Hid (bareJ s (c0, c1, c2) 2 = bareJ s (c0, c1, c2) 1 + 1) := Lib.hid (by rw [HJJ.out]; rfl)
        go_wp2_with fail
        go_roundw
        case rel => exact ⟨2, by omega, by rfl, by rw [HV9.out, ← Nat.add_assoc, ← HB9.out]; first | rfl | go_num | (simp; done), HK2⟩
        case measure => simp [intOf]
       | true =>
        have HV9 : Hid (bareJ s (c0, c1, c2) 2 = bareJ s (c0, c1, c2) 1 + 0) := Lib.hid (by rw [HJJ.out]; rfl)
        go_wp2_with fail
        go_roundw
        case rel => exact ⟨2, by omega, by rfl, by rw [HV9.out, ← Nat.add_assoc, ← HB9.out]; first | rfl | go_num | (simp; done), HK2⟩
        case measure => simp [intOf]
    ·go_wp2_with fail
     go_roundw
     case rel => exact ⟨i + 1, by omega, by go_num, by rw [HSS.out, HR1.out.2], HK⟩
     case measure => simp [intOf]; omega
  ·obtain rfl : i = n := by omega
   go_wp2_with fail
   go_ret
   exact ⟨ret_int (by rw [HE.out]), HM.out.2.2⟩
end Go.Proofs.YtkfimbonmnoglaaGreatDoor
end
