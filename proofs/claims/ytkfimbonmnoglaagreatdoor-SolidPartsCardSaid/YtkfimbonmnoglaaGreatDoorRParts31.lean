import Derived.Test.YtkfimbonmnoglaaGreatDoorRParts30
import Derived.Deep.Cut
/-
  Given contracts of functions of the program, and laws for them, one behind the other.
-/
set_option linter.unusedVariables false
set_option linter.unusedSimpArgs false
set_option linter.unusedSectionVars false
section
namespace Go.Proofs.YtkfimbonmnoglaaGreatDoor
open Go.RowKit Go.Rel Go.Draw Go.Solid
set_option maxRecDepth 100000
attribute [local go_sem] Oper.semAt_some
theorem parts_len (s : Sol) (w : World) (hT : Tab w) : Calls Tryz.prog 37 #[solV s] w fun e w' => (∃ p c, e = .returned (.slice p (partsS s).length c)) ∧ Below w.heap.size w w' := (parts_open s w hT).mono fun e w' he => by
 obtain ⟨⟨a, c, h1, _⟩, h3⟩ := he
 exact ⟨⟨a, c, h1⟩, h3⟩
def IsLq (n : Nat) : Value → World → Prop := fun v _ => ∃ p c, v = .slice p n c
set_option maxHeartbeats 16000000 in
theorem SolidParts_walk (s : Sol) (w : World) (hT : Tab w) (hC : ∀ W, Below w.heap.size w W → Calls Tryz.prog 25 #[] W fun e w' => e = .returned (.bool true) ∧ Below W.heap.size W w') :
  Calls Tryz.prog 10 #[solV s] w fun e w' => e = .returned (.bool true) ∧ Below w.heap.size w w' := by
 have HT := Lib.hid (fun W (hb : Below w.heap.size w W) => hT.grow hb)
 have HC := Lib.hid hC
 clear hT hC
 have HP := Lib.hid fun W (hb : Below w.heap.size w W) => parts_open s W (HT.out W hb)
 have HPl := Lib.hid fun (x : Sol) W (hb : Below w.heap.size w W) => parts_len x W (HT.out W hb)
 have HEu := Lib.hid fun (x : Sol) W (hb : Below w.heap.size w W) => euler_spec (w := W) x (HT.out W hb)
 have HSk := Lib.hid fun (x : Sol) W (hb : Below w.heap.size w W) => skin_spec (w := W) x (HT.out W hb)
 have HGr := Lib.hid fun (x : Sol) W (hb : Below w.heap.size w W) => grown_n x W
 have hpl : (partsS s).length ≤ 512 := classes_len _ _
 have hst : ∀ (i : Nat) (K : Sol), (partsS s)[i]? = some K → allP s i ||| K = allP s (i + 1) ∧ allP s i &&& grownS K = 0 ∧ (K == 0#512) = false ∧ (partsS K).length = 1 ∧ eulP2 s (i + 1) = eulP2 s i + eulerS K ∧ sknP s (i + 1) = sknP s i + skinS K := fun i K h => allP_step h
 have hend := allP_end s
 have hev := skin_even s
 have hEl := eulP2_le s
 have hSl := sknP_le s
 have HEs := Lib.hid fun W hb => HEu.out s W hb
 have HSs := Lib.hid fun W hb => HSk.out s W hb
 obtain ⟨L, hL⟩ : ∃ L, L = partsS s := ⟨_, rfl⟩
 rw [← hL] at HP hpl hst hend
 obtain ⟨n, hn⟩ : ∃ n, n = L.length := ⟨_, rfl⟩
 rw [← hn] at HP hpl hend
 obtain ⟨es, hes⟩ : ∃ e, e = eulerS s := ⟨_, rfl⟩
 rw [← hes] at HEs hend
 obtain ⟨ks, hks⟩ : ∃ e, e = skinS s := ⟨_, rfl⟩
 rw [← hks] at HSs hend hev
 obtain ⟨aP, haP⟩ : ∃ f, f = allP s := ⟨_, rfl⟩
 obtain ⟨eP, heP⟩ : ∃ f, f = eulP2 s := ⟨_, rfl⟩
 obtain ⟨kP, hkP⟩ : ∃ f, f = sknP s := ⟨_, rfl⟩
 rw [← haP, ← heP, ← hkP] at hend
 have HST : Hid (∀ (i : Nat) (K : Sol), L[i]? = some K → aP i ||| K = aP (i + 1) ∧ aP i &&& grownS K = 0 ∧ (K == 0#512) = false ∧ (partsS K).length = 1 ∧ eP (i + 1) = eP i + eulerS K ∧ kP (i + 1) = kP i + skinS K) := Lib.hid (by rw [haP, heP, hkP]; exact hst)
 have HEl : Hid (∀ i : Nat, -(13824 * (i : Int)) ≤ eP i ∧ eP i ≤ 13824 * (i : Int)) := Lib.hid (by rw [heP]; exact hEl)
 have HSl : Hid (∀ i : Nat, kP i ≤ 3072 * i) := Lib.hid (by rw [hkP]; exact hSl)
 have HEnd := Lib.hid hend
 have HEv := Lib.hid hev
 have HN := Lib.hid hn
 have HZ := Lib.hid zero_sols
 clear hst hend hev hEl hSl hL hn hes hks haP heP hkP
 go_enter Tryz.func10, Tryz.ntmps10
 go_wp2_with fail
 obtain ⟨wO, hw1⟩ : ∃ wO, wO = w.alloc (.cells #[.int .u64 (pl s 0), .int .u64 (pl s 1), .int .u64 (pl s 2), .int .u64 (pl s 3), .int .u64 (pl s 4), .int .u64 (pl s 5), .int .u64 (pl s 6), .int .u64 (pl s 7)] 26) := ⟨_, rfl⟩
 have bs : Blk wO w.heap.size #[.int .u64 (pl s 0), .int .u64 (pl s 1), .int .u64 (pl s 2), .int .u64 (pl s 3), .int .u64 (pl s 4), .int .u64 (pl s 5), .int .u64 (pl s 6), .int .u64 (pl s 7)] 26 ∧ Below w.heap.size w wO := by
  rw [hw1]
  exact ⟨Blk.new _ _ _, bel_alloc (bel_refl w) _⟩
 rw [← hw1]
 have HB := Lib.hid bs
 clear hw1 bs
 refine (HP.out _ HB.out.2).mono ?_
 rintro e1 w2 ⟨⟨a, c, rfl, hso⟩, hb⟩
 have HB2 := Lib.hid (And.intro (HB.out.1.grow hb) (And.intro (bel_trans HB.out.2 hb) hso))
 clear hb hso
 go_wp2_with fail
 obtain ⟨wA, hwA⟩ : ∃ x, x = w2.alloc (.cells #[.int .u64 0, .int .u64 0, .int .u64 0, .int .u64 0, .int .u64 0, .int .u64 0, .int .u64 0, .int .u64 0] 26) := ⟨_, rfl⟩
 have hA : Blk wA w2.heap.size #[.int .u64 (pl (aP 0) 0), .int .u64 (pl (aP 0) 1), .int .u64 (pl (aP 0) 2), .int .u64 (pl (aP 0) 3), .int .u64 (pl (aP 0) 4), .int .u64 (pl (aP 0) 5), .int .u64 (pl (aP 0) 6), .int .u64 (pl (aP 0) 7)] 26 ∧ Blk wA w.heap.size #[.int .u64 (pl s 0), .int .u64 (pl s 1), .int .u64 (pl s 2), .int .u64 (pl s 3), .int .u64 (pl s 4), .int .u64 (pl s 5), .int .u64 (pl s 6), .int .u64 (pl s 7)] 26 ∧ Below w.heap.size w wA ∧ SlO wA a L := by
  rw [hwA, HEnd.out.1, HZ.out]
  exact ⟨Blk.new _ _ _, HB2.out.1.alloc _, bel_alloc HB2.out.2.1 _, HB2.out.2.2.mono (bel_alloc (bel_refl _) _)⟩
 have ho : w.heap.size < w2.heap.size := HB2.out.1.lt
 have hap : ∀ b off, a = some ⟨b, off, none⟩ → L ≠ [] → b < w2.heap.size := fun b off h hl => by
  rcases HB2.out.2.2 with h2 | ⟨b', off', h1, h2⟩
  ·exact absurd h2 hl
  ·rw [h1] at h; cases h; exact h2.1
 obtain ⟨g, hg⟩ : ∃ x, x = w2.heap.size := ⟨_, rfl⟩
 rw [← hwA, ← hg]
 rw [← hg] at hA ho hap
 clear hwA hg HB HB2
 have HA := Lib.hid hA
 have HO := Lib.hid (And.intro ho hap)
 clear hA ho hap
 have HI0 : Hid (eP 0 = 0 ∧ kP 0 = 0) := Lib.hid ⟨HEnd.out.2.1, HEnd.out.2.2.1⟩
 go_loopw [5, 6, 7] (fun ev kv iv wx => ∃ i : Nat, i ≤ n ∧ iv = .int .i64 i ∧ ev = .int .i64 (eP i) ∧ kv = .int .i64 (kP i : Nat) ∧ Hid (Blk wx g #[.int .u64 (pl (aP i) 0), .int .u64 (pl (aP i) 1), .int .u64 (pl (aP i) 2), .int .u64 (pl (aP i) 3), .int .u64 (pl (aP i) 4), .int .u64 (pl (aP i) 5), .int .u64 (pl (aP i) 6), .int .u64 (pl (aP i) 7)] 26 ∧ Blk wx w.heap.size #[.int .u64 (pl s 0), .int .u64 (pl s 1), .int .u64 (pl s 2), .int .u64 (pl s 3), .int .u64 (pl s 4), .int .u64 (pl s 5), .int .u64 (pl s 6), .int .u64 (pl s 7)] 26 ∧ Below w.heap.size w wx ∧ SlO wx a L)) (fun _ _ iv _ => n - (intOf iv).toNat)
 case atStart => exact ⟨0, by omega, rfl, by rw [HI0.out.1], by rw [HI0.out.2]; rfl, HA⟩
 case round =>
  clear HA HI0
  obtain ⟨i, hi, rfl, rfl, rfl, HM⟩ := hrel
  by_cases hin : i < n
  ·have hx : ∃ x, L[i]? = some x := ⟨L[i]'(by rw [← HN.out]; exact hin), by simp [← HN.out, hin]⟩
   obtain ⟨K, hK⟩ := hx
   obtain ⟨h1, h2, h3, h4, h5, h6⟩ := HST.out i K hK
   have b1 := HEl.out i; have b2 := HEl.out (i + 1)
   have b3 := HSl.out i; have b4 := HSl.out (i + 1)
   obtain ⟨P, hP⟩ : ∃ P, P = aP i := ⟨_, rfl⟩
   obtain ⟨Q, hQ⟩ : ∃ P, P = aP (i + 1) := ⟨_, rfl⟩
   obtain ⟨E0, hE0⟩ : ∃ P, P = eP i := ⟨_, rfl⟩
   obtain ⟨E1, hE1⟩ : ∃ P, P = eP (i + 1) := ⟨_, rfl⟩
   obtain ⟨K0, hK0⟩ : ∃ P, P = kP i := ⟨_, rfl⟩
   obtain ⟨K1, hK1⟩ : ∃ P, P = kP (i + 1) := ⟨_, rfl⟩
   obtain ⟨eK, heK⟩ : ∃ P, P = eulerS K := ⟨_, rfl⟩
   obtain ⟨kK, hkK⟩ : ∃ P, P = skinS K := ⟨_, rfl⟩
   obtain ⟨G, hG⟩ : ∃ G, G = grownS K := ⟨_, rfl⟩
   have HEK := Lib.hid fun W hb => HEu.out K W hb
   have HSK := Lib.hid fun W hb => HSk.out K W hb
   have HPK := Lib.hid fun W hb => HPl.out K W hb
   have HGK := Lib.hid fun W hb => HGr.out K W hb
   rw [← hP] at HM h1 h2
   rw [← hQ] at h1
   rw [← hG] at HGK h2
   rw [← hE1, ← hE0, ← heK] at h5
   rw [← hK1, ← hK0, ← hkK] at h6
   rw [← hE0] at b1; rw [← hE1] at b2; rw [← hK0] at b3; rw [← hK1] at b4
   rw [← heK] at HEK
   rw [← hkK] at HSK
   rw [h4] at HPK
   have x1 : IntKind.i64.wrap (E0 + eK) = E1 := by rw [h5]; exact IntWalk.i64_in _ ⟨by omega, by omega⟩
   have x2 : IntKind.i64.wrap ((K0 : Int) + (kK : Int)) = (K1 : Int) := by rw [h6, Int.natCast_add]; exact IntWalk.i64_in _ ⟨by omega, by omega⟩
   have HX1 := Lib.hid x1
   have HX2 := Lib.hid x2
   have HMe := Lib.hid fun W (hb : Below w.heap.size w W) => meet_spec P G W
   have HJo := Lib.hid fun W (hb : Below w.heap.size w W) => join_spec P K W
   obtain ⟨Z, hZ⟩ : ∃ Z, Z = P &&& G := ⟨_, rfl⟩
   rw [← hZ] at HMe
   have hz0 : (Z == 0#512) = true := beq_iff_eq.2 (hZ.trans h2)
   rw [h1] at HJo
   have HQ := Lib.hid (And.intro hQ (And.intro hE1 hK1))
   rw [← hE0, ← hK0]
   obtain ⟨b, off, rfl, hcs⟩ := HM.out.2.2.2.at hK
   have hbg := HO.out.2 b off rfl (by intro e; rw [e] at hK; cases hK)
   have HCs := Lib.hid hcs
   have hK2 := Lib.hid hK
   have HBG := Lib.hid hbg
   obtain ⟨wR, hwR⟩ : ∃ x, x = wr := ⟨_, rfl⟩
   clear h1 h2 h4 h5 h6 b1 b2 b3 b4 hP hQ hE0 hE1 hK0 hK1 heK hkK hG hZ hcs hK hbg x1 x2
   go_wp2_with fail
   rw [← hwR]
   rw [← hwR] at HM HCs
   refine wp_region_val Grows (fun _ _ _ => True) [Is (.slice (some ⟨b, off, none⟩) n c), Is (.int .i64 (i : Nat)), Is (.pointer (some ⟨b, off + i * 8, none⟩)), Is (solV K), Is zeroV, Is (.bool false), Is (.bool false), Is (solV P), Is (.slice (some ⟨b, off, none⟩) n c), Is (.int .i64 (i : Nat)), Is (.pointer (some ⟨b, off + i * 8, none⟩)), Is (solV K), Is (solV G), Is (solV Z), Is zeroV, Is (.bool false), Is (.bool false), Is (.bool false), Is (.slice (some ⟨b, off, none⟩) n c), Is (.int .i64 (i : Nat)), Is (.pointer (some ⟨b, off + i * 8, none⟩)), Is (solV K), IsLq 1, Is (.int .i64 1), Is (.bool false), Is (.bool false)] (by kernel_rfl) (by kernel_rfl) rfl Grows.refl (fun _ _ _ => Grows.trans) (stable_mem ⟨fun _ _ _ h _ => h, fun _ _ _ h _ => h, fun _ _ _ h _ => h, fun _ _ _ h _ => h, fun _ _ _ h _ => h, fun _ _ _ h _ => h, fun _ _ _ h _ => h, fun _ _ _ h _ => h, fun _ _ _ h _ => h, fun _ _ _ h _ => h, fun _ _ _ h _ => h, fun _ _ _ h _ => h, fun _ _ _ h _ => h, fun _ _ _ h _ => h, fun _ _ _ h _ => h, fun _ _ _ h _ => h, fun _ _ _ h _ => h, fun _ _ _ h _ => h, fun _ _ _ h _ => h, fun _ _ _ h _ => h, fun _ _ _ h _ => h, fun _ _ _ h _ => h, fun _ _ _ h _ => h, fun _ _ _ h _ => h, fun _ _ _ h _ => h, fun _ _ _ h _ => h, trivial⟩) wR (Below.drew (Below.refl _ _)) trivial ?_
   refine val_cons ?_ (fun v0 => ?_)
   ·intro L vs w1 hvs hat hb hI hF; try simp [factsI, Region.binds, Is] at hF
    have hc := (Grows.cells hb).1
    clear hI
    go_simp
    try simp [upd]
    try first | exact Grows.refl _ | exact trivial | exact ⟨Grows.refl _, trivial⟩
   refine val_cons ?_ (fun v1 => ?_)
   ·intro L vs w1 hvs hat hb hI hF; try simp [factsI, Region.binds, Is] at hF
    have hc := (Grows.cells hb).1
    clear hI
    go_simp
    try simp [upd]
    try first | exact Grows.refl _ | exact trivial | exact ⟨Grows.refl _, trivial⟩
   refine val_cons ?_ (fun v2 => ?_)
   ·intro L vs w1 hvs hat hb hI hF; try simp [factsI, Region.binds, Is] at hF
    have hc := (Grows.cells hb).1
    clear hI
    go_simp
    try simp [upd]
    try first | exact Grows.refl _ | exact trivial | exact ⟨Grows.refl _, trivial⟩
   refine val_cons ?_ (fun v3 => ?_)
   ·intro L vs w1 hvs hat hb hI hF; try simp [factsI, Region.binds, Is] at hF
    have hCw := Cells.mono (HCs.out) (show Below _ _ _ from hb) (HCs.out).1
    have cz := sol_cells hCw hK2.out
    obtain ⟨z0, z1, z2, z3, z4, z5, z6, z7⟩ := cz
    have lz := hCw.1
    clear hCw
    go_simp
    first | exact Grows.refl _ | exact ⟨Grows.refl _, trivial⟩
   refine val_cons ?_ (fun v4 => ?_)
   ·intro L vs w1 hvs hat hb hI hF; try simp [factsI, Region.binds, Is] at hF
    have hc := (Grows.cells hb).1
    clear hI
    go_simp
    try simp [upd]
    try first | exact Grows.refl _ | exact trivial | exact ⟨Grows.refl _, trivial⟩
   refine val_cons ?_ (fun v5 => ?_)
   ·intro L vs w1 hvs hat hb hI hF; try simp [factsI, Region.binds, Is] at hF
    have hc := (Grows.cells hb).1
    clear hI
    go_simp
    try simp [upd]
    try first | exact Grows.refl _ | exact trivial | exact ⟨Grows.refl _, trivial⟩
   refine val_cons ?_ (fun v6 => ?_)
   ·intro L vs w1 hvs hat hb hI hF; try simp [factsI, Region.binds, Is] at hF
    have hc := (Grows.cells hb).1
    clear hI
    go_simp
    try simp [upd]
    try first | exact Grows.refl _ | exact trivial | exact ⟨Grows.refl _, trivial⟩
   refine val_cons ?_ (fun v7 => ?_)
   ·intro L vs w1 hvs hat hb hI hF; try simp [factsI, Region.binds, Is] at hF
    have D := (HM.out.1).grow (show Below _ _ _ from hb); have cD := D.cell; have lD := D.lt; clear D
    go_simp
    first | exact Grows.refl _ | exact ⟨Grows.refl _, trivial⟩
   refine val_cons ?_ (fun v8 => ?_)
   ·intro L vs w1 hvs hat hb hI hF; try simp [factsI, Region.binds, Is] at hF
    have hc := (Grows.cells hb).1
    clear hI
    go_simp
    try simp [upd]
    try first | exact Grows.refl _ | exact trivial | exact ⟨Grows.refl _, trivial⟩
   refine val_cons ?_ (fun v9 => ?_)
   ·intro L vs w1 hvs hat hb hI hF; try simp [factsI, Region.binds, Is] at hF
    have hc := (Grows.cells hb).1
    clear hI
    go_simp
    try simp [upd]
    try first | exact Grows.refl _ | exact trivial | exact ⟨Grows.refl _, trivial⟩
   refine val_cons ?_ (fun v10 => ?_)
   ·intro L vs w1 hvs hat hb hI hF; try simp [factsI, Region.binds, Is] at hF
    have hc := (Grows.cells hb).1
    clear hI
    go_simp
    try simp [upd]
    try first | exact Grows.refl _ | exact trivial | exact ⟨Grows.refl _, trivial⟩
   refine val_cons ?_ (fun v11 => ?_)
   ·intro L vs w1 hvs hat hb hI hF; try simp [factsI, Region.binds, Is] at hF
    have hCw := Cells.mono (HCs.out) (show Below _ _ _ from hb) (HCs.out).1
    have cz := sol_cells hCw hK2.out
    obtain ⟨z0, z1, z2, z3, z4, z5, z6, z7⟩ := cz
    have lz := hCw.1
    clear hCw
    go_simp
    first | exact Grows.refl _ | exact ⟨Grows.refl _, trivial⟩
   refine val_cons ?_ (fun v12 => ?_)
   ·intro L vs w1 hvs hat hb hI hF; try simp [factsI, Region.binds, Is] at hF
    have hb0 := hb
    go_simp
    refine (HGK.out _ (bel_trans HM.out.2.2.1 (show Below _ _ _ from hb0))).mono ?_
    rintro e w2 ⟨rfl, hb2⟩
    first | exact ⟨rfl, hb2⟩ | exact ⟨_, rfl, hb2, trivial, rfl⟩ | exact ⟨_, rfl, hb2, rfl⟩
   refine val_cons ?_ (fun v13 => ?_)
   ·intro L vs w1 hvs hat hb hI hF; try simp [factsI, Region.binds, Is] at hF
    have hb0 := hb
    go_simp
    refine (HMe.out _ (bel_trans HM.out.2.2.1 (show Below _ _ _ from hb0))).mono ?_
    rintro e w2 ⟨rfl, hb2⟩
    first | exact ⟨rfl, hb2⟩ | exact ⟨_, rfl, hb2, trivial, rfl⟩ | exact ⟨_, rfl, hb2, rfl⟩
   refine val_cons ?_ (fun v14 => ?_)
   ·intro L vs w1 hvs hat hb hI hF; try simp [factsI, Region.binds, Is] at hF
    have hc := (Grows.cells hb).1
    clear hI
    go_simp
    try simp [upd]
    try first | exact Grows.refl _ | exact trivial | exact ⟨Grows.refl _, trivial⟩
   refine val_cons ?_ (fun v15 => ?_)
   ·intro L vs w1 hvs hat hb hI hF; try simp [factsI, Region.binds, Is] at hF
    have hc := (Grows.cells hb).1
    clear hI
    go_simp
    try simp [upd]
    try first | exact Grows.refl _ | exact trivial | exact ⟨Grows.refl _, trivial⟩
   refine val_cons ?_ (fun v16 => ?_)
   ·intro L vs w1 hvs hat hb hI hF; try simp [factsI, Region.binds, Is] at hF
    have hc := (Grows.cells hb).1
    clear hI
    go_simp
    try simp [upd]
    try first | exact Grows.refl _ | exact trivial | exact ⟨Grows.refl _, trivial⟩
   refine val_cons ?_ (fun v17 => ?_)
   ·intro L vs w1 hvs hat hb hI hF; try simp [factsI, Region.binds, Is] at hF
    have hc := (Grows.cells hb).1
    clear hI
    go_simp
    try simp [upd]
    try first | exact Grows.refl _ | exact trivial | exact ⟨Grows.refl _, trivial⟩
   refine val_cons ?_ (fun v18 => ?_)
   ·intro L vs w1 hvs hat hb hI hF; try simp [factsI, Region.binds, Is] at hF
    have hc := (Grows.cells hb).1
    clear hI
    go_simp
    try simp [upd]
    try first | exact Grows.refl _ | exact trivial | exact ⟨Grows.refl _, trivial⟩
   refine val_cons ?_ (fun v19 => ?_)
   ·intro L vs w1 hvs hat hb hI hF; try simp [factsI, Region.binds, Is] at hF
    have hc := (Grows.cells hb).1
    clear hI
    go_simp
    try simp [upd]
    try first | exact Grows.refl _ | exact trivial | exact ⟨Grows.refl _, trivial⟩
   refine val_cons ?_ (fun v20 => ?_)
   ·intro L vs w1 hvs hat hb hI hF; try simp [factsI, Region.binds, Is] at hF
    have hc := (Grows.cells hb).1
    clear hI
    go_simp
    try simp [upd]
    try first | exact Grows.refl _ | exact trivial | exact ⟨Grows.refl _, trivial⟩
   refine val_cons ?_ (fun v21 => ?_)
   ·intro L vs w1 hvs hat hb hI hF; try simp [factsI, Region.binds, Is] at hF
    have hCw := Cells.mono (HCs.out) (show Below _ _ _ from hb) (HCs.out).1
    have cz := sol_cells hCw hK2.out
    obtain ⟨z0, z1, z2, z3, z4, z5, z6, z7⟩ := cz
    have lz := hCw.1
    clear hCw
    go_simp
    first | exact Grows.refl _ | exact ⟨Grows.refl _, trivial⟩
   refine val_cons ?_ (fun v22 => ?_)
   ·intro L vs w1 hvs hat hb hI hF; try simp [factsI, Region.binds, Is] at hF
    have hb0 := hb
    go_simp
    refine (HPK.out _ (bel_trans HM.out.2.2.1 (show Below _ _ _ from hb0))).mono ?_
    rintro e w2 ⟨⟨pp, cc, rfl⟩, hb2⟩
    first | exact ⟨rfl, hb2⟩ | exact ⟨_, rfl, hb2, trivial, ⟨pp, cc, rfl⟩⟩ | exact ⟨_, rfl, hb2, ⟨pp, cc, rfl⟩⟩
   refine val_cons ?_ (fun v23 => ?_)
   ·intro L vs w1 hvs hat hb hI hF; try simp [factsI, Region.binds, Is] at hF
    have hF2 : IsLq 1 v22 w1 := by first | exact hF | exact hF.1 | exact hF.2 | exact hF.1.1 | exact hF.1.2 | exact hF.2.1 | exact hF.2.2
    obtain ⟨pp, cc, hv⟩ := hF2
    subst hv
    go_simp
    first | exact Grows.refl _ | exact ⟨Grows.refl _, trivial⟩
   refine val_cons ?_ (fun v24 => ?_)
   ·intro L vs w1 hvs hat hb hI hF; try simp [factsI, Region.binds, Is] at hF
    have hc := (Grows.cells hb).1
    clear hI
    go_simp
    try simp [upd]
    try first | exact Grows.refl _ | exact trivial | exact ⟨Grows.refl _, trivial⟩
   refine val_cons ?_ (fun v25 => ?_)
   ·intro L vs w1 hvs hat hb hI hF; try simp [factsI, Region.binds, Is] at hF
    have hc := (Grows.cells hb).1
    clear hI
    go_simp
    try simp [upd]
    try first | exact Grows.refl _ | exact trivial | exact ⟨Grows.refl _, trivial⟩
   refine val_nil ?_
   intro vs w1 hvs hb hI hF
   simp [Is, Nat.forall_lt_succ_right] at hF
   have e0 := hF.1.1.1.1.1.1.1.1.1.1.1.1.1.1.1.1.1.1.1.1.1.1.1.1.1
   have e1 := hF.1.1.1.1.1.1.1.1.1.1.1.1.1.1.1.1.1.1.1.1.1.1.1.1.2
   have e2 := hF.1.1.1.1.1.1.1.1.1.1.1.1.1.1.1.1.1.1.1.1.1.1.1.2
   have e3 := hF.1.1.1.1.1.1.1.1.1.1.1.1.1.1.1.1.1.1.1.1.1.1.2
   have e4 := hF.1.1.1.1.1.1.1.1.1.1.1.1.1.1.1.1.1.1.1.1.1.2
   have e5 := hF.1.1.1.1.1.1.1.1.1.1.1.1.1.1.1.1.1.1.1.1.2
   have e6 := hF.1.1.1.1.1.1.1.1.1.1.1.1.1.1.1.1.1.1.1.2
   have e7 := hF.1.1.1.1.1.1.1.1.1.1.1.1.1.1.1.1.1.1.2
   have e8 := hF.1.1.1.1.1.1.1.1.1.1.1.1.1.1.1.1.1.2
   have e9 := hF.1.1.1.1.1.1.1.1.1.1.1.1.1.1.1.1.2
   have e10 := hF.1.1.1.1.1.1.1.1.1.1.1.1.1.1.1.2
   have e11 := hF.1.1.1.1.1.1.1.1.1.1.1.1.1.1.2
   have e12 := hF.1.1.1.1.1.1.1.1.1.1.1.1.1.2
   have e13 := hF.1.1.1.1.1.1.1.1.1.1.1.1.2
   have e14 := hF.1.1.1.1.1.1.1.1.1.1.1.2
   have e15 := hF.1.1.1.1.1.1.1.1.1.1.2
   have e16 := hF.1.1.1.1.1.1.1.1.1.2
   have e17 := hF.1.1.1.1.1.1.1.1.2
   have e18 := hF.1.1.1.1.1.1.1.2
   have e19 := hF.1.1.1.1.1.1.2
   have e20 := hF.1.1.1.1.1.2
   have e21 := hF.1.1.1.1.2
   have e22 := hF.1.1.1.2
   have e23 := hF.1.1.2
   have e24 := hF.1.2
   have e25 := hF.2
   clear hF
   simp only [Act.put, List.setIfInBounds_toArray, List.set_cons_succ, List.set_cons_zero, e0, e1, e2, e3, e4, e5, e6, e7, e8, e9, e10, e11, e12, e13, e14, e15, e16, e17, e18, e19, e20, e21, e23, e24, e25]
   clear e0 e1 e2 e3 e4 e5 e6 e7 e8 e9 e10 e11 e12 e13 e14 e15 e16 e17 e18 e19 e20 e21 e23 e24 e25
   have HB9 : Hid (Below wR.heap.size wR w1) := Lib.hid (show Below wR.heap.size wR w1 from hb)
   obtain ⟨wS, hwS⟩ : ∃ x, x = w1 := ⟨_, rfl⟩
   rw [← hwS] at HB9 ⊢
   clear e22 hb hI hvs hwS
   go_wp2_with fail
   refine wp_region_grow 6 [Is (solV P), Is (.slice (some ⟨b, off, none⟩) n c), Is (.int .i64 (i : Nat)), Is (.pointer (some ⟨b, off + i * 8, none⟩)), Is (solV K), Is (solV Q)] (by kernel_rfl) (by kernel_rfl) rfl ⟨fun _ _ _ h _ => h, fun _ _ _ h _ => h, fun _ _ _ h _ => h, fun _ _ _ h _ => h, fun _ _ _ h _ => h, fun _ _ _ h _ => h, trivial⟩ ?_
   simp only [List.take_succ_cons, List.take_zero, List.drop_succ_cons, List.drop_zero]
   refine rel_cons ?_ (fun v0 => ?_)
   ·intro w1 hb hF; have hc := (Grows.cells hb).1; have hf := (Grows.cells hb).2; try simp [facts, Is] at hF
    have D := (HM.out.1.grow HB9.out).grow (show Below _ _ _ from hb); have cD := D.cell; have lD := D.lt; clear D
    go_simp
    first | exact Grows.refl _ | exact ⟨Grows.refl _, trivial⟩
   iterate 3 (refine rel_cons ?_ (fun _ => ?_); · intro w1 hb hF; have hc := (Grows.cells hb).1; have hf := (Grows.cells hb).2; (try simp [facts, Is] at hF); go_simp; exact Grows.refl _)
   refine rel_cons ?_ (fun v4 => ?_)
   ·intro w1 hb hF; have hc := (Grows.cells hb).1; have hf := (Grows.cells hb).2; try simp [facts, Is] at hF
    have hCw := Cells.mono HCs.out (HB9.out.trans ((show Below _ _ _ from hb).mono HB9.out.size)) HCs.out.1
    obtain ⟨z0, z1, z2, z3, z4, z5, z6, z7⟩ := sol_cells hCw hK2.out
    have lz := hCw.1
    clear hCw
    go_simp
    first | exact Grows.refl _ | exact ⟨Grows.refl _, trivial⟩
   refine rel_cons ?_ (fun v5 => ?_)
   ·intro w1 hb hF; have hc := (Grows.cells hb).1; have hf := (Grows.cells hb).2; try simp [facts, Is] at hF
    have hb0 := hb
    go_simp
    refine (HJo.out _ (bel_trans HM.out.2.2.1 (bel_trans HB9.out (show Below _ _ _ from hb0)))).mono ?_
    rintro e w2 ⟨rfl, hb2⟩
    first | exact ⟨rfl, hb2⟩ | exact ⟨_, rfl, hb2, trivial, rfl⟩
   refine rel_nil ?_
   intro w1 hb hF
   simp [Is, Nat.forall_lt_succ_right] at hF
   simp only [Act.put, List.setIfInBounds_toArray, List.set_cons_succ, List.set_cons_zero, hF]
   clear hF
   have hbw : Below wR.heap.size wR w1 := bel_trans HB9.out (show Below wS.heap.size wS w1 from hb)
   have hM1 := HM.out.1.grow hbw
   have hbg := HBG.out
   have hog := HO.out.1
   have HE : Hid (Blk (w1.setRow g #[.int .u64 (pl Q 0), .int .u64 (pl Q 1), .int .u64 (pl Q 2), .int .u64 (pl Q 3), .int .u64 (pl Q 4), .int .u64 (pl Q 5), .int .u64 (pl Q 6), .int .u64 (pl Q 7)]) g #[.int .u64 (pl Q 0), .int .u64 (pl Q 1), .int .u64 (pl Q 2), .int .u64 (pl Q 3), .int .u64 (pl Q 4), .int .u64 (pl Q 5), .int .u64 (pl Q 6), .int .u64 (pl Q 7)] 26 ∧ Blk (w1.setRow g #[.int .u64 (pl Q 0), .int .u64 (pl Q 1), .int .u64 (pl Q 2), .int .u64 (pl Q 3), .int .u64 (pl Q 4), .int .u64 (pl Q 5), .int .u64 (pl Q 6), .int .u64 (pl Q 7)]) w.heap.size #[.int .u64 (pl s 0), .int .u64 (pl s 1), .int .u64 (pl s 2), .int .u64 (pl s 3), .int .u64 (pl s 4), .int .u64 (pl s 5), .int .u64 (pl s 6), .int .u64 (pl s 7)] 26 ∧ Below w.heap.size w (w1.setRow g #[.int .u64 (pl Q 0), .int .u64 (pl Q 1), .int .u64 (pl Q 2), .int .u64 (pl Q 3), .int .u64 (pl Q 4), .int .u64 (pl Q 5), .int .u64 (pl Q 6), .int .u64 (pl Q 7)]) ∧ Cells (w1.setRow g #[.int .u64 (pl Q 0), .int .u64 (pl Q 1), .int .u64 (pl Q 2), .int .u64 (pl Q 3), .int .u64 (pl Q 4), .int .u64 (pl Q 5), .int .u64 (pl Q 6), .int .u64 (pl Q 7)]) b off 8 (L.map solL)) := Lib.hid ⟨hM1.rowS _, (HM.out.2.1.grow hbw).rowO _ (by omega), bel_row (bel_trans HM.out.2.2.1 hbw) (by omega) _, (HCs.out.mono hbw HCs.out.1).row (by omega) _⟩
   have rg := hM1.row; have lg2 := hM1.lt
   rw [← hM1.rw]
   clear hM1 hbw hb hbg hog HM HCs HB9
   go_upto_region 11 with fail
   obtain ⟨wT, hwT⟩ : ∃ x, x = w1.setRow g #[.int .u64 (pl Q 0), .int .u64 (pl Q 1), .int .u64 (pl Q 2), .int .u64 (pl Q 3), .int .u64 (pl Q 4), .int .u64 (pl Q 5), .int .u64 (pl Q 6), .int .u64 (pl Q 7)] := ⟨_, rfl⟩
   rw [← hwT] at HE ⊢
   clear hwT rg lg2
   obtain ⟨z0, z1, z2, z3, z4, z5, z6, z7⟩ := sol_cells HE.out.2.2.2 hK2.out
   have lz := HE.out.2.2.2.1
   go_wp2_with fail
   clear z0 z1 z2 z3 z4 z5 z6 z7 lz
   refine (HEK.out _ HE.out.2.2.1).mono ?_
   rintro e1 w6 ⟨rfl, hb⟩
   have HE6 := Lib.hid (And.intro (HE.out.1.grow hb) (And.intro (HE.out.2.1.grow hb) (And.intro (bel_trans HE.out.2.2.1 hb) (HE.out.2.2.2.mono hb HE.out.2.2.2.1))))
   clear hb HE
   have x1 := HX1.out
   obtain ⟨z0, z1, z2, z3, z4, z5, z6, z7⟩ := sol_cells HE6.out.2.2.2 hK2.out
   have lz := HE6.out.2.2.2.1
   go_wp2_with fail
   clear z0 z1 z2 z3 z4 z5 z6 z7 lz x1
   refine (HSK.out _ HE6.out.2.2.1).mono ?_
   rintro e1 w7 ⟨rfl, hb⟩
   have HE7 := Lib.hid (And.intro (HE6.out.1.grow hb) (And.intro (HE6.out.2.1.grow hb) (And.intro (bel_trans HE6.out.2.2.1 hb) (HE6.out.2.2.2.mono hb HE6.out.2.2.2.1))))
   clear hb HE6
   have x2 := HX2.out
   go_wp2_with fail
   clear x2
   go_roundw
   case rel =>
    refine ⟨i + 1, by omega, by go_num, by rw [← HQ.out.2.1], by rw [← HQ.out.2.2], Lib.hid ?_⟩
    rw [← HQ.out.1]
    exact ⟨HE7.out.1, HE7.out.2.1, HE7.out.2.2.1, .inr ⟨b, off, rfl, HE7.out.2.2.2⟩⟩
   case measure => simp [intOf]; omega
  ·obtain rfl : i = n := by omega
   have hM := HM.out
   rw [HEnd.out.2.2.2.1] at hM
   have HM2 := Lib.hid hM
   rw [HEnd.out.2.2.2.2.1, HEnd.out.2.2.2.2.2]
   clear hM HM
   go_wp2_with fail
   refine (HC.out _ HM2.out.2.2.1).mono ?_
   rintro e1 w8 ⟨rfl, hb⟩
   have HM3 := Lib.hid (And.intro (HM2.out.1.grow hb) (And.intro (HM2.out.2.1.grow hb) (bel_trans HM2.out.2.2.1 hb)))
   clear hb HM2
   have cg := HM3.out.1.cell; have lg := HM3.out.1.lt
   have cs := HM3.out.2.1.cell; have ls := HM3.out.2.1.lt
   go_wp2_with fail
   clear cg lg cs ls
   refine (HEs.out _ HM3.out.2.2).mono ?_
   rintro e1 w9 ⟨rfl, hb⟩
   have HM4 := Lib.hid (And.intro (HM3.out.2.1.grow hb) (bel_trans HM3.out.2.2 hb))
   clear hb HM3
   have cs := HM4.out.1.cell; have ls := HM4.out.1.lt
   go_wp2_with fail
   clear cs ls
   refine (HSs.out _ HM4.out.2).mono ?_
   rintro e1 w10 ⟨rfl, hb⟩
   have HM5 := Lib.hid (bel_trans HM4.out.2 hb)
   clear hb HM4
   have hev : ((ks : Nat) : Int) % 2 = 0 := by have := HEv.out; omega
   have hevt : ((ks : Nat) : Int).tmod 2 = 0 := by rw [Int.tmod_eq_emod_of_nonneg (by omega)]; exact hev
   go_wp2_with fail
   go_ret
   exact ⟨rfl, HM5.out⟩
end Go.Proofs.YtkfimbonmnoglaaGreatDoor
end
