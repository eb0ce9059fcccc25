import Derived.Test.YtkfimbonmnoglaaGreatDoorRParts29
import Derived.Deep.Cut
/-
  Given contracts of functions of the program, and laws for them, one behind the other.
-/
set_option linter.unusedVariables false
set_option linter.unusedSimpArgs false
set_option linter.unusedSectionVars false
section
namespace Go.Proofs.YtkfimbonmnoglaaGreatDoor
open Go.RowKit Go.Rel Go.Draw Go.Solid
set_option maxRecDepth 100000
attribute [local go_sem] Oper.semAt_some
def BxC (N : Nat) (a d : Bool) (v : Value) (cs : Array Value) (W : World) : Prop := N ≤ W.heap.size ∧ (a = true → ∃ b, N ≤ b ∧ v = .pointer (some ⟨b, 0, none⟩) ∧ Blk W b (if d then cs else #[.int .i64 0, .int .i64 0, .int .i64 0]) 60)
theorem BxC.start {N : Nat} {d : Bool} {v : Value} {cs : Array Value} {W : World} (h : N ≤ W.heap.size) : BxC N false d v cs W := ⟨h, fun e => by cases e⟩
theorem BxC.new {N : Nat} {a : Bool} {v : Value} {cs : Array Value} {W : World} (h : BxC N a false v cs W) : BxC N true false (.pointer (some ⟨W.heap.size, 0, none⟩)) cs (W.alloc (.cells #[.int .i64 0, .int .i64 0, .int .i64 0] 60)) :=
 ⟨by rw [World.size_alloc]; have := h.1; omega, fun _ => ⟨_, h.1, rfl, Blk.new _ _ _⟩⟩
theorem BxC.le {N : Nat} {a d : Bool} {v : Value} {cs : Array Value} {W : World} (h : BxC N a d v cs W) : N ≤ W.heap.size := h.1
theorem BxC.get0 {N : Nat} {a : Bool} {v : Value} {cs : Array Value} {W : World} (h : BxC N a false v cs W) (ha : a = true) : ∃ b, N ≤ b ∧ v = .pointer (some ⟨b, 0, none⟩) ∧ Blk W b #[.int .i64 0, .int .i64 0, .int .i64 0] 60 := h.2 ha
theorem BxC.get1 {N : Nat} {a : Bool} {v : Value} {cs : Array Value} {W : World} (h : BxC N a true v cs W) (ha : a = true) : ∃ b, N ≤ b ∧ v = .pointer (some ⟨b, 0, none⟩) ∧ Blk W b cs 60 := h.2 ha
theorem BxC.row {N b : Nat} {cs c : Array Value} {W : World} (hN : N ≤ W.heap.size) (hb : N ≤ b) (h : Blk W b c 60) : BxC N true true (.pointer (some ⟨b, 0, none⟩)) cs (W.setRow b cs) :=
 ⟨by rw [setRow_size]; exact hN, fun _ => ⟨b, hb, rfl, h.rowS _⟩⟩
theorem ofM_one (y : Cl) : ofM [y] = if inG y then (0 ||| Go.Solid.one (bitN y), 0) else (0, 1) := by
 unfold ofM
 rw [if_neg (by simp)]
 cases h : inG y with
 | true => rw [if_pos (by simp [h])]; rfl
 | false => rw [if_neg (by simp [h])]; rfl
theorem grow_nums {x0 x1 x2 : Int} (h0 : 0 ≤ x0 ∧ x0 ≤ 7) (h1 : 0 ≤ x1 ∧ x1 ≤ 7) (h2 : 0 ≤ x2 ∧ x2 ≤ 7) {k : Nat} (hk : k < 27) : ∃ (r0 q1 r1 r2 : Nat) (y0 y1 y2 : Int), addC (x0, x1, x2) (offK k) = (y0, y1, y2) ∧ ((k : Int) % 3 = (r0 : Int) ∧ (k : Int).tmod 3 = (r0 : Int)) ∧ ((k : Int) / 3 = (q1 : Int) ∧ (k : Int).tdiv 3 = (q1 : Int)) ∧ ((q1 : Int) % 3 = (r1 : Int) ∧ (q1 : Int).tmod 3 = (r1 : Int)) ∧ ((k : Int) / 9 = (r2 : Int) ∧ (k : Int).tdiv 9 = (r2 : Int)) ∧ IntKind.i64.wrap (q1 : Int) = (q1 : Int) ∧ IntKind.i64.wrap (r2 : Int) = (r2 : Int) ∧ IntKind.i64.wrap (x0 + r0) = x0 + r0 ∧ IntKind.i64.wrap (x1 + r1) = x1 + r1 ∧ IntKind.i64.wrap (x2 + r2) = x2 + r2 ∧ IntKind.i64.wrap (x0 + r0 - 1) = y0 ∧ IntKind.i64.wrap (x1 + r1 - 1) = y1 ∧ IntKind.i64.wrap (x2 + r2 - 1) = y2 ∧ (0 : Int) ≤ (k : Int) ∧ (0 : Int) ≤ (q1 : Int) := by
 refine ⟨k % 3, k / 3, k / 3 % 3, k / 9, x0 + ((k % 3 : Nat) : Int) - 1, x1 + ((k / 3 % 3 : Nat) : Int) - 1, x2 + ((k / 9 : Nat) : Int) - 1, ?_, ⟨by omega, by rw [Int.tmod_eq_emod_of_nonneg (by omega)]; omega⟩, ⟨by omega, by rw [Int.tdiv_eq_ediv_of_nonneg (by omega)]; omega⟩, ⟨by omega, by rw [Int.tmod_eq_emod_of_nonneg (by omega)]; omega⟩, ⟨by omega, by rw [Int.tdiv_eq_ediv_of_nonneg (by omega)]; omega⟩, w64 (by omega), w64 (by omega), w64 (by omega), w64 (by omega), w64 (by omega), w64 (by omega), w64 (by omega), w64 (by omega), by omega, by omega⟩
 unfold addC offK
 exact Prod.ext (by simp only; omega) (Prod.ext (by simp only; omega) (by simp only; omega))
theorem or_zero (a b : Sol) : a ||| (0 ||| b) = a ||| b := by simp
attribute [local irreducible] BxC accG remA remB grownS
set_option maxHeartbeats 16000000 in
theorem grown_n (s : Sol) (w : World) : Calls Tryz.prog 56 #[solV s] w fun e w' => e = .returned (solV (grownS s)) ∧ Below w.heap.size w w' := by
 have HC := Lib.hid fun W => refCells_open s W
 have hg := grown_rem s
 have hin7 : ∀ c ∈ cellsS s, inG c = true := fun c hc => has_in (mem_cellsS.1 hc)
 have hlen := cells512 s
 obtain ⟨L, hL⟩ : ∃ L, L = cellsS s := ⟨_, rfl⟩
 rw [← hL] at HC hg hin7 hlen
 obtain ⟨R, hR⟩ : ∃ R, R = grownS s := ⟨_, rfl⟩
 rw [← hR] at hg ⊢
 clear hL hR
 have HA1 : Hid (∀ i c, L[i]? = some c → remA L i = remB L c i 0) := Lib.hid fun i c h => remA_step h
 have HB1 : Hid (∀ c i k, k < 27 → remB L c i k = addC c (offK k) :: remB L c i (k + 1)) := Lib.hid fun c i k h => remB_step h
 have HB2 : Hid (∀ c i, remB L c i 27 = remA L (i + 1)) := Lib.hid fun c i => remB_end L c i
 have HA2 : Hid (remA L L.length = []) := Lib.hid (remA_end (Nat.le_refl _))
 have HG0 := Lib.hid hg.symm
 have HI := Lib.hid hin7
 obtain ⟨n, hn⟩ : ∃ n, n = L.length := ⟨_, rfl⟩
 rw [← hn] at HC hlen HA2
 have HN := Lib.hid hn
 have HJ := Lib.hid fun a b W => refJoin_spec a b W
 clear hg hin7 hn
 go_enter Tryz.func56, Tryz.ntmps56
 go_wp2_with fail
 obtain ⟨W0, hW0⟩ : ∃ W0, W0 = (w.alloc (.cells #[.int .u64 (pl s 0), .int .u64 (pl s 1), .int .u64 (pl s 2), .int .u64 (pl s 3), .int .u64 (pl s 4), .int .u64 (pl s 5), .int .u64 (pl s 6), .int .u64 (pl s 7)] 26)).alloc (.cells #[.int .u64 0, .int .u64 0, .int .u64 0, .int .u64 0, .int .u64 0, .int .u64 0, .int .u64 0, .int .u64 0] 26) := ⟨_, rfl⟩
 have b0 : Blk W0 w.heap.size #[.int .u64 (pl s 0), .int .u64 (pl s 1), .int .u64 (pl s 2), .int .u64 (pl s 3), .int .u64 (pl s 4), .int .u64 (pl s 5), .int .u64 (pl s 6), .int .u64 (pl s 7)] 26 ∧ Blk W0 (w.heap.size + 1) #[.int .u64 0, .int .u64 0, .int .u64 0, .int .u64 0, .int .u64 0, .int .u64 0, .int .u64 0, .int .u64 0] 26 ∧ Below w.heap.size w W0 := by
  rw [hW0]
  exact ⟨(by repeat (first | with_reducible assumption | (refine Blk.at _ _ ?_; (simp; done)) | with_reducible refine Blk.alloc ?_ _ | with_reducible refine Blk.drew ?_ | with_reducible refine Blk.rowS ?_ _ | with_reducible refine Blk.rowO ?_ _ (by simp))), Blk.at _ _ (by simp), (by repeat (first | with_reducible exact bel_refl _ | with_reducible assumption | with_reducible refine bel_drewN ?_ _ | with_reducible refine bel_drew ?_ | with_reducible refine bel_alloc ?_ _ | with_reducible refine bel_row ?_ ?_ _ | with_reducible refine bel_set ?_ ?_ _ | refine bel_trans ?_ (by with_reducible assumption) | (simp; done) | (simp; omega)))⟩
 rw [← hW0]
 clear hW0
 have HB := Lib.hid b0
 clear b0
 refine (HC.out _).mono ?_
 rintro e w1 ⟨⟨a, c, rfl, hcl⟩, hb⟩
 have HB3 := Lib.hid (And.intro (HB.out.1.grow hb) (And.intro (HB.out.2.1.grow hb) (And.intro (bel_trans HB.out.2.2 hb) hcl)))
 clear hb hcl
 have cs := HB3.out.1.cell; have ls := HB3.out.1.lt
 go_wp2_with fail
 clear cs ls
 obtain ⟨wA, hwA⟩ : ∃ x, x = w1.alloc (.cells #[.int .u64 (pl s 0), .int .u64 (pl s 1), .int .u64 (pl s 2), .int .u64 (pl s 3), .int .u64 (pl s 4), .int .u64 (pl s 5), .int .u64 (pl s 6), .int .u64 (pl s 7)] 26) := ⟨_, rfl⟩
 obtain ⟨ga, hga⟩ : ∃ x, x = w1.heap.size := ⟨_, rfl⟩
 have HA : Hid (Blk wA ga #[.int .u64 (pl s 0), .int .u64 (pl s 1), .int .u64 (pl s 2), .int .u64 (pl s 3), .int .u64 (pl s 4), .int .u64 (pl s 5), .int .u64 (pl s 6), .int .u64 (pl s 7)] 26 ∧ Blk wA (w.heap.size + 1) #[.int .u64 0, .int .u64 0, .int .u64 0, .int .u64 0, .int .u64 0, .int .u64 0, .int .u64 0, .int .u64 0] 26 ∧ Below w.heap.size w wA ∧ ClO W0.heap.size wA a L) := Lib.hid (by
  rw [hwA, hga]
  exact ⟨Blk.new _ _ _, HB3.out.2.1.alloc _, bel_alloc HB3.out.2.2.1 _, HB3.out.2.2.2.mono (bel_alloc (bel_refl _) _)⟩)
 have hal : ∀ b off, a = some ⟨b, off, none⟩ → L ≠ [] → b < ga := fun b off h hl => by
  rcases HB3.out.2.2.2 with h2 | ⟨b', off', h1, h2, _⟩
  ·exact absurd h2 hl
  ·rw [h1] at h; cases h; rw [hga]; exact h2.1
 have HO : Hid (w.heap.size + 1 < ga ∧ ∀ b off, a = some ⟨b, off, none⟩ → L ≠ [] → b < ga) := Lib.hid ⟨by rw [hga]; exact HB3.out.2.1.lt, hal⟩
 obtain ⟨N0, hN0⟩ : ∃ x, x = W0.heap.size := ⟨_, rfl⟩
 rw [← hN0] at HA
 rw [← hwA, ← hga]
 clear hwA hga hN0 hal HB3 HB
 go_wp2_with fail
 go_loopw [5] (fun iv wx => ∃ (i : Nat) (A : Sol), i ≤ n ∧ iv = .int .i64 i ∧ Hid (R = accG A (remA L i) ∧ Blk wx ga #[.int .u64 (pl A 0), .int .u64 (pl A 1), .int .u64 (pl A 2), .int .u64 (pl A 3), .int .u64 (pl A 4), .int .u64 (pl A 5), .int .u64 (pl A 6), .int .u64 (pl A 7)] 26 ∧ Blk wx (w.heap.size + 1) #[.int .u64 0, .int .u64 0, .int .u64 0, .int .u64 0, .int .u64 0, .int .u64 0, .int .u64 0, .int .u64 0] 26 ∧ Below w.heap.size w wx ∧ ClO N0 wx a L)) (fun iv _ => n - (intOf iv).toNat)
 case atStart => exact ⟨0, s, by omega, rfl, Lib.hid ⟨HG0.out, HA.out⟩⟩
 case round =>
  clear HA HG0
  obtain ⟨i, A, hi, rfl, HM⟩ := hrel
  by_cases hin : i < n
  ·have hx : ∃ x, L[i]? = some x := ⟨L[i]'(by rw [← HN.out]; exact hin), by simp [← HN.out, hin]⟩
   obtain ⟨x, hx⟩ := hx
   have hxg := inG_iff.1 (HI.out x (List.mem_of_getElem? hx))
   have hst := HM.out.1
   rw [HA1.out i x hx] at hst
   have HB1x := Lib.hid fun k hk => HB1.out x i k hk
   have HB2x := Lib.hid (HB2.out x i)
   have HM1 := Lib.hid (And.intro hst HM.out.2)
   have HX := Lib.hid hx
   obtain ⟨b, off, rfl, _, _⟩ := HM.out.2.2.2.2.at hx
   have HXG := Lib.hid hxg
   clear hst hx hxg HM
   obtain ⟨x0, x1, x2⟩ := x
   go_wp2_with fail
   go_loopw [6] (fun kv wx => ∃ (k : Nat) (A : Sol), k ≤ 27 ∧ kv = .int .i64 k ∧ Hid (R = accG A (remB L (x0, x1, x2) i k) ∧ Blk wx ga #[.int .u64 (pl A 0), .int .u64 (pl A 1), .int .u64 (pl A 2), .int .u64 (pl A 3), .int .u64 (pl A 4), .int .u64 (pl A 5), .int .u64 (pl A 6), .int .u64 (pl A 7)] 26 ∧ Blk wx (w.heap.size + 1) #[.int .u64 0, .int .u64 0, .int .u64 0, .int .u64 0, .int .u64 0, .int .u64 0, .int .u64 0, .int .u64 0] 26 ∧ Below w.heap.size w wx ∧ ClO N0 wx (some ⟨b, off, none⟩) L)) (fun kv _ => 27 - (intOf kv).toNat)
   case atStart => exact ⟨0, A, by omega, rfl, HM1⟩
   case round =>
    clear HM1
    obtain ⟨k, A, hk, rfl, HK⟩ := hrel
    by_cases hkn : k < 27
    ·have hst := HK.out.1
     rw [HB1x.out k hkn] at hst
     have hxg := HXG.out
     obtain ⟨r0, q1, r1, r2, y0, y1, y2, ho, e0, e1, e2, e3, u1, u2, v0, vv1, vv2, t0, t1, t2, hk0, hq0⟩ := grow_nums hxg.1 hxg.2.1 hxg.2.2 hkn
     rw [ho] at hst
     have HST := Lib.hid hst
     have HE0 := Lib.hid (And.intro e0 hk0)
     have HE1 := Lib.hid (And.intro e1 (And.intro u1 hk0))
     have HE2 := Lib.hid (And.intro e2 hq0)
     have HE3 := Lib.hid (And.intro e3 (And.intro u2 hk0))
     have HV := Lib.hid (And.intro v0 (And.intro vv1 vv2))
     have HTT := Lib.hid (And.intro t0 (And.intro t1 t2))
     clear hst ho hxg e0 e1 e2 e3 u1 u2 v0 vv1 vv2 t0 t1 t2 hk0 hq0
     obtain ⟨wR, hwR⟩ : ∃ x, x = wr := ⟨_, rfl⟩
     go_wp2_with fail
     rw [← hwR]
     rw [← hwR] at HK
     clear hwR
     refine wp_region_val (Below wR.heap.size) (fun L vs W => BxC wR.heap.size (L 29) (L 30) (vs 29) #[.int .i64 y0, .int .i64 y1, .int .i64 y2] W ∧ Below wR.heap.size wR W) [Is (.slice (some ⟨b, off, none⟩) n c), Is (.int .i64 (i : Nat)), Is (.pointer (some ⟨b, off + i * 3, none⟩)), Is (.pointer (some ⟨b, off + i * 3, none⟩)), Is (.int .i64 x0), Is (.int .i64 (k : Nat)), Is (.int .i64 (r0 : Nat)), Is (.int .i64 (x0 + (r0 : Nat))), Is (.int .i64 y0), Is (.slice (some ⟨b, off, none⟩) n c), Is (.int .i64 (i : Nat)), Is (.pointer (some ⟨b, off + i * 3, none⟩)), Is (.pointer (some ⟨b, off + i * 3 + 1, none⟩)), Is (.int .i64 x1), Is (.int .i64 (k : Nat)), Is (.int .i64 (q1 : Nat)), Is (.int .i64 (r1 : Nat)), Is (.int .i64 (x1 + (r1 : Nat))), Is (.int .i64 y1), Is (.slice (some ⟨b, off, none⟩) n c), Is (.int .i64 (i : Nat)), Is (.pointer (some ⟨b, off + i * 3, none⟩)), Is (.pointer (some ⟨b, off + i * 3 + 2, none⟩)), Is (.int .i64 x2), Is (.int .i64 (k : Nat)), Is (.int .i64 (r2 : Nat)), Is (.int .i64 (x2 + (r2 : Nat))), Is (.int .i64 y2), Is (.agg #[.int .i64 y0, .int .i64 y1, .int .i64 y2]), AnyV, AnyV] (by kernel_rfl) (by kernel_rfl) rfl (Below.refl wR.heap.size) (fun _ _ _ => Below.trans) (stable_mem ⟨fun _ _ _ h _ => h, fun _ _ _ h _ => h, fun _ _ _ h _ => h, fun _ _ _ h _ => h, fun _ _ _ h _ => h, fun _ _ _ h _ => h, fun _ _ _ h _ => h, fun _ _ _ h _ => h, fun _ _ _ h _ => h, fun _ _ _ h _ => h, fun _ _ _ h _ => h, fun _ _ _ h _ => h, fun _ _ _ h _ => h, fun _ _ _ h _ => h, fun _ _ _ h _ => h, fun _ _ _ h _ => h, fun _ _ _ h _ => h, fun _ _ _ h _ => h, fun _ _ _ h _ => h, fun _ _ _ h _ => h, fun _ _ _ h _ => h, fun _ _ _ h _ => h, fun _ _ _ h _ => h, fun _ _ _ h _ => h, fun _ _ _ h _ => h, fun _ _ _ h _ => h, fun _ _ _ h _ => h, fun _ _ _ h _ => h, fun _ _ _ h _ => h, fun _ _ _ h _ => h, fun _ _ _ h _ => h, trivial⟩) wR (Below.drew (Below.refl _ _)) (And.intro (BxC.start (Nat.le_refl _)) (Below.drew (Below.refl _ _))) ?_
     refine val_cons ?_ (fun v0 => ?_)
     ·intro L vs w1 hvs hat hb hI hF; try simp [factsI, Region.binds, Is] at hF
      have HI2 := Lib.hid hI; clear hI
      go_simp
      refine ⟨Below.refl _ _, ?_⟩
      first | (simpa [upd] using HI2.out) | (simpa [upd] using HI2.out.1) | (simpa [upd] using And.intro HI2.out rfl)
     refine val_cons ?_ (fun v1 => ?_)
     ·intro L vs w1 hvs hat hb hI hF; try simp [factsI, Region.binds, Is] at hF
      have HI2 := Lib.hid hI; clear hI
      go_simp
      refine ⟨Below.refl _ _, ?_⟩
      first | (simpa [upd] using HI2.out) | (simpa [upd] using HI2.out.1) | (simpa [upd] using And.intro HI2.out rfl)
     refine val_cons ?_ (fun v2 => ?_)
     ·intro L vs w1 hvs hat hb hI hF; try simp [factsI, Region.binds, Is] at hF
      have HI2 := Lib.hid hI; clear hI
      go_simp
      refine ⟨Below.refl _ _, ?_⟩
      first | (simpa [upd] using HI2.out) | (simpa [upd] using HI2.out.1) | (simpa [upd] using And.intro HI2.out rfl)
     refine val_cons ?_ (fun v3 => ?_)
     ·intro L vs w1 hvs hat hb hI hF; try simp [factsI, Region.binds, Is] at hF
      have HI2 := Lib.hid hI; clear hI
      go_simp
      refine ⟨Below.refl _ _, ?_⟩
      first | (simpa [upd] using HI2.out) | (simpa [upd] using HI2.out.1) | (simpa [upd] using And.intro HI2.out rfl)
     refine val_cons ?_ (fun v4 => ?_)
     ·intro L vs w1 hvs hat hb hI hF; try simp [factsI, Region.binds, Is] at hF
      obtain ⟨b', off', h1, hCs, _⟩ := (HK.out.2.2.2.2.mono hI.2).at HX.out
      cases h1
      obtain ⟨z0, z1, z2⟩ := cl_cells hCs HX.out
      have lz := hCs.1
      have HI2 := Lib.hid hI; clear hI hCs
      go_simp
      refine ⟨Below.refl _ _, ?_⟩
      first | (simpa [upd] using HI2.out) | (simpa [upd] using HI2.out.1) | (simpa [upd] using And.intro HI2.out rfl)
     refine val_cons ?_ (fun v5 => ?_)
     ·intro L vs w1 hvs hat hb hI hF; try simp [factsI, Region.binds, Is] at hF
      have HI2 := Lib.hid hI; clear hI
      go_simp
      refine ⟨Below.refl _ _, ?_⟩
      first | (simpa [upd] using HI2.out) | (simpa [upd] using HI2.out.1) | (simpa [upd] using And.intro HI2.out rfl)
     refine val_cons ?_ (fun v6 => ?_)
     ·intro L vs w1 hvs hat hb hI hF; try simp [factsI, Region.binds, Is] at hF
      have HI2 := Lib.hid hI; clear hI
      have e0 := HE0.out.1.1; have e0t := HE0.out.1.2; have hk0 := HE0.out.2
      go_simp
      refine ⟨Below.refl _ _, ?_⟩
      first | (simpa [upd] using HI2.out) | (simpa [upd] using HI2.out.1) | (simpa [upd] using And.intro HI2.out rfl)
     refine val_cons ?_ (fun v7 => ?_)
     ·intro L vs w1 hvs hat hb hI hF; try simp [factsI, Region.binds, Is] at hF
      have HI2 := Lib.hid hI; clear hI
      have v0 := HV.out.1
      go_simp
      refine ⟨Below.refl _ _, ?_⟩
      first | (simpa [upd] using HI2.out) | (simpa [upd] using HI2.out.1) | (simpa [upd] using And.intro HI2.out rfl)
     refine val_cons ?_ (fun v8 => ?_)
     ·intro L vs w1 hvs hat hb hI hF; try simp [factsI, Region.binds, Is] at hF
      have HI2 := Lib.hid hI; clear hI
      have t0 := HTT.out.1
      go_simp
      refine ⟨Below.refl _ _, ?_⟩
      first | (simpa [upd] using HI2.out) | (simpa [upd] using HI2.out.1) | (simpa [upd] using And.intro HI2.out rfl)
     refine val_cons ?_ (fun v9 => ?_)
     ·intro L vs w1 hvs hat hb hI hF; try simp [factsI, Region.binds, Is] at hF
      have HI2 := Lib.hid hI; clear hI
      go_simp
      refine ⟨Below.refl _ _, ?_⟩
      first | (simpa [upd] using HI2.out) | (simpa [upd] using HI2.out.1) | (simpa [upd] using And.intro HI2.out rfl)
     refine val_cons ?_ (fun v10 => ?_)
     ·intro L vs w1 hvs hat hb hI hF; try simp [factsI, Region.binds, Is] at hF
      have HI2 := Lib.hid hI; clear hI
      go_simp
      refine ⟨Below.refl _ _, ?_⟩
      first | (simpa [upd] using HI2.out) | (simpa [upd] using HI2.out.1) | (simpa [upd] using And.intro HI2.out rfl)
     refine val_cons ?_ (fun v11 => ?_)
     ·intro L vs w1 hvs hat hb hI hF; try simp [factsI, Region.binds, Is] at hF
      have HI2 := Lib.hid hI; clear hI
      go_simp
      refine ⟨Below.refl _ _, ?_⟩
      first | (simpa [upd] using HI2.out) | (simpa [upd] using HI2.out.1) | (simpa [upd] using And.intro HI2.out rfl)
     refine val_cons ?_ (fun v12 => ?_)
     ·intro L vs w1 hvs hat hb hI hF; try simp [factsI, Region.binds, Is] at hF
      have HI2 := Lib.hid hI; clear hI
      go_simp
      refine ⟨Below.refl _ _, ?_⟩
      first | (simpa [upd] using HI2.out) | (simpa [upd] using HI2.out.1) | (simpa [upd] using And.intro HI2.out rfl)
     refine val_cons ?_ (fun v13 => ?_)
     ·intro L vs w1 hvs hat hb hI hF; try simp [factsI, Region.binds, Is] at hF
      obtain ⟨b', off', h1, hCs, _⟩ := (HK.out.2.2.2.2.mono hI.2).at HX.out
      cases h1
      obtain ⟨z0, z1, z2⟩ := cl_cells hCs HX.out
      have lz := hCs.1
      have HI2 := Lib.hid hI; clear hI hCs
      go_simp
      refine ⟨Below.refl _ _, ?_⟩
      first | (simpa [upd] using HI2.out) | (simpa [upd] using HI2.out.1) | (simpa [upd] using And.intro HI2.out rfl)
     refine val_cons ?_ (fun v14 => ?_)
     ·intro L vs w1 hvs hat hb hI hF; try simp [factsI, Region.binds, Is] at hF
      have HI2 := Lib.hid hI; clear hI
      go_simp
      refine ⟨Below.refl _ _, ?_⟩
      first | (simpa [upd] using HI2.out) | (simpa [upd] using HI2.out.1) | (simpa [upd] using And.intro HI2.out rfl)
     refine val_cons ?_ (fun v15 => ?_)
     ·intro L vs w1 hvs hat hb hI hF; try simp [factsI, Region.binds, Is] at hF
      have HI2 := Lib.hid hI; clear hI
      have e1 := HE1.out.1.1; have e1t := HE1.out.1.2; have u1 := HE1.out.2.1; have hk0 := HE1.out.2.2
      go_simp
      refine ⟨Below.refl _ _, ?_⟩
      first | (simpa [upd] using HI2.out) | (simpa [upd] using HI2.out.1) | (simpa [upd] using And.intro HI2.out rfl)
     refine val_cons ?_ (fun v16 => ?_)
     ·intro L vs w1 hvs hat hb hI hF; try simp [factsI, Region.binds, Is] at hF
      have HI2 := Lib.hid hI; clear hI
      have e2 := HE2.out.1.1; have e2t := HE2.out.1.2; have hq0 := HE2.out.2
      go_simp
      refine ⟨Below.refl _ _, ?_⟩
      first | (simpa [upd] using HI2.out) | (simpa [upd] using HI2.out.1) | (simpa [upd] using And.intro HI2.out rfl)
     refine val_cons ?_ (fun v17 => ?_)
     ·intro L vs w1 hvs hat hb hI hF; try simp [factsI, Region.binds, Is] at hF
      have HI2 := Lib.hid hI; clear hI
      have vv1 := HV.out.2.1
      go_simp
      refine ⟨Below.refl _ _, ?_⟩
      first | (simpa [upd] using HI2.out) | (simpa [upd] using HI2.out.1) | (simpa [upd] using And.intro HI2.out rfl)
     refine val_cons ?_ (fun v18 => ?_)
     ·intro L vs w1 hvs hat hb hI hF; try simp [factsI, Region.binds, Is] at hF
      have HI2 := Lib.hid hI; clear hI
      have t1 := HTT.out.2.1
      go_simp
      refine ⟨Below.refl _ _, ?_⟩
      first | (simpa [upd] using HI2.out) | (simpa [upd] using HI2.out.1) | (simpa [upd] using And.intro HI2.out rfl)
     refine val_cons ?_ (fun v19 => ?_)
     ·intro L vs w1 hvs hat hb hI hF; try simp [factsI, Region.binds, Is] at hF
      have HI2 := Lib.hid hI; clear hI
      go_simp
      refine ⟨Below.refl _ _, ?_⟩
      first | (simpa [upd] using HI2.out) | (simpa [upd] using HI2.out.1) | (simpa [upd] using And.intro HI2.out rfl)
     refine val_cons ?_ (fun v20 => ?_)
     ·intro L vs w1 hvs hat hb hI hF; try simp [factsI, Region.binds, Is] at hF
      have HI2 := Lib.hid hI; clear hI
      go_simp
      refine ⟨Below.refl _ _, ?_⟩
      first | (simpa [upd] using HI2.out) | (simpa [upd] using HI2.out.1) | (simpa [upd] using And.intro HI2.out rfl)
     refine val_cons ?_ (fun v21 => ?_)
     ·intro L vs w1 hvs hat hb hI hF; try simp [factsI, Region.binds, Is] at hF
      have HI2 := Lib.hid hI; clear hI
      go_simp
      refine ⟨Below.refl _ _, ?_⟩
      first | (simpa [upd] using HI2.out) | (simpa [upd] using HI2.out.1) | (simpa [upd] using And.intro HI2.out rfl)
     refine val_cons ?_ (fun v22 => ?_)
     ·intro L vs w1 hvs hat hb hI hF; try simp [factsI, Region.binds, Is] at hF
      have HI2 := Lib.hid hI; clear hI
      go_simp
      refine ⟨Below.refl _ _, ?_⟩
      first | (simpa [upd] using HI2.out) | (simpa [upd] using HI2.out.1) | (simpa [upd] using And.intro HI2.out rfl)
     refine val_cons ?_ (fun v23 => ?_)
     ·intro L vs w1 hvs hat hb hI hF; try simp [factsI, Region.binds, Is] at hF
      obtain ⟨b', off', h1, hCs, _⟩ := (HK.out.2.2.2.2.mono hI.2).at HX.out
      cases h1
      obtain ⟨z0, z1, z2⟩ := cl_cells hCs HX.out
      have lz := hCs.1
      have HI2 := Lib.hid hI; clear hI hCs
      go_simp
      refine ⟨Below.refl _ _, ?_⟩
      first | (simpa [upd] using HI2.out) | (simpa [upd] using HI2.out.1) | (simpa [upd] using And.intro HI2.out rfl)
     refine val_cons ?_ (fun v24 => ?_)
     ·intro L vs w1 hvs hat hb hI hF; try simp [factsI, Region.binds, Is] at hF
      have HI2 := Lib.hid hI; clear hI
      go_simp
      refine ⟨Below.refl _ _, ?_⟩
      first | (simpa [upd] using HI2.out) | (simpa [upd] using HI2.out.1) | (simpa [upd] using And.intro HI2.out rfl)
     refine val_cons ?_ (fun v25 => ?_)
     ·intro L vs w1 hvs hat hb hI hF; try simp [factsI, Region.binds, Is] at hF
      have HI2 := Lib.hid hI; clear hI
      have e3 := HE3.out.1.1; have e3t := HE3.out.1.2; have u2 := HE3.out.2.1; have hk0 := HE3.out.2.2
      go_simp
      refine ⟨Below.refl _ _, ?_⟩
      first | (simpa [upd] using HI2.out) | (simpa [upd] using HI2.out.1) | (simpa [upd] using And.intro HI2.out rfl)
     refine val_cons ?_ (fun v26 => ?_)
     ·intro L vs w1 hvs hat hb hI hF; try simp [factsI, Region.binds, Is] at hF
      have HI2 := Lib.hid hI; clear hI
      have vv2 := HV.out.2.2
      go_simp
      refine ⟨Below.refl _ _, ?_⟩
      first | (simpa [upd] using HI2.out) | (simpa [upd] using HI2.out.1) | (simpa [upd] using And.intro HI2.out rfl)
     refine val_cons ?_ (fun v27 => ?_)
     ·intro L vs w1 hvs hat hb hI hF; try simp [factsI, Region.binds, Is] at hF
      have HI2 := Lib.hid hI; clear hI
      have t2 := HTT.out.2.2
      go_simp
      refine ⟨Below.refl _ _, ?_⟩
      first | (simpa [upd] using HI2.out) | (simpa [upd] using HI2.out.1) | (simpa [upd] using And.intro HI2.out rfl)
     refine val_cons ?_ (fun v28 => ?_)
     ·intro L vs w1 hvs hat hb hI hF; try simp [factsI, Region.binds, Is] at hF
      have HI2 := Lib.hid hI; clear hI
      go_simp
      refine ⟨Below.refl _ _, ?_⟩
      first | (simpa [upd] using HI2.out) | (simpa [upd] using HI2.out.1) | (simpa [upd] using And.intro HI2.out rfl)
     refine val_cons ?_ (fun v29 => ?_)
     ·intro L vs w1 hvs hat hb hI hF; try simp [factsI, Region.binds, Is] at hF
      have h8 : L 30 = false := hat.later 40 30 (by kernel_rfl)
      have hI1 := hI.1
      rw [h8] at hI1
      have HI2 := Lib.hid (And.intro hI1 hI.2); clear hI hI1
      have hle := HI2.out.1.le
      go_simp
      refine ⟨below_allocN (Below.refl _ _) hle _, ?_, trivial⟩
      simpa [upd, h8] using And.intro (HI2.out.1.new) (below_allocN HI2.out.2 hle _)
     refine val_cons ?_ (fun v30 => ?_)
     ·intro L vs w1 hvs hat hb hI hF; try simp [factsI, Region.binds, Is] at hF
      have h7 := hat.ahead 40 29 (by kernel_rfl)
      have hv7 : vs 29 = v29 := hvs 29 (by omega)
      have h8 : L 30 = false := hat.self
      have hI1 := hI.1
      rw [h8] at hI1
      have HI2 := Lib.hid hI.2
      obtain ⟨b7, hle7, e7, hB7⟩ := hI1.get0 h7
      rw [hv7] at e7
      subst e7
      have HR := Lib.hid (BxC.row (cs := #[.int .i64 y0, .int .i64 y1, .int .i64 y2]) hI1.le hle7 hB7)
      have hB9 := blw_rowsS (w := w1) hle7 #[.int .i64 0, .int .i64 0, .int .i64 0] #[.int .i64 y0, .int .i64 y1, .int .i64 y2]
      rw [hB7.rw] at hB9
      have HR2 := Lib.hid (hI.2.trans hB9)
      clear hB9
      have r8 := hB7.row; have l8 := hB7.lt
      have HLE := Lib.hid hle7
      rw [← hB7.rw]
      clear hI hI1 hB7 hvs
      go_simp
      refine ⟨blw_rowsS HLE.out _ _, ?_, trivial⟩
      simpa [upd, h7, hv7] using And.intro HR.out HR2.out
     refine val_nil ?_
     intro vs w1 hvs hb hI hF
     simp [Is, Nat.forall_lt_succ_right] at hF
     have e0 := hF.1.1.1.1.1.1.1.1.1.1.1.1.1.1.1.1.1.1.1.1.1.1.1.1.1.1.1.1.1.1
     have e1 := hF.1.1.1.1.1.1.1.1.1.1.1.1.1.1.1.1.1.1.1.1.1.1.1.1.1.1.1.1.1.2
     have e2 := hF.1.1.1.1.1.1.1.1.1.1.1.1.1.1.1.1.1.1.1.1.1.1.1.1.1.1.1.1.2
     have e3 := hF.1.1.1.1.1.1.1.1.1.1.1.1.1.1.1.1.1.1.1.1.1.1.1.1.1.1.1.2
     have e4 := hF.1.1.1.1.1.1.1.1.1.1.1.1.1.1.1.1.1.1.1.1.1.1.1.1.1.1.2
     have e5 := hF.1.1.1.1.1.1.1.1.1.1.1.1.1.1.1.1.1.1.1.1.1.1.1.1.1.2
     have e6 := hF.1.1.1.1.1.1.1.1.1.1.1.1.1.1.1.1.1.1.1.1.1.1.1.1.2
     have e7 := hF.1.1.1.1.1.1.1.1.1.1.1.1.1.1.1.1.1.1.1.1.1.1.1.2
     have e8 := hF.1.1.1.1.1.1.1.1.1.1.1.1.1.1.1.1.1.1.1.1.1.1.2
     have e9 := hF.1.1.1.1.1.1.1.1.1.1.1.1.1.1.1.1.1.1.1.1.1.2
     have e10 := hF.1.1.1.1.1.1.1.1.1.1.1.1.1.1.1.1.1.1.1.1.2
     have e11 := hF.1.1.1.1.1.1.1.1.1.1.1.1.1.1.1.1.1.1.1.2
     have e12 := hF.1.1.1.1.1.1.1.1.1.1.1.1.1.1.1.1.1.1.2
     have e13 := hF.1.1.1.1.1.1.1.1.1.1.1.1.1.1.1.1.1.2
     have e14 := hF.1.1.1.1.1.1.1.1.1.1.1.1.1.1.1.1.2
     have e15 := hF.1.1.1.1.1.1.1.1.1.1.1.1.1.1.1.2
     have e16 := hF.1.1.1.1.1.1.1.1.1.1.1.1.1.1.2
     have e17 := hF.1.1.1.1.1.1.1.1.1.1.1.1.1.2
     have e18 := hF.1.1.1.1.1.1.1.1.1.1.1.1.2
     have e19 := hF.1.1.1.1.1.1.1.1.1.1.1.2
     have e20 := hF.1.1.1.1.1.1.1.1.1.1.2
     have e21 := hF.1.1.1.1.1.1.1.1.1.2
     have e22 := hF.1.1.1.1.1.1.1.1.2
     have e23 := hF.1.1.1.1.1.1.1.2
     have e24 := hF.1.1.1.1.1.1.2
     have e25 := hF.1.1.1.1.1.2
     have e26 := hF.1.1.1.1.2
     have e27 := hF.1.1.1.2
     have e28 := hF.1.1.2
     have e29 := hF.1.2
     have e30 := hF.2
     clear hF
     simp only [Act.put, List.setIfInBounds_toArray, List.set_cons_succ, List.set_cons_zero, e0, e1, e2, e3, e4, e5, e6, e7, e8, e9, e10, e11, e12, e13, e14, e15, e16, e17, e18, e19, e20, e21, e22, e23, e24, e25, e26, e27, e28]
     clear e0 e1 e2 e3 e4 e5 e6 e7 e8 e9 e10 e11 e12 e13 e14 e15 e16 e17 e18 e19 e20 e21 e22 e23 e24 e25 e26 e27 e28
     have hbx := hI.1.get1 (by decide)
     have hv7 : vs 29 = v29 := hvs 29 (by omega)
     obtain ⟨g7, hg7, hp, hB7⟩ := hbx
     rw [hv7] at hp
     subst hp
     have hb2 : Below wR.heap.size wR w1 := hI.2
     have HK2 : Hid (Blk w1 g7 #[.int .i64 y0, .int .i64 y1, .int .i64 y2] 60 ∧ Blk w1 ga #[.int .u64 (pl A 0), .int .u64 (pl A 1), .int .u64 (pl A 2), .int .u64 (pl A 3), .int .u64 (pl A 4), .int .u64 (pl A 5), .int .u64 (pl A 6), .int .u64 (pl A 7)] 26 ∧ Blk w1 (w.heap.size + 1) #[.int .u64 0, .int .u64 0, .int .u64 0, .int .u64 0, .int .u64 0, .int .u64 0, .int .u64 0, .int .u64 0] 26 ∧ Below w.heap.size w w1 ∧ ClO N0 w1 (some ⟨b, off, none⟩) L) := Lib.hid ⟨hB7, HK.out.2.1.grow hb2, HK.out.2.2.1.grow hb2, bel_trans HK.out.2.2.2.1 hb2, HK.out.2.2.2.2.mono hb2⟩
     obtain ⟨wS, hwS⟩ : ∃ x, x = w1 := ⟨_, rfl⟩
     rw [← hwS] at HK2 ⊢
     clear hwS hI hb hb2 hvs hv7 hB7 hg7 e29 e30 HK
     have c7 := HK2.out.1.cell; have l7 := HK2.out.1.lt
     go_upto_region 10 with fail
     go_wp2_with fail
     clear c7 l7
     have hcl1 : ClO 0 (wS.alloc (.cells #[.int .i64 y0, .int .i64 y1, .int .i64 y2] 60)) (some ⟨wS.heap.size, 0, none⟩) [(y0, y1, y2)] := by
      have hB := Blk.new wS #[.int .i64 y0, .int .i64 y1, .int .i64 y2] 60
      refine .inr ⟨wS.heap.size, 0, rfl, ⟨hB.lt, fun i j u hu => ?_⟩, Nat.zero_le _⟩
      rw [hB.cell]
      match i, j, hu with
      | 0, 0, hu => simpa using hu
      | 0, 1, hu => simpa using hu
      | 0, 2, hu => simpa using hu
      | 0, j + 3, hu => simp [clL] at hu
      | i + 1, j, hu => simp at hu
     have HOf := refOf_n (c := 1) hcl1
     rw [ofM_one] at HOf
     have HK3 : Hid (Blk (wS.alloc (.cells #[.int .i64 y0, .int .i64 y1, .int .i64 y2] 60)) ga #[.int .u64 (pl A 0), .int .u64 (pl A 1), .int .u64 (pl A 2), .int .u64 (pl A 3), .int .u64 (pl A 4), .int .u64 (pl A 5), .int .u64 (pl A 6), .int .u64 (pl A 7)] 26 ∧ Blk (wS.alloc (.cells #[.int .i64 y0, .int .i64 y1, .int .i64 y2] 60)) (w.heap.size + 1) #[.int .u64 0, .int .u64 0, .int .u64 0, .int .u64 0, .int .u64 0, .int .u64 0, .int .u64 0, .int .u64 0] 26 ∧ Below w.heap.size w (wS.alloc (.cells #[.int .i64 y0, .int .i64 y1, .int .i64 y2] 60)) ∧ ClO N0 (wS.alloc (.cells #[.int .i64 y0, .int .i64 y1, .int .i64 y2] 60)) (some ⟨b, off, none⟩) L) := Lib.hid ⟨HK2.out.2.1.alloc _, HK2.out.2.2.1.alloc _, bel_alloc HK2.out.2.2.2.1 _, HK2.out.2.2.2.2.mono (bel_alloc (bel_refl _) _)⟩
     obtain ⟨wT, hwT⟩ : ∃ x, x = wS.alloc (.cells #[.int .i64 y0, .int .i64 y1, .int .i64 y2] 60) := ⟨_, rfl⟩
     rw [← hwT] at HK3 HOf
     have HOf2 := Lib.hid HOf
     obtain ⟨gs, hgs⟩ : ∃ x, x = wS.heap.size := ⟨_, rfl⟩
     rw [← hgs] at HOf2
     rw [← hwT, ← hgs]
     clear hwT hgs hcl1 HOf HK2
     have hgo := HO.out.1
     cases hgy : inG (y0, y1, y2) with
     | false =>
      have hst := HST.out
      rw [accG_no hgy] at hst
      have ho2 := HOf2.out
      rw [hgy] at ho2
      refine (show Calls Tryz.prog 78 #[.slice (some ⟨gs, 0, none⟩) 1 1] wT fun e w' => e = .returned (.tuple #[solV 0, .int .i64 1]) ∧ Below wT.heap.size wT w' from ho2).mono ?_
      rintro e1 w5 ⟨rfl, hb⟩
      have HE := Lib.hid (And.intro hst (And.intro ((HK3.out.1.grow hb).alloc (.cells #[.int .u64 (pl (0 : Sol) 0), .int .u64 (pl (0 : Sol) 1), .int .u64 (pl (0 : Sol) 2), .int .u64 (pl (0 : Sol) 3), .int .u64 (pl (0 : Sol) 4), .int .u64 (pl (0 : Sol) 5), .int .u64 (pl (0 : Sol) 6), .int .u64 (pl (0 : Sol) 7)] 26)) (And.intro ((HK3.out.2.1.grow hb).alloc (.cells #[.int .u64 (pl (0 : Sol) 0), .int .u64 (pl (0 : Sol) 1), .int .u64 (pl (0 : Sol) 2), .int .u64 (pl (0 : Sol) 3), .int .u64 (pl (0 : Sol) 4), .int .u64 (pl (0 : Sol) 5), .int .u64 (pl (0 : Sol) 6), .int .u64 (pl (0 : Sol) 7)] 26)) (And.intro (bel_alloc (bel_trans HK3.out.2.2.1 hb) (.cells #[.int .u64 (pl (0 : Sol) 0), .int .u64 (pl (0 : Sol) 1), .int .u64 (pl (0 : Sol) 2), .int .u64 (pl (0 : Sol) 3), .int .u64 (pl (0 : Sol) 4), .int .u64 (pl (0 : Sol) 5), .int .u64 (pl (0 : Sol) 6), .int .u64 (pl (0 : Sol) 7)] 26)) ((HK3.out.2.2.2.mono hb).mono (bel_alloc (bel_refl _) (.cells #[.int .u64 (pl (0 : Sol) 0), .int .u64 (pl (0 : Sol) 1), .int .u64 (pl (0 : Sol) 2), .int .u64 (pl (0 : Sol) 3), .int .u64 (pl (0 : Sol) 4), .int .u64 (pl (0 : Sol) 5), .int .u64 (pl (0 : Sol) 6), .int .u64 (pl (0 : Sol) 7)] 26)))))))
      clear hb hst ho2 hgy hgo
      go_wp2_with fail
      go_roundw
      case rel => exact ⟨k + 1, A, by omega, by go_num, HE⟩
      case measure => simp [intOf]; omega
     | true =>
      have hst := HST.out
      rw [accG_yes hgy] at hst
      have ho2 := HOf2.out
      rw [hgy] at ho2
      obtain ⟨p, hp⟩ : ∃ p, p = 0 ||| Go.Solid.one (bitN (y0, y1, y2)) := ⟨_, rfl⟩
      have ho3 : Calls Tryz.prog 78 #[.slice (some ⟨gs, 0, none⟩) 1 1] wT fun e w' => e = .returned (.tuple #[solV p, .int .i64 0]) ∧ Below wT.heap.size wT w' := by rw [hp]; exact ho2
      have HJ1 := Lib.hid fun W => HJ.out A p W
      have hjq : A ||| p = A ||| Go.Solid.one (bitN (y0, y1, y2)) := by rw [hp]; exact or_zero _ _
      rw [hjq] at HJ1
      obtain ⟨Q, hQ⟩ : ∃ Q, Q = A ||| Go.Solid.one (bitN (y0, y1, y2)) := ⟨_, rfl⟩
      rw [← hQ] at HJ1 hst
      clear hp hjq hQ ho2
      refine ho3.mono ?_
      rintro e1 w5 ⟨rfl, hb⟩
      obtain ⟨wU, hwU⟩ : ∃ x, x = w5.alloc (.cells #[.int .u64 (pl p 0), .int .u64 (pl p 1), .int .u64 (pl p 2), .int .u64 (pl p 3), .int .u64 (pl p 4), .int .u64 (pl p 5), .int .u64 (pl p 6), .int .u64 (pl p 7)] 26) := ⟨_, rfl⟩
      obtain ⟨g8, hg8⟩ : ∃ x, x = w5.heap.size := ⟨_, rfl⟩
      have HU : Hid (Blk wU g8 #[.int .u64 (pl p 0), .int .u64 (pl p 1), .int .u64 (pl p 2), .int .u64 (pl p 3), .int .u64 (pl p 4), .int .u64 (pl p 5), .int .u64 (pl p 6), .int .u64 (pl p 7)] 26 ∧ Blk wU ga #[.int .u64 (pl A 0), .int .u64 (pl A 1), .int .u64 (pl A 2), .int .u64 (pl A 3), .int .u64 (pl A 4), .int .u64 (pl A 5), .int .u64 (pl A 6), .int .u64 (pl A 7)] 26 ∧ Blk wU (w.heap.size + 1) #[.int .u64 0, .int .u64 0, .int .u64 0, .int .u64 0, .int .u64 0, .int .u64 0, .int .u64 0, .int .u64 0] 26 ∧ Below w.heap.size w wU ∧ ClO N0 wU (some ⟨b, off, none⟩) L) := Lib.hid (by
       rw [hwU, hg8]
       exact ⟨Blk.new _ _ _, (HK3.out.1.grow hb).alloc _, (HK3.out.2.1.grow hb).alloc _, bel_alloc (bel_trans HK3.out.2.2.1 hb) _, (HK3.out.2.2.2.mono hb).mono (bel_alloc (bel_refl _) _)⟩)
      have HSt := Lib.hid hst
      go_upto_region 11 with fail
      rw [← hwU, ← hg8]
      clear hwU hg8 hb hst ho3 hgy hgo
      have c8 := HU.out.1.cell; have l8 := HU.out.1.lt
      have ca := HU.out.2.1.cell; have la := HU.out.2.1.lt
      go_wp2_with fail
      clear c8 l8 ca la
      refine (HJ1.out _).mono ?_
      rintro e1 w6 ⟨rfl, hb⟩
      have kA := HU.out.2.1.grow hb
      have hgo := HO.out
      have hgo1 := HO.out.1
      have HE := Lib.hid (And.intro HSt.out (And.intro (kA.rowS #[.int .u64 (pl Q 0), .int .u64 (pl Q 1), .int .u64 (pl Q 2), .int .u64 (pl Q 3), .int .u64 (pl Q 4), .int .u64 (pl Q 5), .int .u64 (pl Q 6), .int .u64 (pl Q 7)]) (And.intro ((HU.out.2.2.1.grow hb).rowO (g := ga) #[.int .u64 (pl Q 0), .int .u64 (pl Q 1), .int .u64 (pl Q 2), .int .u64 (pl Q 3), .int .u64 (pl Q 4), .int .u64 (pl Q 5), .int .u64 (pl Q 6), .int .u64 (pl Q 7)] (by omega)) (And.intro (bel_row (bel_trans HU.out.2.2.2.1 hb) (g := ga) (by omega) #[.int .u64 (pl Q 0), .int .u64 (pl Q 1), .int .u64 (pl Q 2), .int .u64 (pl Q 3), .int .u64 (pl Q 4), .int .u64 (pl Q 5), .int .u64 (pl Q 6), .int .u64 (pl Q 7)]) ((HU.out.2.2.2.2.mono hb).rowN (g := ga) (fun b' off' h1 h2 => by have := hgo.2 b' off' h1 h2; omega) #[.int .u64 (pl Q 0), .int .u64 (pl Q 1), .int .u64 (pl Q 2), .int .u64 (pl Q 3), .int .u64 (pl Q 4), .int .u64 (pl Q 5), .int .u64 (pl Q 6), .int .u64 (pl Q 7)])))))
      have ra := kA.row; have la := kA.lt
      rw [← kA.rw]
      clear kA hgo hgo1 hb HU
      go_wp2_with fail
      go_roundw
      case rel => exact ⟨k + 1, Q, by omega, by go_num, HE⟩
      case measure => simp [intOf]; omega
    ·obtain rfl : k = 27 := by omega
     have hst := HK.out.1
     rw [HB2x.out] at hst
     have HE := Lib.hid (And.intro hst HK.out.2)
     clear hst HK
     go_wp2_with fail
     go_roundw
     case rel => exact ⟨i + 1, A, by omega, by go_num, HE⟩
     case measure => simp [intOf]; omega
  ·obtain rfl : i = n := by omega
   have hst := HM.out.1
   rw [HA2.out, accG_nil] at hst
   have HR := Lib.hid hst
   obtain ⟨-, k1, k2, k3, -⟩ := HM.out
   have ho := HO.out.1
   have c1 := (k1.rowO (g := w.heap.size + 1) #[.int .u64 0, .int .u64 0, .int .u64 0, .int .u64 0, .int .u64 0, .int .u64 0, .int .u64 0, .int .u64 0] (by omega)).cell
   have l1 := k1.lt
   have r2 := k2.row; have l2 := k2.lt
   have cF := (k2.rowS #[.int .u64 (pl A 0), .int .u64 (pl A 1), .int .u64 (pl A 2), .int .u64 (pl A 3), .int .u64 (pl A 4), .int .u64 (pl A 5), .int .u64 (pl A 6), .int .u64 (pl A 7)]).cell
   have hb5 := bel_row k3 (g := w.heap.size + 1) (by omega) #[.int .u64 (pl A 0), .int .u64 (pl A 1), .int .u64 (pl A 2), .int .u64 (pl A 3), .int .u64 (pl A 4), .int .u64 (pl A 5), .int .u64 (pl A 6), .int .u64 (pl A 7)]
   rw [← k2.rw]
   clear k1 k2 k3 HM ho hst
   go_wp2_with fail
   exact bodyPost_ret (v := solV A) (by simp [results, Tryz.results56, go_sem, cF]) rfl ⟨by rw [HR.out], hb5⟩
end Go.Proofs.YtkfimbonmnoglaaGreatDoor
end
section
namespace Go.Proofs.YtkfimbonmnoglaaGreatDoor
open Go.RowKit Go.Rel Go.Draw Go.Solid
set_option maxRecDepth 100000
attribute [local go_sem] Oper.semAt_some
def allP (s : Sol) (i : Nat) : Sol := ((partsS s).take i).foldl (fun a b => a ||| b) 0
def eulP2 (s : Sol) (i : Nat) : Int := (((partsS s).take i).map eulerS).sum
def sknP (s : Sol) (i : Nat) : Nat := (((partsS s).take i).map skinS).sum
theorem allP_step {s K : Sol} {i : Nat} (h : (partsS s)[i]? = some K) : allP s i ||| K = allP s (i + 1) ∧ allP s i &&& grownS K = 0 ∧ (K == 0#512) = false ∧ (partsS K).length = 1 ∧ eulP2 s (i + 1) = eulP2 s i + eulerS K ∧ sknP s (i + 1) = sknP s i + skinS K := by
 obtain ⟨hi, hK⟩ := List.getElem?_eq_some_iff.1 h
 have hm : K ∈ partsS s := List.mem_of_getElem? h
 refine ⟨?_, ?_, beq_eq_false_iff_ne.2 (classes_ne (steps_sym false) hm), ?_, ?_, ?_⟩
 ·unfold allP
  rw [List.take_add_one, h, List.foldl_append]; rfl
 ·refine meet_zero.2 fun c hc => ?_
  have hc2 : hasS (allP s i) c = true := hc
  unfold allP at hc2
  rw [orAll_has] at hc2
  rcases hc2 with h0 | ⟨B, hB, hBc⟩
  ·rw [has_zero] at h0; cases h0
  ·obtain ⟨j, hj, hjB⟩ := List.mem_take_iff_getElem.1 hB
   have hp := List.pairwise_iff_getElem.1 (parts_apart (s := s)) j i (by omega) hi (by omega)
   rw [hjB, hK] at hp
   exact meet_zero.1 hp c hBc
 ·obtain ⟨c, _, hc, _⟩ := (classes_parts (steps_sym false) s).comp K hm
  have := parts_part (steps_sym false) hc
  show (classesS (stepsL false) K).length = 1
  rw [this]; rfl
 ·unfold eulP2
  rw [List.take_add_one, h, List.map_append, List.sum_append]; simp
 ·unfold sknP
  rw [List.take_add_one, h, List.map_append, List.sum_append]; simp
theorem allP_end (s : Sol) : allP s 0 = 0 ∧ eulP2 s 0 = 0 ∧ sknP s 0 = 0 ∧ allP s (partsS s).length = s ∧ eulP2 s (partsS s).length = eulerS s ∧ sknP s (partsS s).length = skinS s := by
 refine ⟨rfl, rfl, rfl, ?_, ?_, ?_⟩
 ·unfold allP; rw [List.take_length]; exact parts_join
 ·unfold eulP2; rw [List.take_length]; exact (euler_parts s).symm
 ·unfold sknP; rw [List.take_length]; exact (skin_parts s).symm
theorem eulP2_le (s : Sol) : ∀ i : Nat, -(13824 * (i : Int)) ≤ eulP2 s i ∧ eulP2 s i ≤ 13824 * (i : Int)
 | 0 => by unfold eulP2; simp
 | i + 1 => by
  have ih := eulP2_le s i
  cases h : (partsS s)[i]? with
  | none =>
   have : eulP2 s (i + 1) = eulP2 s i := by unfold eulP2; rw [List.take_add_one, h]; simp
   rw [this]; omega
  | some K =>
   have h2 := (allP_step h).2.2.2.2.1
   have h3 := euler_le K
   rw [h2]; omega
theorem skin_small (s : Sol) : skinS s ≤ 3072 := by
 have h1 := skinP_le s (cellsS s)
 have h2 := cellsS_len s
 rw [skinP_all] at h1
 omega
theorem sknP_le (s : Sol) : ∀ i : Nat, sknP s i ≤ 3072 * i
 | 0 => by unfold sknP; simp
 | i + 1 => by
  have ih := sknP_le s i
  cases h : (partsS s)[i]? with
  | none =>
   have : sknP s (i + 1) = sknP s i := by unfold sknP; rw [List.take_add_one, h]; simp
   rw [this]; omega
  | some K =>
   have h2 := (allP_step h).2.2.2.2.2
   have h3 := skin_small K
   rw [h2]; omega
end Go.Proofs.YtkfimbonmnoglaaGreatDoor
end
