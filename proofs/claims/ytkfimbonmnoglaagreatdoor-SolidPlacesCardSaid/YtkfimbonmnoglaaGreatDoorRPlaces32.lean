import Derived.Test.YtkfimbonmnoglaaGreatDoorRPlaces30
import Derived.Deep.Cut
/-
  Given contracts of functions of the program, and laws for them, one behind the other.
-/
set_option linter.unusedVariables false
set_option linter.unusedSimpArgs false
set_option linter.unusedSectionVars false
section
namespace Go.Proofs.YtkfimbonmnoglaaGreatDoor
open Go.RowKit Go.Rel Go.Draw Go.Solid
set_option maxRecDepth 100000
attribute [local go_sem] Oper.semAt_some
theorem Cells.gbk {w w' : World} {b off k : Nat} {xs : List (List Value)} (h : Cells w b off k xs) {g : Nat} (hg : w.grownBy w' (some g)) (hne : b ≠ g) : Cells w' b off k xs :=
 ⟨Nat.lt_of_lt_of_le h.1 hg.size, fun i j u hu => hg.cell (h.2 i j u hu) (by intro e; cases e; exact hne rfl)⟩
theorem ClO.gbk {base : Nat} {w w' : World} {a : Option Addr} {l : List Cl} (h : ClO base w a l) {g : Nat} (hg : w.grownBy w' (some g)) (hne : ∀ b off, a = some ⟨b, off, none⟩ → l ≠ [] → b ≠ g) : ClO base w' a l := by
 by_cases hl : l = []
 ·exact .inl hl
 rcases h with h | ⟨b, off, h1, h2, h3⟩
 ·exact .inl h
 ·exact .inr ⟨b, off, h1, h2.gbk hg (hne b off h1 hl), h3⟩
/-- a box that a region makes and fills -/
def BxB (N : Nat) (a d : Bool) (v : Value) (cs : Array Value) (W : World) : Prop := N ≤ W.heap.size ∧ (a = true → ∃ b, N ≤ b ∧ v = .pointer (some ⟨b, 0, none⟩) ∧ Blk W b (if d then cs else #[.int .i64 0, .int .i64 0, .int .i64 0, .int .i64 0, .int .i64 0, .int .i64 0]) 62)
theorem BxB.start {N : Nat} {d : Bool} {v : Value} {cs : Array Value} {W : World} (h : N ≤ W.heap.size) : BxB N false d v cs W := ⟨h, fun e => by cases e⟩
theorem BxB.new {N : Nat} {a : Bool} {v : Value} {cs : Array Value} {W : World} (h : BxB N a false v cs W) : BxB N true false (.pointer (some ⟨W.heap.size, 0, none⟩)) cs (W.alloc (.cells #[.int .i64 0, .int .i64 0, .int .i64 0, .int .i64 0, .int .i64 0, .int .i64 0] 62)) :=
 ⟨by rw [World.size_alloc]; have := h.1; omega, fun _ => ⟨_, h.1, rfl, Blk.new _ _ _⟩⟩
theorem BxB.le {N : Nat} {a d : Bool} {v : Value} {cs : Array Value} {W : World} (h : BxB N a d v cs W) : N ≤ W.heap.size := h.1
theorem BxB.get0 {N : Nat} {a : Bool} {v : Value} {cs : Array Value} {W : World} (h : BxB N a false v cs W) (ha : a = true) : ∃ b, N ≤ b ∧ v = .pointer (some ⟨b, 0, none⟩) ∧ Blk W b #[.int .i64 0, .int .i64 0, .int .i64 0, .int .i64 0, .int .i64 0, .int .i64 0] 62 := h.2 ha
theorem BxB.get1 {N : Nat} {a : Bool} {v : Value} {cs : Array Value} {W : World} (h : BxB N a true v cs W) (ha : a = true) : ∃ b, N ≤ b ∧ v = .pointer (some ⟨b, 0, none⟩) ∧ Blk W b cs 62 := h.2 ha
theorem BxB.row {N b : Nat} {cs c : Array Value} {W : World} (hN : N ≤ W.heap.size) (hb : N ≤ b) (h : Blk W b c 62) : BxB N true true (.pointer (some ⟨b, 0, none⟩)) cs (W.setRow b cs) :=
 ⟨by rw [setRow_size]; exact hN, fun _ => ⟨b, hb, rfl, h.rowS _⟩⟩
theorem refBounds_zero {s : Sol} (hs : s = 0) (w : World) : Calls Tryz.prog 66 #[solV s] w fun e w' => e = .returned (.tuple #[boxV (0, 0, 0) (0, 0, 0), .bool false]) ∧ Below w.heap.size w w' := by
 have HC := Lib.hid fun W => refCells_open s W
 have hn : (cellsS s).length = 0 := by rw [hs, cellsS_zero]; rfl
 rw [hn] at HC
 clear hn hs
 go_enter Tryz.func66, Tryz.ntmps66
 go_wp2_with fail
 obtain ⟨W0, hW0⟩ : ∃ W0, W0 = (w.alloc (.cells #[.int .u64 (pl s 0), .int .u64 (pl s 1), .int .u64 (pl s 2), .int .u64 (pl s 3), .int .u64 (pl s 4), .int .u64 (pl s 5), .int .u64 (pl s 6), .int .u64 (pl s 7)] 26)).alloc (.cells #[.int .i64 0, .int .i64 0, .int .i64 0, .int .i64 0, .int .i64 0, .int .i64 0] 62) := ⟨_, rfl⟩
 have b0 : Blk W0 (w.heap.size + 1) #[.int .i64 0, .int .i64 0, .int .i64 0, .int .i64 0, .int .i64 0, .int .i64 0] 62 ∧ Below w.heap.size w W0 := by
  rw [hW0]
  exact ⟨Blk.at _ _ (by simp), (by repeat (first | with_reducible exact bel_refl _ | with_reducible assumption | with_reducible refine bel_drewN ?_ _ | with_reducible refine bel_drew ?_ | with_reducible refine bel_alloc ?_ _ | with_reducible refine bel_row ?_ ?_ _ | with_reducible refine bel_set ?_ ?_ _ | refine bel_trans ?_ (by with_reducible assumption) | (simp; done) | (simp; omega)))⟩
 rw [← hW0]
 clear hW0
 refine (HC.out _).mono ?_
 rintro e w1 ⟨⟨a, c, rfl, _⟩, hb⟩
 have k2 := b0.1.grow hb
 have r2 := k2.row; have l2 := k2.lt
 have cF := (k2.rowS #[.int .i64 0, .int .i64 0, .int .i64 0, .int .i64 0, .int .i64 0, .int .i64 0]).cell
 have hb5 := bel_row (bel_trans b0.2 hb) (g := w.heap.size + 1) (by omega) #[.int .i64 0, .int .i64 0, .int .i64 0, .int .i64 0, .int .i64 0, .int .i64 0]
 rw [← k2.rw]
 clear k2 b0 hb
 go_wp2_with fail
 exact bodyPost_ret (v := .tuple #[boxV (0, 0, 0) (0, 0, 0), .bool false]) (by simp [results, Tryz.results66, go_sem, cF]) rfl ⟨rfl, hb5⟩
theorem loF_step (c : Cl) (L : List Cl) {i : Nat} {x : Cl} (h : L[i]? = some x) : minC (loF c (L.take i)) x = loF c (L.take (i + 1)) := by
 rw [List.take_add_one, h]; unfold loF; rw [List.foldl_append]; rfl
theorem hiF_step (c : Cl) (L : List Cl) {i : Nat} {x : Cl} (h : L[i]? = some x) : maxC (hiF c (L.take i)) x = hiF c (L.take (i + 1)) := by
 rw [List.take_add_one, h]; unfold hiF; rw [List.foldl_append]; rfl
attribute [local irreducible] BxB loF hiF
set_option maxHeartbeats 16000000 in
theorem refBounds_some {s : Sol} (hs : s ≠ 0) (w : World) : Calls Tryz.prog 66 #[solV s] w fun e w' => e = .returned (.tuple #[boxV (loS s) (hiS s), .bool true]) ∧ Below w.heap.size w w' := by
 have HC := Lib.hid fun W => refCells_open s W
 have hne : cellsS s ≠ [] := fun e => hs (cellsS_nil.1 e)
 obtain ⟨c0, tl, hcl⟩ := List.exists_cons_of_ne_nil hne
 have e1 := loF_first hcl
 have e2 := hiF_first hcl
 have hlen := cells512 s
 have hx0 : (cellsS s)[0]? = some c0 := by rw [hcl]; rfl
 obtain ⟨L, hL⟩ : ∃ L, L = cellsS s := ⟨_, rfl⟩
 rw [← hL] at HC e1 e2 hlen hx0
 obtain ⟨rl, hrl⟩ : ∃ r, r = loS s := ⟨_, rfl⟩
 obtain ⟨rh, hrh⟩ : ∃ r, r = hiS s := ⟨_, rfl⟩
 rw [← hrl] at e1 ⊢
 rw [← hrh] at e2 ⊢
 clear hL hne hcl hs hrl hrh
 obtain ⟨n, hn⟩ : ∃ n, n = L.length := ⟨_, rfl⟩
 rw [← hn] at HC hlen
 have hn0 : 0 < n := by rw [hn]; exact (List.getElem?_eq_some_iff.1 hx0).1
 have HLo : Hid (∀ i x, L[i]? = some x → minC (loF c0 (L.take i)) x = loF c0 (L.take (i + 1))) := Lib.hid fun i x h => loF_step c0 L h
 have HHi : Hid (∀ i x, L[i]? = some x → maxC (hiF c0 (L.take i)) x = hiF c0 (L.take (i + 1))) := Lib.hid fun i x h => hiF_step c0 L h
 have h00 : loF c0 (L.take 0) = c0 ∧ hiF c0 (L.take 0) = c0 := ⟨by unfold loF; rfl, by unfold hiF; rfl⟩
 have hEn : loF c0 (L.take n) = rl ∧ hiF c0 (L.take n) = rh := by rw [hn, List.take_length]; exact ⟨e1, e2⟩
 obtain ⟨A, hA⟩ : ∃ A, A = fun i => loF c0 (L.take i) := ⟨_, rfl⟩
 obtain ⟨B, hB⟩ : ∃ A, A = fun i => hiF c0 (L.take i) := ⟨_, rfl⟩
 have HLo2 : Hid (∀ i x, L[i]? = some x → minC (A i) x = A (i + 1)) := Lib.hid (by rw [hA]; exact HLo.out)
 have HHi2 : Hid (∀ i x, L[i]? = some x → maxC (B i) x = B (i + 1)) := Lib.hid (by rw [hB]; exact HHi.out)
 have H00 : Hid (A 0 = c0 ∧ B 0 = c0) := Lib.hid (by rw [hA, hB]; exact h00)
 have HEn : Hid (A n = rl ∧ B n = rh) := Lib.hid (by rw [hA, hB]; exact hEn)
 have HN := Lib.hid hn
 have HX0 := Lib.hid hx0
 clear HLo HHi h00 hEn hA hB e1 e2 hn hx0
 obtain ⟨u0, u1, u2⟩ := c0
 go_enter Tryz.func66, Tryz.ntmps66
 go_wp2_with fail
 obtain ⟨W0, hW0⟩ : ∃ W0, W0 = (w.alloc (.cells #[.int .u64 (pl s 0), .int .u64 (pl s 1), .int .u64 (pl s 2), .int .u64 (pl s 3), .int .u64 (pl s 4), .int .u64 (pl s 5), .int .u64 (pl s 6), .int .u64 (pl s 7)] 26)).alloc (.cells #[.int .i64 0, .int .i64 0, .int .i64 0, .int .i64 0, .int .i64 0, .int .i64 0] 62) := ⟨_, rfl⟩
 have b0 : Blk W0 (w.heap.size + 1) #[.int .i64 0, .int .i64 0, .int .i64 0, .int .i64 0, .int .i64 0, .int .i64 0] 62 ∧ Below w.heap.size w W0 ∧ W0.heap.size = w.heap.size + 1 + 1 := by
  rw [hW0]
  exact ⟨Blk.at _ _ (by simp), (by repeat (first | with_reducible exact bel_refl _ | with_reducible assumption | with_reducible refine bel_drewN ?_ _ | with_reducible refine bel_drew ?_ | with_reducible refine bel_alloc ?_ _ | with_reducible refine bel_row ?_ ?_ _ | with_reducible refine bel_set ?_ ?_ _ | refine bel_trans ?_ (by with_reducible assumption) | (simp; done) | (simp; omega))), by simp⟩
 rw [← hW0]
 clear hW0
 have HB := Lib.hid b0
 clear b0
 refine (HC.out _).mono ?_
 rintro e w1 ⟨⟨a, c, rfl, hcl⟩, hb⟩
 have HB1 := Lib.hid (And.intro (HB.out.1.grow hb) (And.intro (bel_trans HB.out.2.1 hb) hcl))
 clear hb hcl
 obtain ⟨b, off, rfl, hcs, hNb⟩ := HB1.out.2.2.at HX0.out
 have HCs := Lib.hid hcs
 clear hcs hNb
 obtain ⟨wR, hwR⟩ : ∃ x, x = w1 := ⟨_, rfl⟩
 rw [← hwR] at HB1 HCs ⊢
 clear hwR
 go_wp2_with fail
 refine wp_region_val (Below wR.heap.size) (fun L vs W => BxB wR.heap.size (L 7) (L 8) (vs 7) #[.int .i64 u0, .int .i64 u1, .int .i64 u2, .int .i64 u0, .int .i64 u1, .int .i64 u2] W ∧ Below wR.heap.size wR W) [Is (.slice (some ⟨b, off, none⟩) n c), Is (.pointer (some ⟨b, off, none⟩)), Is (clV (u0, u1, u2)), Is (.slice (some ⟨b, off, none⟩) n c), Is (.pointer (some ⟨b, off, none⟩)), Is (clV (u0, u1, u2)), Is (.agg #[.int .i64 u0, .int .i64 u1, .int .i64 u2, .int .i64 u0, .int .i64 u1, .int .i64 u2]), AnyV, AnyV] (by kernel_rfl) (by kernel_rfl) rfl (Below.refl wR.heap.size) (fun _ _ _ => Below.trans) (stable_mem ⟨fun _ _ _ h _ => h, fun _ _ _ h _ => h, fun _ _ _ h _ => h, fun _ _ _ h _ => h, fun _ _ _ h _ => h, fun _ _ _ h _ => h, fun _ _ _ h _ => h, fun _ _ _ h _ => h, fun _ _ _ h _ => h, trivial⟩) wR (Below.drew (Below.refl _ _)) (And.intro (BxB.start (Nat.le_refl _)) (Below.drew (Below.refl _ _))) ?_
 refine val_cons ?_ (fun v0 => ?_)
 ·intro L vs w1 hvs hat hb hI hF; try simp [factsI, Region.binds, Is] at hF
  have HI2 := Lib.hid hI; clear hI
  go_simp
  refine ⟨Below.refl _ _, ?_⟩
  first | (simpa [upd] using HI2.out) | (simpa [upd] using HI2.out.1) | (simpa [upd] using And.intro HI2.out rfl)
 refine val_cons ?_ (fun v1 => ?_)
 ·intro L vs w1 hvs hat hb hI hF; try simp [factsI, Region.binds, Is] at hF
  have HI2 := Lib.hid hI; clear hI
  go_simp
  refine ⟨Below.refl _ _, ?_⟩
  first | (simpa [upd] using HI2.out) | (simpa [upd] using HI2.out.1) | (simpa [upd] using And.intro HI2.out rfl)
 refine val_cons ?_ (fun v2 => ?_)
 ·intro L vs w1 hvs hat hb hI hF; try simp [factsI, Region.binds, Is] at hF
  have hCw := HCs.out.mono hI.2 HCs.out.1
  have cz := cl_cells hCw HX0.out
  rw [Nat.zero_mul, Nat.add_zero] at cz
  obtain ⟨z0, z1, z2⟩ := cz
  have lz := hCw.1
  have HI2 := Lib.hid hI; clear hI hCw
  go_simp
  refine ⟨Below.refl _ _, ?_⟩
  first | (simpa [upd] using HI2.out) | (simpa [upd] using HI2.out.1) | (simpa [upd] using And.intro HI2.out rfl)
 refine val_cons ?_ (fun v3 => ?_)
 ·intro L vs w1 hvs hat hb hI hF; try simp [factsI, Region.binds, Is] at hF
  have HI2 := Lib.hid hI; clear hI
  go_simp
  refine ⟨Below.refl _ _, ?_⟩
  first | (simpa [upd] using HI2.out) | (simpa [upd] using HI2.out.1) | (simpa [upd] using And.intro HI2.out rfl)
 refine val_cons ?_ (fun v4 => ?_)
 ·intro L vs w1 hvs hat hb hI hF; try simp [factsI, Region.binds, Is] at hF
  have HI2 := Lib.hid hI; clear hI
  go_simp
  refine ⟨Below.refl _ _, ?_⟩
  first | (simpa [upd] using HI2.out) | (simpa [upd] using HI2.out.1) | (simpa [upd] using And.intro HI2.out rfl)
 refine val_cons ?_ (fun v5 => ?_)
 ·intro L vs w1 hvs hat hb hI hF; try simp [factsI, Region.binds, Is] at hF
  have hCw := HCs.out.mono hI.2 HCs.out.1
  have cz := cl_cells hCw HX0.out
  rw [Nat.zero_mul, Nat.add_zero] at cz
  obtain ⟨z0, z1, z2⟩ := cz
  have lz := hCw.1
  have HI2 := Lib.hid hI; clear hI hCw
  go_simp
  refine ⟨Below.refl _ _, ?_⟩
  first | (simpa [upd] using HI2.out) | (simpa [upd] using HI2.out.1) | (simpa [upd] using And.intro HI2.out rfl)
 refine val_cons ?_ (fun v6 => ?_)
 ·intro L vs w1 hvs hat hb hI hF; try simp [factsI, Region.binds, Is] at hF
  have HI2 := Lib.hid hI; clear hI
  go_simp
  refine ⟨Below.refl _ _, ?_⟩
  first | (simpa [upd] using HI2.out) | (simpa [upd] using HI2.out.1) | (simpa [upd] using And.intro HI2.out rfl)
 refine val_cons ?_ (fun v7 => ?_)
 ·intro L vs w1 hvs hat hb hI hF; try simp [factsI, Region.binds, Is] at hF
  have h8 : L 8 = false := hat.later 40 8 (by kernel_rfl)
  have hI1 := hI.1
  rw [h8] at hI1
  have HI2 := Lib.hid (And.intro hI1 hI.2); clear hI hI1
  have hle := HI2.out.1.le
  go_simp
  refine ⟨below_allocN (Below.refl _ _) hle _, ?_, trivial⟩
  simpa [upd, h8] using And.intro (HI2.out.1.new) (below_allocN HI2.out.2 hle _)
 refine val_cons ?_ (fun v8 => ?_)
 ·intro L vs w1 hvs hat hb hI hF; try simp [factsI, Region.binds, Is] at hF
  have h7 := hat.ahead 40 7 (by kernel_rfl)
  have hv7 : vs 7 = v7 := hvs 7 (by omega)
  have h8 : L 8 = false := hat.self
  have hI1 := hI.1
  rw [h8] at hI1
  have HI2 := Lib.hid hI.2
  obtain ⟨b7, hle7, e1, hB7⟩ := hI1.get0 h7
  rw [hv7] at e1
  subst e1
  have HR := Lib.hid (BxB.row (cs := #[.int .i64 u0, .int .i64 u1, .int .i64 u2, .int .i64 u0, .int .i64 u1, .int .i64 u2]) hI1.le hle7 hB7)
  have hB9 := blw_rowsS (w := w1) hle7 #[.int .i64 0, .int .i64 0, .int .i64 0, .int .i64 0, .int .i64 0, .int .i64 0] #[.int .i64 u0, .int .i64 u1, .int .i64 u2, .int .i64 u0, .int .i64 u1, .int .i64 u2]
  rw [hB7.rw] at hB9
  have HR2 := Lib.hid (hI.2.trans hB9)
  clear hB9
  have r8 := hB7.row; have l8 := hB7.lt
  have HLE := Lib.hid hle7
  rw [← hB7.rw]
  clear hI hI1 hB7 hvs
  go_simp
  refine ⟨blw_rowsS HLE.out _ _, ?_, trivial⟩
  simpa [upd, h7, hv7] using And.intro HR.out HR2.out
 refine val_nil ?_
 intro vs w1 hvs hb hI hF
 simp [Is, Nat.forall_lt_succ_right] at hF
 have e0 := hF.1.1.1.1.1.1.1.1
 have e1 := hF.1.1.1.1.1.1.1.2
 have e2 := hF.1.1.1.1.1.1.2
 have e3 := hF.1.1.1.1.1.2
 have e4 := hF.1.1.1.1.2
 have e5 := hF.1.1.1.2
 have e6 := hF.1.1.2
 have e7 := hF.1.2
 have e8 := hF.2
 clear hF
 simp only [Act.put, List.setIfInBounds_toArray, List.set_cons_succ, List.set_cons_zero, e0, e1, e2, e3, e4, e5, e6]
 clear e0 e1 e2 e3 e4 e5 e6
 have hbx := hI.1.get1 (by decide)
 have hv7 : vs 7 = v7 := hvs 7 (by omega)
 obtain ⟨g5, hg5, hp, hB5⟩ := hbx
 rw [hv7] at hp
 subst hp
 have hb2 : Below wR.heap.size wR w1 := hI.2
 have HK0 : Hid (Blk w1 g5 #[.int .i64 u0, .int .i64 u1, .int .i64 u2, .int .i64 u0, .int .i64 u1, .int .i64 u2] 62 ∧ Blk w1 (w.heap.size + 1) #[.int .i64 0, .int .i64 0, .int .i64 0, .int .i64 0, .int .i64 0, .int .i64 0] 62 ∧ Below w.heap.size w w1 ∧ Cells w1 b off 3 (L.map clL)) := Lib.hid ⟨hB5, HB1.out.1.grow hb2, bel_trans HB1.out.2.1 hb2, HCs.out.mono hb2 HCs.out.1⟩
 have HO : Hid (w.heap.size + 1 < g5 ∧ b < g5) := Lib.hid ⟨Nat.lt_of_lt_of_le HB1.out.1.lt hg5, Nat.lt_of_lt_of_le HCs.out.1 hg5⟩
 obtain ⟨wK, hwK⟩ : ∃ x, x = w1 := ⟨_, rfl⟩
 rw [← hwK] at HK0 ⊢
 clear hwK hI hb hb2 hvs hv7 hB5 hg5 e7 e8 HB1 HCs
 go_wp2_with fail
 go_loopw [6] (fun iv wx => ∃ (i : Nat) (a0 a1 a2 b0 b1 b2 : Int), i ≤ n ∧ iv = .int .i64 i ∧ Hid ((A i = (a0, a1, a2) ∧ B i = (b0, b1, b2)) ∧ Blk wx g5 #[.int .i64 a0, .int .i64 a1, .int .i64 a2, .int .i64 b0, .int .i64 b1, .int .i64 b2] 62 ∧ Blk wx (w.heap.size + 1) #[.int .i64 0, .int .i64 0, .int .i64 0, .int .i64 0, .int .i64 0, .int .i64 0] 62 ∧ Below w.heap.size w wx ∧ Cells wx b off 3 (L.map clL))) (fun iv _ => n - (intOf iv).toNat)
 case atStart => exact ⟨0, u0, u1, u2, u0, u1, u2, by omega, rfl, Lib.hid ⟨H00.out, HK0.out⟩⟩
 case round =>
  clear HK0
  obtain ⟨i, a0, a1, a2, b0, b1, b2, hi, rfl, HM⟩ := hrel
  by_cases hin : i < n
  ·have hx : ∃ x, L[i]? = some x := ⟨L[i]'(by rw [← HN.out]; exact hin), by simp [← HN.out, hin]⟩
   obtain ⟨x, hx⟩ := hx
   have h1 := HLo2.out i x hx
   have h2 := HHi2.out i x hx
   rw [HM.out.1.1] at h1
   rw [HM.out.1.2] at h2
   obtain ⟨x0, x1, x2⟩ := x
   obtain ⟨n0, hn0'⟩ : ∃ n, n = min a0 x0 := ⟨_, rfl⟩
   obtain ⟨n1, hn1⟩ : ∃ n, n = min a1 x1 := ⟨_, rfl⟩
   obtain ⟨n2, hn2⟩ : ∃ n, n = min a2 x2 := ⟨_, rfl⟩
   obtain ⟨n3, hn3⟩ : ∃ n, n = max b0 x0 := ⟨_, rfl⟩
   obtain ⟨n4, hn4⟩ : ∃ n, n = max b1 x1 := ⟨_, rfl⟩
   obtain ⟨n5, hn5⟩ : ∃ n, n = max b2 x2 := ⟨_, rfl⟩
   have HR : Hid (A (i + 1) = (n0, n1, n2) ∧ B (i + 1) = (n3, n4, n5)) := Lib.hid ⟨by rw [← h1, hn0', hn1, hn2]; rfl, by rw [← h2, hn3, hn4, hn5]; rfl⟩
   have HM0 : Hid ((if x0 < a0 then x0 else a0) = n0) := Lib.hid (by rw [minI, hn0'])
   have HM1 : Hid ((if x1 < a1 then x1 else a1) = n1) := Lib.hid (by rw [minI, hn1])
   have HM2 : Hid ((if x2 < a2 then x2 else a2) = n2) := Lib.hid (by rw [minI, hn2])
   have HM3 : Hid ((if b0 < x0 then x0 else b0) = n3) := Lib.hid (by rw [maxI, hn3])
   have HM4 : Hid ((if b1 < x1 then x1 else b1) = n4) := Lib.hid (by rw [maxI, hn4])
   have HM5 : Hid ((if b2 < x2 then x2 else b2) = n5) := Lib.hid (by rw [maxI, hn5])
   have HX := Lib.hid hx
   have HK := Lib.hid HM.out.2
   clear h1 h2 hn0' hn1 hn2 hn3 hn4 hn5 hx HM
   go_wp2_with fail
   have q5 := HK.out.1
   have c5 := q5.cell; have l5 := q5.lt; have f5 := q5.free 0
   have hCw := HK.out.2.2.2
   obtain ⟨z0, z1, z2⟩ := cl_cells hCw HX.out
   have lz := hCw.1
   have hm := HM0.out
   have hmm := (minI _ _).symm.trans hm
   clear q5 hCw
   refine Go.Rel.region_still_tail 11 (by kernel_rfl) (by kernel_rfl) ?_
   simp only [List.take_succ_cons, List.take_zero, List.drop_succ_cons, List.drop_zero]
   repeat still_step
   refine wpStill_nil ?_
   go_upto_region 9 with fail
   have hG := gb_drew (gb_set (gb_refl wr (some g5)) ⟨g5, 0, none⟩ rfl (.int .i64 n0))
   have HK2 : Hid (Blk (wr.setCell ⟨g5, 0, none⟩ (.int .i64 n0)).drew g5 #[.int .i64 n0, .int .i64 a1, .int .i64 a2, .int .i64 b0, .int .i64 b1, .int .i64 b2] 62 ∧ Blk (wr.setCell ⟨g5, 0, none⟩ (.int .i64 n0)).drew (w.heap.size + 1) #[.int .i64 0, .int .i64 0, .int .i64 0, .int .i64 0, .int .i64 0, .int .i64 0] 62 ∧ Below w.heap.size w (wr.setCell ⟨g5, 0, none⟩ (.int .i64 n0)).drew ∧ Cells (wr.setCell ⟨g5, 0, none⟩ (.int .i64 n0)).drew b off 3 (L.map clL)) := Lib.hid ⟨(HK.out.1.set 0 (.int .i64 n0)).drew, HK.out.2.1.gb hG (by have := HO.out; simp; omega), gb_bel HK.out.2.2.1 hG (by have := HO.out; omega), HK.out.2.2.2.gbk hG (by have := HO.out; omega)⟩
   clear HK hG hm hmm c5 l5 f5 z0 z1 z2 lz
   have HK := HK2
   clear HK2
   obtain ⟨wk1, hwk⟩ : ∃ x, x = (wr.setCell ⟨g5, 0, none⟩ (.int .i64 n0)).drew := ⟨_, rfl⟩
   rw [← hwk] at HK ⊢
   clear hwk
   have q5 := HK.out.1
   have c5 := q5.cell; have l5 := q5.lt; have f5 := q5.free 1
   have hCw := HK.out.2.2.2
   obtain ⟨z0, z1, z2⟩ := cl_cells hCw HX.out
   have lz := hCw.1
   have hm := HM1.out
   have hmm := (minI _ _).symm.trans hm
   clear q5 hCw
   refine Go.Rel.region_still_tail 11 (by kernel_rfl) (by kernel_rfl) ?_
   simp only [List.take_succ_cons, List.take_zero, List.drop_succ_cons, List.drop_zero]
   repeat still_step
   refine wpStill_nil ?_
   go_upto_region 10 with fail
   have hG := gb_drew (gb_set (gb_refl wk1 (some g5)) ⟨g5, 1, none⟩ rfl (.int .i64 n1))
   have HK2 : Hid (Blk (wk1.setCell ⟨g5, 1, none⟩ (.int .i64 n1)).drew g5 #[.int .i64 n0, .int .i64 n1, .int .i64 a2, .int .i64 b0, .int .i64 b1, .int .i64 b2] 62 ∧ Blk (wk1.setCell ⟨g5, 1, none⟩ (.int .i64 n1)).drew (w.heap.size + 1) #[.int .i64 0, .int .i64 0, .int .i64 0, .int .i64 0, .int .i64 0, .int .i64 0] 62 ∧ Below w.heap.size w (wk1.setCell ⟨g5, 1, none⟩ (.int .i64 n1)).drew ∧ Cells (wk1.setCell ⟨g5, 1, none⟩ (.int .i64 n1)).drew b off 3 (L.map clL)) := Lib.hid ⟨(HK.out.1.set 1 (.int .i64 n1)).drew, HK.out.2.1.gb hG (by have := HO.out; simp; omega), gb_bel HK.out.2.2.1 hG (by have := HO.out; omega), HK.out.2.2.2.gbk hG (by have := HO.out; omega)⟩
   clear HK hG hm hmm c5 l5 f5 z0 z1 z2 lz
   have HK := HK2
   clear HK2
   obtain ⟨wk2, hwk⟩ : ∃ x, x = (wk1.setCell ⟨g5, 1, none⟩ (.int .i64 n1)).drew := ⟨_, rfl⟩
   rw [← hwk] at HK ⊢
   clear hwk
   have q5 := HK.out.1
   have c5 := q5.cell; have l5 := q5.lt; have f5 := q5.free 2
   have hCw := HK.out.2.2.2
   obtain ⟨z0, z1, z2⟩ := cl_cells hCw HX.out
   have lz := hCw.1
   have hm := HM2.out
   have hmm := (minI _ _).symm.trans hm
   clear q5 hCw
   refine Go.Rel.region_still_tail 11 (by kernel_rfl) (by kernel_rfl) ?_
   simp only [List.take_succ_cons, List.take_zero, List.drop_succ_cons, List.drop_zero]
   repeat still_step
   refine wpStill_nil ?_
   go_upto_region 11 with fail
   have hG := gb_drew (gb_set (gb_refl wk2 (some g5)) ⟨g5, 2, none⟩ rfl (.int .i64 n2))
   have HK2 : Hid (Blk (wk2.setCell ⟨g5, 2, none⟩ (.int .i64 n2)).drew g5 #[.int .i64 n0, .int .i64 n1, .int .i64 n2, .int .i64 b0, .int .i64 b1, .int .i64 b2] 62 ∧ Blk (wk2.setCell ⟨g5, 2, none⟩ (.int .i64 n2)).drew (w.heap.size + 1) #[.int .i64 0, .int .i64 0, .int .i64 0, .int .i64 0, .int .i64 0, .int .i64 0] 62 ∧ Below w.heap.size w (wk2.setCell ⟨g5, 2, none⟩ (.int .i64 n2)).drew ∧ Cells (wk2.setCell ⟨g5, 2, none⟩ (.int .i64 n2)).drew b off 3 (L.map clL)) := Lib.hid ⟨(HK.out.1.set 2 (.int .i64 n2)).drew, HK.out.2.1.gb hG (by have := HO.out; simp; omega), gb_bel HK.out.2.2.1 hG (by have := HO.out; omega), HK.out.2.2.2.gbk hG (by have := HO.out; omega)⟩
   clear HK hG hm hmm c5 l5 f5 z0 z1 z2 lz
   have HK := HK2
   clear HK2
   obtain ⟨wk3, hwk⟩ : ∃ x, x = (wk2.setCell ⟨g5, 2, none⟩ (.int .i64 n2)).drew := ⟨_, rfl⟩
   rw [← hwk] at HK ⊢
   clear hwk
   have q5 := HK.out.1
   have c5 := q5.cell; have l5 := q5.lt; have f5 := q5.free 3
   have hCw := HK.out.2.2.2
   obtain ⟨z0, z1, z2⟩ := cl_cells hCw HX.out
   have lz := hCw.1
   have hm := HM3.out
   have hmm := (maxI _ _).symm.trans hm
   clear q5 hCw
   refine Go.Rel.region_still_tail 11 (by kernel_rfl) (by kernel_rfl) ?_
   simp only [List.take_succ_cons, List.take_zero, List.drop_succ_cons, List.drop_zero]
   repeat still_step
   refine wpStill_nil ?_
   go_upto_region 12 with fail
   have hG := gb_drew (gb_set (gb_refl wk3 (some g5)) ⟨g5, 3, none⟩ rfl (.int .i64 n3))
   have HK2 : Hid (Blk (wk3.setCell ⟨g5, 3, none⟩ (.int .i64 n3)).drew g5 #[.int .i64 n0, .int .i64 n1, .int .i64 n2, .int .i64 n3, .int .i64 b1, .int .i64 b2] 62 ∧ Blk (wk3.setCell ⟨g5, 3, none⟩ (.int .i64 n3)).drew (w.heap.size + 1) #[.int .i64 0, .int .i64 0, .int .i64 0, .int .i64 0, .int .i64 0, .int .i64 0] 62 ∧ Below w.heap.size w (wk3.setCell ⟨g5, 3, none⟩ (.int .i64 n3)).drew ∧ Cells (wk3.setCell ⟨g5, 3, none⟩ (.int .i64 n3)).drew b off 3 (L.map clL)) := Lib.hid ⟨(HK.out.1.set 3 (.int .i64 n3)).drew, HK.out.2.1.gb hG (by have := HO.out; simp; omega), gb_bel HK.out.2.2.1 hG (by have := HO.out; omega), HK.out.2.2.2.gbk hG (by have := HO.out; omega)⟩
   clear HK hG hm hmm c5 l5 f5 z0 z1 z2 lz
   have HK := HK2
   clear HK2
   obtain ⟨wk4, hwk⟩ : ∃ x, x = (wk3.setCell ⟨g5, 3, none⟩ (.int .i64 n3)).drew := ⟨_, rfl⟩
   rw [← hwk] at HK ⊢
   clear hwk
   have q5 := HK.out.1
   have c5 := q5.cell; have l5 := q5.lt; have f5 := q5.free 4
   have hCw := HK.out.2.2.2
   obtain ⟨z0, z1, z2⟩ := cl_cells hCw HX.out
   have lz := hCw.1
   have hm := HM4.out
   have hmm := (maxI _ _).symm.trans hm
   clear q5 hCw
   refine Go.Rel.region_still_tail 11 (by kernel_rfl) (by kernel_rfl) ?_
   simp only [List.take_succ_cons, List.take_zero, List.drop_succ_cons, List.drop_zero]
   repeat still_step
   refine wpStill_nil ?_
   go_upto_region 13 with fail
   have hG := gb_drew (gb_set (gb_refl wk4 (some g5)) ⟨g5, 4, none⟩ rfl (.int .i64 n4))
   have HK2 : Hid (Blk (wk4.setCell ⟨g5, 4, none⟩ (.int .i64 n4)).drew g5 #[.int .i64 n0, .int .i64 n1, .int .i64 n2, .int .i64 n3, .int .i64 n4, .int .i64 b2] 62 ∧ Blk (wk4.setCell ⟨g5, 4, none⟩ (.int .i64 n4)).drew (w.heap.size + 1) #[.int .i64 0, .int .i64 0, .int .i64 0, .int .i64 0, .int .i64 0, .int .i64 0] 62 ∧ Below w.heap.size w (wk4.setCell ⟨g5, 4, none⟩ (.int .i64 n4)).drew ∧ Cells (wk4.setCell ⟨g5, 4, none⟩ (.int .i64 n4)).drew b off 3 (L.map clL)) := Lib.hid ⟨(HK.out.1.set 4 (.int .i64 n4)).drew, HK.out.2.1.gb hG (by have := HO.out; simp; omega), gb_bel HK.out.2.2.1 hG (by have := HO.out; omega), HK.out.2.2.2.gbk hG (by have := HO.out; omega)⟩
   clear HK hG hm hmm c5 l5 f5 z0 z1 z2 lz
   have HK := HK2
   clear HK2
   obtain ⟨wk5, hwk⟩ : ∃ x, x = (wk4.setCell ⟨g5, 4, none⟩ (.int .i64 n4)).drew := ⟨_, rfl⟩
   rw [← hwk] at HK ⊢
   clear hwk
   have q5 := HK.out.1
   have c5 := q5.cell; have l5 := q5.lt; have f5 := q5.free 5
   have hCw := HK.out.2.2.2
   obtain ⟨z0, z1, z2⟩ := cl_cells hCw HX.out
   have lz := hCw.1
   have hm := HM5.out
   have hmm := (maxI _ _).symm.trans hm
   clear q5 hCw
   refine Go.Rel.region_still_tail 11 (by kernel_rfl) (by kernel_rfl) ?_
   simp only [List.take_succ_cons, List.take_zero, List.drop_succ_cons, List.drop_zero]
   repeat still_step
   refine wpStill_nil ?_
   go_wp2_with fail
   have hG := gb_drew (gb_set (gb_refl wk5 (some g5)) ⟨g5, 5, none⟩ rfl (.int .i64 n5))
   have HK2 : Hid (Blk (wk5.setCell ⟨g5, 5, none⟩ (.int .i64 n5)).drew g5 #[.int .i64 n0, .int .i64 n1, .int .i64 n2, .int .i64 n3, .int .i64 n4, .int .i64 n5] 62 ∧ Blk (wk5.setCell ⟨g5, 5, none⟩ (.int .i64 n5)).drew (w.heap.size + 1) #[.int .i64 0, .int .i64 0, .int .i64 0, .int .i64 0, .int .i64 0, .int .i64 0] 62 ∧ Below w.heap.size w (wk5.setCell ⟨g5, 5, none⟩ (.int .i64 n5)).drew ∧ Cells (wk5.setCell ⟨g5, 5, none⟩ (.int .i64 n5)).drew b off 3 (L.map clL)) := Lib.hid ⟨(HK.out.1.set 5 (.int .i64 n5)).drew, HK.out.2.1.gb hG (by have := HO.out; simp; omega), gb_bel HK.out.2.2.1 hG (by have := HO.out; omega), HK.out.2.2.2.gbk hG (by have := HO.out; omega)⟩
   clear HK hG hm hmm c5 l5 f5 z0 z1 z2 lz
   have HK := HK2
   clear HK2
   go_roundw
   case rel => exact ⟨i + 1, by omega, by go_num, n0, n1, n2, n3, n4, n5, Lib.hid ⟨HR.out, HK.out⟩⟩
   case measure => simp [intOf]; omega
  ·obtain rfl : i = n := by omega
   have hM := HM.out
   rw [HEn.out.1, HEn.out.2] at hM
   obtain ⟨⟨hm1, hm2⟩, k1, k2, k3, _⟩ := hM
   have ho := HO.out
   have HV := Lib.hid (And.intro hm1 hm2)
   have c1 := (k1.rowO (g := w.heap.size + 1) #[.int .i64 0, .int .i64 0, .int .i64 0, .int .i64 0, .int .i64 0, .int .i64 0] (by omega)).cell
   have l1 := k1.lt
   have r2 := k2.row; have l2 := k2.lt
   have cF := (k2.rowS #[.int .i64 a0, .int .i64 a1, .int .i64 a2, .int .i64 b0, .int .i64 b1, .int .i64 b2]).cell
   have hb5 := bel_row k3 (g := w.heap.size + 1) (by omega) #[.int .i64 a0, .int .i64 a1, .int .i64 a2, .int .i64 b0, .int .i64 b1, .int .i64 b2]
   rw [← k2.rw]
   clear k1 k2 k3 HM ho hm1 hm2
   go_wp2_with fail
   exact bodyPost_ret (v := .tuple #[boxV (a0, a1, a2) (b0, b1, b2), .bool true]) (by simp [results, Tryz.results66, go_sem, cF]) rfl ⟨by rw [HV.out.1, HV.out.2], hb5⟩
end Go.Proofs.YtkfimbonmnoglaaGreatDoor
end
