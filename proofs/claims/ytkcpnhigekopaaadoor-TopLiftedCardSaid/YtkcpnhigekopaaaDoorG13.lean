import Derived.Test.YtkcpnhigekopaaaDoorG12
import Derived.Deep.Cut
/-
  Given contracts of functions of the program, and laws for them, one behind the other.
-/
set_option linter.unusedVariables false
set_option linter.unusedSimpArgs false
set_option linter.unusedSectionVars false
section
namespace Go.Proofs.YtkcpnhigekopaaaDoor
open Go.RowKit Go.Rel Go.Draw
set_option maxRecDepth 100000
attribute [local go_sem] Oper.semAt_some
/-! way: where a piece stands on its way -/
theorem sol_at_piece {w : World} {v : Value} {m : List Sol} (h : SlS w v m) {p : Nat} {s : Sol} (hs : m[p]? = some s) : ∃ b off c, v = .slice (some ⟨b, off, none⟩) m.length c ∧ m.length ≤ c ∧ c ≤ 9223372036854775807 ∧ b < w.heap.size ∧ Cells w b off 8 (m.map solL) := by
 rcases h.cases with ⟨h0, _⟩ | ⟨b, off, c, rfl, hc, hm, _, hcs⟩
 ·have : m = [] := by simpa using h0
  subst this; simp at hs
 ·rw [List.length_map] at *
  exact ⟨b, off, c, rfl, hc, hm, hcs.1, hcs⟩
theorem bcell' {B : Nat} {W w1 : World} (hb : Below B W w1) : (∀ b o, b < B → w1.cell? ⟨b, o, none⟩ = W.cell? ⟨b, o, none⟩) ∧ (∀ b o, b < B → w1.frozen? ⟨b, o, none⟩ = W.frozen? ⟨b, o, none⟩) :=
 ⟨fun b o h => hb.cell (p := ⟨b, o, none⟩) h, fun b o h => hb.frozen (p := ⟨b, o, none⟩) h⟩
/-- the body that lies in a block -/
def decW (w : World) (c : Nat) : Sol := mkS fun k => BitVec.ofInt 64 (intOf ((w.cell? ⟨c, k, none⟩).getD undef))
theorem decW_is {w : World} {c : Nat} {b : Sol} {t : TypeId} (h : Blk w c #[.int .u64 (pl b 0), .int .u64 (pl b 1), .int .u64 (pl b 2), .int .u64 (pl b 3), .int .u64 (pl b 4), .int .u64 (pl b 5), .int .u64 (pl b 6), .int .u64 (pl b 7)] t) : decW w c = b := by
 refine sol_ext fun k hk => ?_
 unfold decW
 rw [plv_mkS _ _ hk, h.cell]
 have : (#[.int .u64 (pl b 0), .int .u64 (pl b 1), .int .u64 (pl b 2), .int .u64 (pl b 3), .int .u64 (pl b 4), .int .u64 (pl b 5), .int .u64 (pl b 6), .int .u64 (pl b 7)] : Array Value)[k]? = some (.int .u64 (pl b k)) := mixA_get (fun i => pl b i) hk
 rw [this]
 exact ofInt_pl b k
abbrev sidesV : Value := .agg #[.nilFunc, .func (.func 80) #[] #[], .func (.func 81) #[] #[], .func (.func 82) #[] #[], .func (.func 83) #[] #[]]
theorem side_of (k : Nat) (h1 : 1 ≤ k) (h4 : k ≤ 4) : ∃ fid, (∀ w, (Instr.index 121 sidesV (.int .i64 (k : Int))).run Tryd.prog w = .ok (.func (.func fid) #[] #[]) w) ∧ (∀ args w, (callFunc fid args).run Tryd.prog w = .ok (.enter fid args) w) ∧
  ∀ b w, Calls Tryd.prog fid #[solV b] w fun e w' => e = .returned (.tuple #[solV (stepS k b), .bool (inS k b)]) ∧ Below w.heap.size w w' := by
 obtain rfl | rfl | rfl | rfl : k = 1 ∨ k = 2 ∨ k = 3 ∨ k = 4 := by omega
 ·exact ⟨80, fun _ => by kernel_rfl, enters_of Tryd.func80 (by kernel_rfl) rfl, east_spec⟩
 ·exact ⟨81, fun _ => by kernel_rfl, enters_of Tryd.func81 (by kernel_rfl) rfl, south_spec⟩
 ·exact ⟨82, fun _ => by kernel_rfl, enters_of Tryd.func82 (by kernel_rfl) rfl, west_spec⟩
 ·exact ⟨83, fun _ => by kernel_rfl, enters_of Tryd.func83 (by kernel_rfl) rfl, north_spec⟩
def I4w (N0 : Nat) (b b' : Sol) (a9 : Bool) (W : World) : Prop := (a9 = false → Blk W N0 #[.int .u64 (pl b 0), .int .u64 (pl b 1), .int .u64 (pl b 2), .int .u64 (pl b 3), .int .u64 (pl b 4), .int .u64 (pl b 5), .int .u64 (pl b 6), .int .u64 (pl b 7)] 72) ∧ (a9 = true → Blk W N0 #[.int .u64 (pl b' 0), .int .u64 (pl b' 1), .int .u64 (pl b' 2), .int .u64 (pl b' 3), .int .u64 (pl b' 4), .int .u64 (pl b' 5), .int .u64 (pl b' 6), .int .u64 (pl b' 7)] 72)
theorem I4w.bel {N0 : Nat} {b b' : Sol} {a9 : Bool} {W W' : World} (h : I4w N0 b b' a9 W) (hb : Below W.heap.size W W') : I4w N0 b b' a9 W' := ⟨fun e => (h.1 e).grow hb, fun e => (h.2 e).grow hb⟩
def GbN (N0 : Nat) (A B : World) : Prop := A.grownBy B (some N0)
theorem GbN.trans (N0 : Nat) (A B C : World) (h : GbN N0 A B) (k : GbN N0 B C) : GbN N0 A C := World.grownBy.trans h k
def I11 (N0 : Nat) (s : Sol) (a8 a9 : Bool) (W : World) : Prop :=
 (a8 = false → W.heap.size = N0) ∧ (a8 = true → W.heap.size = N0 + 1 ∧ (a9 = false → Blk W N0 #[.int .u64 0, .int .u64 0, .int .u64 0, .int .u64 0, .int .u64 0, .int .u64 0, .int .u64 0, .int .u64 0] 72) ∧ (a9 = true → Blk W N0 #[.int .u64 (pl s 0), .int .u64 (pl s 1), .int .u64 (pl s 2), .int .u64 (pl s 3), .int .u64 (pl s 4), .int .u64 (pl s 5), .int .u64 (pl s 6), .int .u64 (pl s 7)] 72))
set_option maxHeartbeats 4000000 in
theorem way1_in {n : Nat} (hn : 1 ≤ n) (lp : Nat) {Wr : Nat → Prop} {W : World} {g mb : Nat} {m : List Sol} (hM : Mould W g mb m) {x : Mo} {s : Sol} (hs : m[x.1]? = some s) (hx : x ∈ allMv) {bm bx : Nat} (hbm : Blk W bm #[.pointer (some ⟨g, 0, none⟩)] 42) (hbx : Blk W bx #[.int .i64 (x.1 : Int), .int .i64 (x.2.1 : Int), .int .i64 (x.2.2 : Int)] 50) (hnx : ¬ Wr bx)
  (J Jx : List (Sol × Bool) → World → Prop) (hJ : AbidesC W.heap.size (W.heap.size + 1) J) (hJx : AbidesC W.heap.size (W.heap.size + 1) Jx) (hwr : ∀ r, W.heap.size ≤ r → r < W.heap.size + 1 → ¬ Wr r)
  (hY : ∀ pre y W1, J pre W1 → W.heap.size + 1 ≤ W1.heap.size → pre.length < (wayL x.2.1 x.2.2 s).length → YieldAt Fence.wide (n - 1) Tryd.prog lp #[solV y.1, .bool y.2] W1 fun e W' =>
   (e = .returned (.bool true) ∧ J (pre ++ [y]) W' ∧ KeepsBut Wr W1 W') ∨ (e = .returned (.bool false) ∧ Jx (pre ++ [y]) W')) (h0 : J [] W) :
  CallsIn Fence.wide n Tryd.prog 67 #[.func (.yield lp) #[] #[], .pointer (some ⟨bm, 0, none⟩), .pointer (some ⟨bx, 0, none⟩)] W fun e W' => (∃ v, e = .returned v) ∧ ((∃ xs, xs = wayL x.2.1 x.2.2 s ∧ J xs W') ∨ (∃ pre, pre <+: wayL x.2.1 x.2.2 s ∧ Jx pre W')) := by
 obtain ⟨ps, pc, hg, hsl⟩ := hM.blk
 obtain ⟨pb, po, pc', hv, hpc, hpm, lpb, hcs⟩ := sol_at_piece hsl hs
 cases hv
 have hlt : x.1 < m.length := (List.getElem?_eq_some_iff.1 hs).1
 have hf7 : x.2.2 ≤ 7 := by have := ((mem_allMv x).1 hx).2; omega
 obtain ⟨c0, c1, c2, c3, c4, c5, c6, c7⟩ := sol_cells hcs hs
 have cM := hbm.cell; have cX := hbx.cell; have cG := hg.cell
 have lM := hbm.lt; have lX := hbx.lt; have lG := hg.lt
 have HF := Lib.hid (And.intro hbx (And.intro hJ (And.intro hJx (And.intro hwr (And.intro hY h0)))))
 clear hbm hbx hg hsl hcs hM hJ hJx hwr hY h0
 refine callsIn_of_wp Tryd.func67 rfl trivial ?_ rfl
 simp only [Tryd.ntmps67, List.size_toArray, List.length_cons, List.length_nil, Nat.reduceAdd, Nat.reduceSub, Array.replicate_succ, Array.replicate_zero, List.push_toArray, List.append_toArray, List.nil_append, List.cons_append]
 refine wpIn_wide.2 ?_
 go_wp2_with fail
 obtain ⟨N0, hN0⟩ : ∃ N0, N0 = W.heap.size := ⟨_, rfl⟩
 have HN0 := Lib.hid hN0
 rw [← hN0] at lM lX lG lpb
 clear hN0
 refine wp_region_val (Below N0) (fun L vs W => I11 N0 s (L 8) (L 9) W) [Is (.pointer (some ⟨g, 0, none⟩)), Is (.pointer (some ⟨g, 0, none⟩)), Is (.pointer (some ⟨g, 0, none⟩)), Is (.slice (some ⟨pb, po, none⟩) m.length pc), Is (.pointer (some ⟨bx, 0, none⟩)), Is (.int .i64 (x.1 : Int)), Is (.pointer (some ⟨pb, po + x.1 * 8, none⟩)), Is (.agg #[.int .u64 (pl s 0), .int .u64 (pl s 1), .int .u64 (pl s 2), .int .u64 (pl s 3), .int .u64 (pl s 4), .int .u64 (pl s 5), .int .u64 (pl s 6), .int .u64 (pl s 7)]), Is (.pointer (some ⟨N0, 0, none⟩)), AnyV] (by kernel_rfl) (by kernel_rfl) rfl (Below.refl N0) (fun _ _ _ => Below.trans) (stable_mem ⟨fun _ _ _ h _ => h, fun _ _ _ h _ => h, fun _ _ _ h _ => h, fun _ _ _ h _ => h, fun _ _ _ h _ => h, fun _ _ _ h _ => h, fun _ _ _ h _ => h, fun _ _ _ h _ => h, fun _ _ _ h _ => h, fun _ _ _ h _ => h, trivial⟩) W (Below.drew (Below.refl _ _)) (⟨fun _ => HN0.out.symm, fun e => by cases e⟩) ?_
 refine val_cons ?_ (fun v0 => ?_)
 ·intro L vs w1 hvs hat hb hI hF; try simp [factsI, Region.binds, Is] at hF
  have hc := (bcell' hb).1
  have HI := Lib.hid hI; clear hI
  go_simp
  try simp [upd]
  exact ⟨Below.refl _ _, HI.out⟩
 refine val_cons ?_ (fun v1 => ?_)
 ·intro L vs w1 hvs hat hb hI hF; try simp [factsI, Region.binds, Is] at hF
  have hc := (bcell' hb).1
  have HI := Lib.hid hI; clear hI
  go_simp
  try simp [upd]
  exact ⟨Below.refl _ _, HI.out⟩
 refine val_cons ?_ (fun v2 => ?_)
 ·intro L vs w1 hvs hat hb hI hF; try simp [factsI, Region.binds, Is] at hF
  have hc := (bcell' hb).1
  have HI := Lib.hid hI; clear hI
  go_simp
  try simp [upd]
  exact ⟨Below.refl _ _, HI.out⟩
 refine val_cons ?_ (fun v3 => ?_)
 ·intro L vs w1 hvs hat hb hI hF; try simp [factsI, Region.binds, Is] at hF
  have hc := (bcell' hb).1
  have HI := Lib.hid hI; clear hI
  go_simp
  try simp [upd]
  exact ⟨Below.refl _ _, HI.out⟩
 refine val_cons ?_ (fun v4 => ?_)
 ·intro L vs w1 hvs hat hb hI hF; try simp [factsI, Region.binds, Is] at hF
  have hc := (bcell' hb).1
  have HI := Lib.hid hI; clear hI
  go_simp
  try simp [upd]
  exact ⟨Below.refl _ _, HI.out⟩
 refine val_cons ?_ (fun v5 => ?_)
 ·intro L vs w1 hvs hat hb hI hF; try simp [factsI, Region.binds, Is] at hF
  have hc := (bcell' hb).1
  have HI := Lib.hid hI; clear hI
  go_simp
  try simp [upd]
  exact ⟨Below.refl _ _, HI.out⟩
 refine val_cons ?_ (fun v6 => ?_)
 ·intro L vs w1 hvs hat hb hI hF; try simp [factsI, Region.binds, Is] at hF
  have hc := (bcell' hb).1
  have HI := Lib.hid hI; clear hI
  go_simp
  try simp [upd]
  exact ⟨Below.refl _ _, HI.out⟩
 refine val_cons ?_ (fun v7 => ?_)
 ·intro L vs w1 hvs hat hb hI hF; try simp [factsI, Region.binds, Is] at hF
  have hc := (bcell' hb).1
  have HI := Lib.hid hI; clear hI
  go_simp
  try simp [upd]
  exact ⟨Below.refl _ _, HI.out⟩
 refine val_cons ?_ (fun v8 => ?_)
 ·intro L vs w1 hvs hat hb hI hF; try simp [factsI, Region.binds, Is] at hF
  have h8 := hat.self
  have h9 := Lib.hid (hat.later 10 9 (by kernel_rfl))
  have hsz := hI.1 h8
  clear hI h8
  go_simp
  try simp [upd]
  exact ⟨(bel_alloc (bel_refl _) _).mono (by omega), ⟨fun e => (by cases e), fun _ => ⟨by simp [hsz], fun _ => by rw [← hsz]; exact Blk.new _ _ _, fun e => (by first | (rw [h9.out] at e; cases e) | cases e)⟩⟩⟩
 refine val_cons ?_ (fun v9 => ?_)
 ·intro L vs w1 hvs hat hb hI hF; try simp [factsI, Region.binds, Is] at hF
  have h8 := hat.ahead 10 8 (by kernel_rfl)
  have h9 := Lib.hid (hat.self)
  have hI2 := hI.2 h8
  have hsz := hI2.1
  have hB := hI2.2.1 h9.out
  have r0 := hB.row
  have HW := Lib.hid (And.intro hB.rw (And.intro hB h8))
  rw [← HW.out.1]
  clear hI hI2 hB h8
  go_simp
  rw [HW.out.1]
  try simp [upd]
  exact ⟨blw_row (Below.refl _ _) (Nat.le_refl _) _, ⟨fun e => (by first | (rw [HW.out.2.2] at e; cases e) | cases e), fun _ => ⟨by rw [setRow_size]; exact hsz, fun e => (by cases e), fun _ => HW.out.2.1.rowS _⟩⟩, trivial⟩
 refine val_nil ?_
 intro vs w1 hvs hb hI hF
 simp [Is, Nat.forall_lt_succ_right] at hF
 have e0 := hF.1.1.1.1.1.1.1.1.1
 have e1 := hF.1.1.1.1.1.1.1.1.2
 have e2 := hF.1.1.1.1.1.1.1.2
 have e3 := hF.1.1.1.1.1.1.2
 have e4 := hF.1.1.1.1.1.2
 have e5 := hF.1.1.1.1.2
 have e6 := hF.1.1.1.2
 have e7 := hF.1.1.2
 have e8 := hF.1.2
 have e9 := hF.2
 clear hF
 simp only [Act.put, List.setIfInBounds_toArray, List.set_cons_succ, List.set_cons_zero, e0, e1, e2, e3, e4, e5, e6, e7, e8]
 clear e0 e1 e2 e3 e4 e5 e6 e7 e8
 have hB0 := (hI.2 rfl).2.2 rfl
 have hsz1 := (hI.2 rfl).1
 have hbW : Below W.heap.size W w1 := by rw [← HN0.out]; exact hb
 have hJ0 := HF.out.2.1.bel HF.out.2.2.2.2.2 hbW
 have hX1 := HF.out.1.grow hbW
 have HL := Lib.hid (And.intro hB0 (And.intro hJ0 (And.intro hX1 (And.intro hsz1 hbW))))
 clear hI hb hB0 hsz1 hbW hJ0 hX1 hvs e9 c0 c1 c2 c3 c4 c5 c6 c7 cM cG
 have cX1 := HL.out.2.2.1.cell
 have lX1 := HL.out.2.2.1.lt
 go_wp2_with fail
 clear cX
 refine (wpIn_wide (n := n)).1 ?_
 gi_loopw [16] (fun iv wx => ∃ (k : Nat) (b : Sol) (pre : List (Sol × Bool)), k ≤ x.2.2 ∧ iv = .int .i64 k ∧ Hid (pre ++ wayL x.2.1 (x.2.2 - k) b = wayL x.2.1 x.2.2 s ∧ J pre wx ∧ Blk wx N0 #[.int .u64 (pl b 0), .int .u64 (pl b 1), .int .u64 (pl b 2), .int .u64 (pl b 3), .int .u64 (pl b 4), .int .u64 (pl b 5), .int .u64 (pl b 6), .int .u64 (pl b 7)] 72 ∧ Blk wx bx #[.int .i64 (x.1 : Int), .int .i64 (x.2.1 : Int), .int .i64 (x.2.2 : Int)] 50)) (fun iv _ => x.2.2 - (intOf iv).toNat)
 case atStart => exact ⟨0, s, [], Nat.zero_le _, rfl, Lib.hid ⟨rfl, HL.out.2.1, HL.out.1, HL.out.2.2.1⟩⟩
 case round =>
  clear cX1 lX1 HL
  obtain ⟨k, b, pre, hk, rfl, HI⟩ := hrel
  by_cases hlt2 : k < x.2.2
  ·have HK1 : Hid (k + 1 ≤ x.2.2) := Lib.hid hlt2
   have hside : 1 ≤ x.2.1 ∧ x.2.1 ≤ 4 := by
    rcases ((mem_allMv x).1 hx).2 with h | h
    ·omega
    ·exact h.1
   obtain ⟨fid, HIX, HEN, HSP⟩ := side_of x.2.1 hside.1 hside.2
   have cX := HI.out.2.2.2.cell
   have lX1 := HI.out.2.2.2.lt
   have hnX : bx ≠ N0 := by omega
   have HS := Lib.hid HSP; clear HSP hside
   gi_wp2_with fail
   refine wpIn_wide.2 ?_
   obtain ⟨b', hb'⟩ : ∃ b', b' = stepS x.2.1 b := ⟨_, rfl⟩
   obtain ⟨ok, hok⟩ : ∃ ok, ok = inS x.2.1 b := ⟨_, rfl⟩
   have HB := Lib.hid (And.intro hb' hok); clear hb' hok
   refine wp_region_val (GbN N0) (fun L vs W => I4w N0 b b' (L 9) W) [Is sidesV, Is (.pointer (some ⟨bx, 1, none⟩)), Is (.int .i64 (x.2.1 : Int)), Is (.func (.func fid) #[] #[]), Is (.agg #[.int .u64 (pl b 0), .int .u64 (pl b 1), .int .u64 (pl b 2), .int .u64 (pl b 3), .int .u64 (pl b 4), .int .u64 (pl b 5), .int .u64 (pl b 6), .int .u64 (pl b 7)]), Is (.tuple #[.agg #[.int .u64 (pl b' 0), .int .u64 (pl b' 1), .int .u64 (pl b' 2), .int .u64 (pl b' 3), .int .u64 (pl b' 4), .int .u64 (pl b' 5), .int .u64 (pl b' 6), .int .u64 (pl b' 7)], .bool ok]), Is (.tuple #[.agg #[.int .u64 (pl b' 0), .int .u64 (pl b' 1), .int .u64 (pl b' 2), .int .u64 (pl b' 3), .int .u64 (pl b' 4), .int .u64 (pl b' 5), .int .u64 (pl b' 6), .int .u64 (pl b' 7)], .bool ok]), Is (.agg #[.int .u64 (pl b' 0), .int .u64 (pl b' 1), .int .u64 (pl b' 2), .int .u64 (pl b' 3), .int .u64 (pl b' 4), .int .u64 (pl b' 5), .int .u64 (pl b' 6), .int .u64 (pl b' 7)]), Is (.bool ok), AnyV, Is (.bool ok)] (by kernel_rfl) (by kernel_rfl) rfl (fun W => gb_refl W _) (GbN.trans N0) (stable_mem ⟨fun _ _ _ h _ => h, fun _ _ _ h _ => h, fun _ _ _ h _ => h, fun _ _ _ h _ => h, fun _ _ _ h _ => h, fun _ _ _ h _ => h, fun _ _ _ h _ => h, fun _ _ _ h _ => h, fun _ _ _ h _ => h, fun _ _ _ h _ => h, fun _ _ _ h _ => h, trivial⟩) wr (gb_drew (gb_refl _ _)) (⟨fun _ => HI.out.2.2.1, fun e => (by cases e)⟩) ?_
   refine val_cons ?_ (fun v0 => ?_)
   ·intro L vs w1 hvs hat hb hI hF; try simp [factsI, Region.binds, Is] at hF
    have HI2 := Lib.hid hI; clear hI
    go_simp
    refine (sides_spec _).mono ?_
    rintro e w2 ⟨rfl, hb2⟩
    exact ⟨_, rfl, gb_below (gb_refl _ _) hb2, HI2.out.bel hb2, rfl⟩
   refine val_cons ?_ (fun v1 => ?_)
   ·intro L vs w1 hvs hat hb hI hF; try simp [factsI, Region.binds, Is] at hF
    have HI2 := Lib.hid hI; clear hI
    go_simp
    exact ⟨gb_refl _ _, HI2.out⟩
   refine val_cons ?_ (fun v2 => ?_)
   ·intro L vs w1 hvs hat hb hI hF; try simp [factsI, Region.binds, Is] at hF
    have cX2 := (HI.out.2.2.2.gb hb (by simpa using hnX)).cell
    have HI2 := Lib.hid hI; clear hI
    go_simp
    exact ⟨gb_refl _ _, HI2.out⟩
   refine val_cons ?_ (fun v3 => ?_)
   ·intro L vs w1 hvs hat hb hI hF; try simp [factsI, Region.binds, Is] at hF
    have HI2 := Lib.hid hI; clear hI
    go_simp
    exact ⟨gb_refl _ _, HI2.out⟩
   refine val_cons ?_ (fun v4 => ?_)
   ·intro L vs w1 hvs hat hb hI hF; try simp [factsI, Region.binds, Is] at hF
    have h9 := hat.later 11 9 (by kernel_rfl)
    have cB := (hI.1 h9).cell
    have HI2 := Lib.hid hI; clear hI h9
    go_simp
    exact ⟨gb_refl _ _, HI2.out⟩
   refine val_cons ?_ (fun v5 => ?_)
   ·intro L vs w1 hvs hat hb hI hF; try simp [factsI, Region.binds, Is] at hF
    have HI2 := Lib.hid hI; clear hI
    go_simp
    refine (HS.out b _).mono ?_
    rintro e w2 ⟨rfl, hb2⟩
    exact ⟨_, rfl, gb_below (gb_refl _ _) hb2, HI2.out.bel hb2, by rw [HB.out.1, HB.out.2]⟩
   refine val_cons ?_ (fun v6 => ?_)
   ·intro L vs w1 hvs hat hb hI hF; try simp [factsI, Region.binds, Is] at hF
    have HI2 := Lib.hid hI; clear hI
    go_simp
    exact ⟨gb_refl _ _, HI2.out⟩
   refine val_cons ?_ (fun v7 => ?_)
   ·intro L vs w1 hvs hat hb hI hF; try simp [factsI, Region.binds, Is] at hF
    have HI2 := Lib.hid hI; clear hI
    go_simp
    exact ⟨gb_refl _ _, HI2.out⟩
   refine val_cons ?_ (fun v8 => ?_)
   ·intro L vs w1 hvs hat hb hI hF; try simp [factsI, Region.binds, Is] at hF
    have HI2 := Lib.hid hI; clear hI
    go_simp
    exact ⟨gb_refl _ _, HI2.out⟩
   refine val_cons ?_ (fun v9 => ?_)
   ·intro L vs w1 hvs hat hb hI hF; try simp [factsI, Region.binds, Is] at hF
    have h9 := Lib.hid hat.self
    have hB := hI.1 h9.out
    have r0 := hB.row
    have HW := Lib.hid (And.intro hB.rw hB)
    rw [← HW.out.1]
    clear hI hB
    go_simp
    rw [HW.out.1]
    try simp [upd]
    exact ⟨gb_row (gb_refl _ _) _, ⟨fun e => (by cases e), fun _ => HW.out.2.rowS _⟩, trivial⟩
   refine val_cons ?_ (fun v10 => ?_)
   ·intro L vs w1 hvs hat hb hI hF; try simp [factsI, Region.binds, Is] at hF
    have HI2 := Lib.hid hI; clear hI
    go_simp
    exact ⟨gb_refl _ _, HI2.out⟩
   refine val_nil ?_
   intro vs w1 hvs hb hI hF
   simp [Is, Nat.forall_lt_succ_right] at hF
   have e0 := hF.1.1.1.1.1.1.1.1.1.1
   have e1 := hF.1.1.1.1.1.1.1.1.1.2
   have e2 := hF.1.1.1.1.1.1.1.1.2
   have e3 := hF.1.1.1.1.1.1.1.2
   have e4 := hF.1.1.1.1.1.1.2
   have e5 := hF.1.1.1.1.1.2
   have e6 := hF.1.1.1.1.2
   have e7 := hF.1.1.1.2
   have e8 := hF.1.1.2
   have e9 := hF.1.2
   have e10 := hF.2
   clear hF
   simp only [Act.put, List.setIfInBounds_toArray, List.set_cons_succ, List.set_cons_zero, e0, e1, e2, e3, e4, e5, e6, e7, e8, e10]
   clear e0 e1 e2 e3 e4 e5 e6 e7 e8 e10
   have hBb := hI.2 rfl
   have hJ2 := HF.out.2.1 _ _ _ _ HI.out.2.1 hb (fun r e => by cases e; have := HN0.out; omega)
   have hX2 := HI.out.2.2.2.gb hb (by simpa using hnX)
   have hsz2 := hBb.lt
   have hway : wayL x.2.1 (x.2.2 - k) b = if ok then (b', true) :: wayL x.2.1 (x.2.2 - (k + 1)) b' else [(b', false)] := by
    rw [show x.2.2 - k = (x.2.2 - (k + 1)) + 1 by omega, wayL, ← HB.out.1, ← HB.out.2]
   have hlen : pre.length < (wayL x.2.1 x.2.2 s).length := by
    rw [← HI.out.1, hway, List.length_append]; split <;> simp <;> omega
   obtain ⟨fn, tm, asg, bdy, hy, hR⟩ := HF.out.2.2.2.2.1 pre (b', ok) w1 hJ2 (by rw [← HN0.out]; omega) hlen
   have HV := Lib.hid (And.intro hBb (And.intro hX2 (And.intro hway hR)))
   clear hI hb hBb hJ2 hX2 hsz2 hway hlen hvs e9 cX lX1 hR
   go_upto_region 5 with fail
   have cB := HV.out.1.cell
   have lB := HV.out.1.lt
   cases ok
   ·try dsimp only at hy
    gi_wp2_with fail
    refine HV.out.2.2.2.mono ?_
    rintro e W3 (⟨rfl, hJ3, hk3⟩ | ⟨rfl, hJx3⟩)
    ·have HY := Lib.hid (And.intro hJ3 hk3); clear hJ3 hk3
     gi_wp2_with fail
     refine bodyPost_ret (v := .tuple #[]) (by simp [results, Tryd.results67, go_sem]) rfl ⟨⟨_, rfl⟩, .inl ⟨pre ++ [(b', false)], ?_, HY.out.1⟩⟩
     rw [← HI.out.1, HV.out.2.2.1]; rfl
    ·have HY := Lib.hid hJx3; clear hJx3
     gi_wp2_with fail
     refine bodyPost_ret (v := .tuple #[]) (by simp [results, Tryd.results67, go_sem]) rfl ⟨⟨_, rfl⟩, .inr ⟨pre ++ [(b', false)], ?_, HY.out⟩⟩
     rw [← HI.out.1, HV.out.2.2.1]
     exact List.prefix_refl _
   ·try dsimp only at hy
    gi_wp2_with fail
    refine HV.out.2.2.2.mono ?_
    rintro e W3 (⟨rfl, hJ3, hk3⟩ | ⟨rfl, hJx3⟩)
    ·have hB3 : Blk W3 N0 #[.int .u64 (pl b' 0), .int .u64 (pl b' 1), .int .u64 (pl b' 2), .int .u64 (pl b' 3), .int .u64 (pl b' 4), .int .u64 (pl b' 5), .int .u64 (pl b' 6), .int .u64 (pl b' 7)] 72 := (hk3.2 _ HV.out.1.lt (HF.out.2.2.2.1 N0 (by rw [← HN0.out]; omega) (by rw [← HN0.out]; omega))).trans HV.out.1
     have hX3 : Blk W3 bx #[.int .i64 (x.1 : Int), .int .i64 (x.2.1 : Int), .int .i64 (x.2.2 : Int)] 50 := (hk3.2 _ HV.out.2.1.lt hnx).trans HV.out.2.1
     have HY := Lib.hid (And.intro hJ3 (And.intro hB3 hX3)); clear hJ3 hk3 hB3 hX3
     gi_wp2_with fail
     go_roundw
     case rel =>
      refine ⟨k + 1, b', pre ++ [(b', true)], HK1.out, by go_num, Lib.hid ⟨?_, HY.out⟩⟩
      rw [← HI.out.1, HV.out.2.2.1, List.append_assoc]; rfl
     case measure => have hh := HK1.out; clear hy; simp [intOf]; omega
    ·have HY := Lib.hid hJx3; clear hJx3
     gi_wp2_with fail
     refine bodyPost_ret (v := .tuple #[]) (by simp [results, Tryd.results67, go_sem]) rfl ⟨⟨_, rfl⟩, .inr ⟨pre ++ [(b', true)], ?_, HY.out⟩⟩
     rw [← HI.out.1, HV.out.2.2.1]
     exact ⟨wayL x.2.1 (x.2.2 - (k + 1)) b', by rw [List.append_assoc]; rfl⟩
  ·obtain rfl : k = x.2.2 := by omega
   have cB := HI.out.2.2.1.cell
   have lB := HI.out.2.2.1.lt
   have hbw : Hid (pre ++ nxtL 7 (upS b) = wayL x.2.1 x.2.2 s) := Lib.hid (by rw [← HI.out.1, Nat.sub_self, ← upsL_nxt]; rfl)
   gi_wp2_with fail
   go_wp2_with fail
   refine (up_spec b _).mono ?_
   rintro e w2 ⟨rfl, hb2⟩
   have hB2 := HI.out.2.2.1.grow hb2
   have hJ2 := HF.out.2.1.bel HI.out.2.1 hb2
   have r2 := hB2.row
   have hR2 := hB2.rowS #[.int .u64 (pl (upS b) 0), .int .u64 (pl (upS b) 1), .int .u64 (pl (upS b) 2), .int .u64 (pl (upS b) 3), .int .u64 (pl (upS b) 4), .int .u64 (pl (upS b) 5), .int .u64 (pl (upS b) 6), .int .u64 (pl (upS b) 7)]
   have hJ3 := HF.out.2.1 _ _ _ _ hJ2 (gb_row (gb_refl w2 (some N0)) #[.int .u64 (pl (upS b) 0), .int .u64 (pl (upS b) 1), .int .u64 (pl (upS b) 2), .int .u64 (pl (upS b) 3), .int .u64 (pl (upS b) 4), .int .u64 (pl (upS b) 5), .int .u64 (pl (upS b) 6), .int .u64 (pl (upS b) 7)]) (fun r e => by cases e; have := HN0.out; omega)
   have HU := Lib.hid (And.intro hR2 hJ3)
   rw [← hB2.rw]
   clear hB2 hJ2 hR2 hJ3 hb2 cB lB
   go_wp2_with fail
   generalize hw3 : w2.setRow N0 #[.int .u64 (pl (upS b) 0), .int .u64 (pl (upS b) 1), .int .u64 (pl (upS b) 2), .int .u64 (pl (upS b) 3), .int .u64 (pl (upS b) 4), .int .u64 (pl (upS b) 5), .int .u64 (pl (upS b) 6), .int .u64 (pl (upS b) 7)] = w3 at *
   clear hw3 r2
   refine (wpIn_wide (n := n)).1 ?_
   gi_loopw [39] (fun _ wx => ∃ (u : Sol) (fu : Nat) (pre2 : List (Sol × Bool)), Hid (pre2 ++ nxtL fu u = wayL x.2.1 x.2.2 s ∧ 7 - lowP u ≤ fu ∧ J pre2 wx ∧ Blk wx N0 #[.int .u64 (pl u 0), .int .u64 (pl u 1), .int .u64 (pl u 2), .int .u64 (pl u 3), .int .u64 (pl u 4), .int .u64 (pl u 5), .int .u64 (pl u 6), .int .u64 (pl u 7)] 72)) (fun _ wx => 8 - lowP (decW wx N0))
   case atStart => exact ⟨upS b, 7, pre, Lib.hid ⟨hbw.out, by omega, HU.out.2, HU.out.1⟩⟩
   case round =>
    obtain ⟨u, fu, pre2, HI2⟩ := hrel
    have cB := HI2.out.2.2.2.cell
    have lB := HI2.out.2.2.2.lt
    have HDU : Hid (decW wr N0 = u) := Lib.hid (decW_is HI2.out.2.2.2)
    by_cases hu : u = 0
    ·have hu2 : (u == 0#512) = true := beq_iff_eq.2 hu
     have HU2 := Lib.hid hu; clear hu
     gi_wp2_with fail
     go_end0
     refine ⟨⟨_, rfl⟩, .inl ⟨pre2, ?_, HI2.out.2.2.1⟩⟩
     have := HI2.out.1
     rwa [HU2.out, nxtL_zero, List.append_nil] at this
    ·have hu2 : (u == 0#512) = false := by rw [beq_eq_false_iff_ne]; exact hu
     have hst := nxtL_step hu HI2.out.2.1
     have HU2 := Lib.hid (And.intro hu hst); clear hu hst
     have hlen : pre2.length < (wayL x.2.1 x.2.2 s).length := by
      rw [← HI2.out.1, HU2.out.2.1, List.length_append]; simp
     obtain ⟨fn, tm, asg, bdy, hy, hR⟩ := HF.out.2.2.2.2.1 pre2 (u, true) wr HI2.out.2.2.1 (by rw [← HN0.out]; exact lB) hlen
     have HR := Lib.hid hR; clear hR hlen
     try dsimp only at hy
     gi_wp2_with fail
     refine HR.out.mono ?_
     rintro e W3 (⟨rfl, hJ3, hk3⟩ | ⟨rfl, hJx3⟩)
     ·have hB3 : Blk W3 N0 #[.int .u64 (pl u 0), .int .u64 (pl u 1), .int .u64 (pl u 2), .int .u64 (pl u 3), .int .u64 (pl u 4), .int .u64 (pl u 5), .int .u64 (pl u 6), .int .u64 (pl u 7)] 72 := (hk3.2 _ lB (HF.out.2.2.2.1 N0 (by rw [← HN0.out]; omega) (by rw [← HN0.out]; omega))).trans HI2.out.2.2.2
      have HY := Lib.hid (And.intro hJ3 hB3); clear hJ3 hk3 hB3 cB lB hy
      have cB := HY.out.2.cell
      have lB := HY.out.2.lt
      gi_wp2_with fail
      refine ⟨trivial, (callsIn_wide.2 (up_spec u _)).mono ?_⟩
      rintro e W4 ⟨rfl, hb4⟩
      have hB4 := HY.out.2.grow hb4
      have hJ4 := HF.out.2.1.bel HY.out.1 hb4
      have r4 := hB4.row
      have hR4 := hB4.rowS #[.int .u64 (pl (upS u) 0), .int .u64 (pl (upS u) 1), .int .u64 (pl (upS u) 2), .int .u64 (pl (upS u) 3), .int .u64 (pl (upS u) 4), .int .u64 (pl (upS u) 5), .int .u64 (pl (upS u) 6), .int .u64 (pl (upS u) 7)]
      have hJ5 := HF.out.2.1 _ _ _ _ hJ4 (gb_row (gb_refl W4 (some N0)) #[.int .u64 (pl (upS u) 0), .int .u64 (pl (upS u) 1), .int .u64 (pl (upS u) 2), .int .u64 (pl (upS u) 3), .int .u64 (pl (upS u) 4), .int .u64 (pl (upS u) 5), .int .u64 (pl (upS u) 6), .int .u64 (pl (upS u) 7)]) (fun r e => by cases e; have := HN0.out; omega)
      have HZ := Lib.hid (And.intro hR4 hJ5)
      rw [← hB4.rw]
      clear hB4 hJ4 hR4 hJ5 hb4 cB lB
      gi_wp2_with fail
      go_roundw
      case rel => exact ⟨upS u, fu - 1, pre2 ++ [(u, true)], Lib.hid ⟨by rw [← HI2.out.1, HU2.out.2.1, List.append_assoc]; rfl, HU2.out.2.2, HZ.out.2, HZ.out.1⟩⟩
      case measure =>
       rw [decW_is HZ.out.1, HDU.out, lowP_up u HU2.out.1]
       have h9 := lowP_le u
       have h8 : lowP u ≠ 8 := fun e => HU2.out.1 ((lowP_zero u).1 e)
       omega
     ·have HY := Lib.hid hJx3; clear hJx3
      gi_wp2_with fail
      refine bodyPost_ret (v := .tuple #[]) (by simp [results, Tryd.results67, go_sem]) rfl ⟨⟨_, rfl⟩, .inr ⟨pre2 ++ [(u, true)], ?_, HY.out⟩⟩
      rw [← HI2.out.1, HU2.out.2.1]
      exact ⟨nxtL (fu - 1) (upS u), by rw [List.append_assoc]; rfl⟩
theorem way_spec (w : World) (g : Nat) (x : Mo) : Calls Tryd.prog 60 #[.pointer (some ⟨g, 0, none⟩), mvV x] w fun e w' => e = .returned (.func (.func 67) #[] #[.pointer (some ⟨w.heap.size, 0, none⟩), .pointer (some ⟨w.heap.size + 1, 0, none⟩)]) ∧
  w' = (w.alloc (.cells #[.pointer (some ⟨g, 0, none⟩)] 42)).alloc (.cells #[.int .i64 (x.1 : Int), .int .i64 (x.2.1 : Int), .int .i64 (x.2.2 : Int)] 50) := by
 have hmf' := hmf
 go_enter Tryd.func60, Tryd.ntmps60
 go_wp2_with fail
 go_ret
 exact ⟨rfl, rfl⟩
theorem way_seq {n : Nat} (hn : 1 ≤ n) {Wr : Nat → Prop} {W : World} {g mb : Nat} {m : List Sol} (hM : Mould W g mb m) {x : Mo} {s : Sol} (hs : m[x.1]? = some s) (hx : x ∈ allMv) {bm bx : Nat} (hbm : Blk W bm #[.pointer (some ⟨g, 0, none⟩)] 42) (hbx : Blk W bx #[.int .i64 (x.1 : Int), .int .i64 (x.2.1 : Int), .int .i64 (x.2.2 : Int)] 50) (hnx : ¬ Wr bx) :
  SeqC Fence.wide n Tryd.prog 67 #[.pointer (some ⟨bm, 0, none⟩), .pointer (some ⟨bx, 0, none⟩)] (fun y : Sol × Bool => #[solV y.1, .bool y.2]) Wr 1 (· = wayL x.2.1 x.2.2 s) (· <+: wayL x.2.1 x.2.2 s) (wayL x.2.1 x.2.2 s).length W := by
 intro lp J Jx hJ hJx hwr hY h0
 exact way1_in hn lp hM hs hx hbm hbx hnx J Jx hJ hJx hwr hY h0
end Go.Proofs.YtkcpnhigekopaaaDoor
end
