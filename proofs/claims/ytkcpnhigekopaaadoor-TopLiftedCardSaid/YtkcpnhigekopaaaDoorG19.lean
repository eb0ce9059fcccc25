import Derived.Test.YtkcpnhigekopaaaDoorG18
/-
  Given contracts of functions of the program, and laws for them, one behind the other.
-/
set_option linter.unusedVariables false
set_option linter.unusedSimpArgs false
set_option linter.unusedSectionVars false
section
namespace Go.Proofs.YtkcpnhigekopaaaDoor
open Go.RowKit Go.Rel Go.Draw
set_option maxRecDepth 100000
attribute [local go_sem] Oper.semAt_some
/-! all sets of pieces, one behind the other -/
theorem yieldAt_wide {m m' : Nat} {P : Program} {l : Nat} {args : Array Value} {W : World} {R : Ending → World → Prop} (h : YieldAt Fence.wide m P l args W R) : YieldAt Fence.wide m' P l args W R := by
 obtain ⟨fn, t, a, b, h1, h2, h3⟩ := h
 exact ⟨fn, t, a, b, h1, h2, fun c cs _ => h3 c cs (room_wide _)⟩
/-- what the two calls of a conjunction leave -/
def Core (A B T F : World → Prop) (l7 : Bool) (v7 : Value) (l13 : Bool) (v13 : Value) (w : World) : Prop :=
 (l7 = false ∧ A w) ∨ (l7 = true ∧ v7 = .bool false ∧ F w) ∨ (l7 = true ∧ v7 = .bool true ∧ ((l13 = false ∧ B w) ∨ (l13 = true ∧ ((v13 = .bool true ∧ T w) ∨ (v13 = .bool false ∧ F w)))))
def I78 (A B T F : World → Prop) (clos sV kV kV1 : Value) (L : Nat → Bool) (vs : Nat → Value) (w : World) : Prop :=
 Core A B T F (L 7) (vs 7) (L 13) (vs 13) w ∧ (L 8 = true → vs 8 = vs 7) ∧
 (vs 8 = .bool true → (L 9 = true → vs 9 = clos) ∧ (L 10 = true → vs 10 = sV) ∧ (L 11 = true → vs 11 = kV) ∧ (L 12 = true → vs 12 = kV1)) ∧
 (L 14 = true → (vs 8 = .bool true → vs 14 = vs 13) ∧ (vs 8 = .bool false → vs 14 = .bool false)) ∧ (L 15 = true → vs 15 = vs 14)
section
variable {A B T F : World → Prop} {clos sV kV kV1 : Value} {L : Nat → Bool} {vs : Nat → Value} {w : World}
theorem i78_7 (h : I78 A B T F clos sV kV kV1 L vs w) (h8 : L 8 = false) (h13 : L 13 = false) {v : Value} {w' : World} (hv : v = .bool true ∧ B w' ∨ v = .bool false ∧ F w') : I78 A B T F clos sV kV kV1 (fun j => j == 7 || L j) (upd vs 7 v) w' := by
 obtain ⟨h1, h2, h3, h4, h5⟩ := h
 refine ⟨?_, by simp [upd, h8], by simpa [upd] using h3, by simpa [upd] using h4, by simpa [upd] using h5⟩
 simp only [Core, upd, h13]
 rcases hv with ⟨rfl, hv⟩ | ⟨rfl, hv⟩
 ·exact .inr (.inr ⟨rfl, rfl, .inl ⟨rfl, hv⟩⟩)
 ·exact .inr (.inl ⟨rfl, rfl, hv⟩)
theorem i78_8 (h : I78 A B T F clos sV kV kV1 L vs w) (h9 : L 9 = false) (h10 : L 10 = false) (h11 : L 11 = false) (h12 : L 12 = false) (h14 : L 14 = false) {v : Value} (hv : v = vs 7) : I78 A B T F clos sV kV kV1 (fun j => j == 8 || L j) (upd vs 8 v) w := by
 obtain ⟨h1, h2, h3, h4, h5⟩ := h
 exact ⟨by simpa [upd] using h1, by simp [upd, hv], by simp [upd, h9, h10, h11, h12], by simp [upd, h14], by simpa [upd] using h5⟩
theorem i78_9 (h : I78 A B T F clos sV kV kV1 L vs w) {v : Value} (hv : vs 8 = .bool true → v = clos) : I78 A B T F clos sV kV kV1 (fun j => j == 9 || L j) (upd vs 9 v) w := by
 obtain ⟨h1, h2, h3, h4, h5⟩ := h
 exact ⟨by simpa [upd] using h1, by simpa [upd] using h2, fun h => ⟨fun _ => by simpa [upd] using hv (by simpa [upd] using h), by simpa [upd] using (h3 (by simpa [upd] using h)).2⟩, by simpa [upd] using h4, by simpa [upd] using h5⟩
theorem i78_10 (h : I78 A B T F clos sV kV kV1 L vs w) {v : Value} (hv : vs 8 = .bool true → v = sV) : I78 A B T F clos sV kV kV1 (fun j => j == 10 || L j) (upd vs 10 v) w := by
 obtain ⟨h1, h2, h3, h4, h5⟩ := h
 exact ⟨by simpa [upd] using h1, by simpa [upd] using h2, fun h => ⟨by simpa [upd] using (h3 (by simpa [upd] using h)).1, fun _ => by simpa [upd] using hv (by simpa [upd] using h), by simpa [upd] using (h3 (by simpa [upd] using h)).2.2⟩, by simpa [upd] using h4, by simpa [upd] using h5⟩
theorem i78_11 (h : I78 A B T F clos sV kV kV1 L vs w) {v : Value} (hv : vs 8 = .bool true → v = kV) : I78 A B T F clos sV kV kV1 (fun j => j == 11 || L j) (upd vs 11 v) w := by
 obtain ⟨h1, h2, h3, h4, h5⟩ := h
 exact ⟨by simpa [upd] using h1, by simpa [upd] using h2, fun h => ⟨by simpa [upd] using (h3 (by simpa [upd] using h)).1, by simpa [upd] using (h3 (by simpa [upd] using h)).2.1, fun _ => by simpa [upd] using hv (by simpa [upd] using h), by simpa [upd] using (h3 (by simpa [upd] using h)).2.2.2⟩, by simpa [upd] using h4, by simpa [upd] using h5⟩
theorem i78_12 (h : I78 A B T F clos sV kV kV1 L vs w) {v : Value} (hv : vs 8 = .bool true → v = kV1) : I78 A B T F clos sV kV kV1 (fun j => j == 12 || L j) (upd vs 12 v) w := by
 obtain ⟨h1, h2, h3, h4, h5⟩ := h
 exact ⟨by simpa [upd] using h1, by simpa [upd] using h2, fun h => ⟨by simpa [upd] using (h3 (by simpa [upd] using h)).1, by simpa [upd] using (h3 (by simpa [upd] using h)).2.1, by simpa [upd] using (h3 (by simpa [upd] using h)).2.2.1, fun _ => by simpa [upd] using hv (by simpa [upd] using h)⟩, by simpa [upd] using h4, by simpa [upd] using h5⟩
/-- the second call, where it is wanted -/
theorem i78_13 (h : I78 A B T F clos sV kV kV1 L vs w) (h7 : L 7 = true) (h7v : vs 7 = .bool true) (h14 : L 14 = false) {v : Value} {w' : World} (hv : v = .bool true ∧ T w' ∨ v = .bool false ∧ F w') : I78 A B T F clos sV kV kV1 (fun j => j == 13 || L j) (upd vs 13 v) w' := by
 obtain ⟨h1, h2, h3, h4, h5⟩ := h
 refine ⟨?_, by simpa [upd] using h2, by simpa [upd] using h3, by simp [upd, h14], by simpa [upd] using h5⟩
 simp only [Core, upd]
 exact .inr (.inr ⟨by simpa using h7, by simpa using h7v, .inr ⟨rfl, by simpa using hv⟩⟩)
theorem i78_13n (h : I78 A B T F clos sV kV kV1 L vs w) (h7 : L 7 = true) (h7v : vs 7 = .bool false) (h14 : L 14 = false) (v : Value) : I78 A B T F clos sV kV kV1 (fun j => j == 13 || L j) (upd vs 13 v) w := by
 obtain ⟨h1, h2, h3, h4, h5⟩ := h
 refine ⟨?_, by simpa [upd] using h2, by simpa [upd] using h3, by simp [upd, h14], by simpa [upd] using h5⟩
 rcases h1 with ⟨h, _⟩ | ⟨_, _, h⟩ | ⟨_, h, _⟩
 ·rw [h7] at h; cases h
 ·exact .inr (.inl ⟨by simpa using h7, by simpa [upd] using h7v, h⟩)
 ·rw [h7v] at h; cases h
theorem i78_14 (h : I78 A B T F clos sV kV kV1 L vs w) (h15 : L 15 = false) {v : Value} (hv : (vs 8 = .bool true → v = vs 13) ∧ (vs 8 = .bool false → v = .bool false)) : I78 A B T F clos sV kV kV1 (fun j => j == 14 || L j) (upd vs 14 v) w := by
 obtain ⟨h1, h2, h3, h4, h5⟩ := h
 exact ⟨by simpa [upd] using h1, by simpa [upd] using h2, by simpa [upd] using h3, fun _ => by simpa [upd] using hv, by simp [upd, h15]⟩
theorem i78_15 (h : I78 A B T F clos sV kV kV1 L vs w) {v : Value} (hv : v = vs 14) : I78 A B T F clos sV kV kV1 (fun j => j == 15 || L j) (upd vs 15 v) w := by
 obtain ⟨h1, h2, h3, h4, h5⟩ := h
 exact ⟨by simpa [upd] using h1, by simpa [upd] using h2, by simpa [upd] using h3, by simpa [upd] using h4, fun _ => by simpa [upd] using hv⟩
theorem i78_end (h : I78 A B T F clos sV kV kV1 L vs w) (h7 : L 7 = true) (h8 : L 8 = true) (h13 : L 13 = true) (h14 : L 14 = true) (h15 : L 15 = true) : vs 15 = .bool true ∧ T w ∨ vs 15 = .bool false ∧ F w := by
 obtain ⟨h1, h2, h3, h4, h5⟩ := h
 rw [h5 h15]
 have e4 := h4 h14
 have e8 := h2 h8
 rcases h1 with ⟨h, _⟩ | ⟨_, hv, h⟩ | ⟨_, hv, ⟨h, _⟩ | ⟨_, h⟩⟩
 ·rw [h7] at h; cases h
 ·exact .inr ⟨e4.2 (e8.trans hv), h⟩
 ·rw [h13] at h; cases h
 ·rw [e4.1 (e8.trans hv)]; exact h
end
end Go.Proofs.YtkcpnhigekopaaaDoor
end
section
namespace Go.Proofs.YtkcpnhigekopaaaDoor
open Go.RowKit Go.Rel Go.Draw
set_option maxRecDepth 100000
attribute [local go_sem] Oper.semAt_some
/-! the iterator over all sets: its recursion -/
abbrev SetOf (n : Nat) := { s : U // s ∈ setsL n 0 0 }
theorem setsL_len : ∀ (n k : Nat) (s : U), (setsL n k s).length = 2 ^ n
 | 0, _, _ => rfl
 | n + 1, k, s => by rw [setsL, List.length_append, setsL_len n, setsL_len n, Nat.pow_succ]; omega
abbrev closV (bm bY bn : Nat) : Value := .func (.func 53) #[] #[.pointer (some ⟨bm, 0, none⟩), .pointer (some ⟨bY, 0, none⟩), .pointer (some ⟨bn, 0, none⟩)]
/-- what the recursion reads -/
structure Cl (g bm bY bn lp : Nat) (m : List Sol) (W : World) : Prop where
 fm : Blk W bm #[.pointer (some ⟨g, 0, none⟩)] 42
 fy : Blk W bY #[.func (.yield lp) #[] #[]] 92
 fn : Blk W bn #[closV bm bY bn] 104
 fg : ∃ a c cs ty, Blk W g cs ty ∧ cs[0]? = some (.slice a m.length c)
theorem Cl.keep {g bm bY bn lp : Nat} {m : List Sol} {Wr : Nat → Prop} {W W' : World} (h : Cl g bm bY bn lp m W) (hn : ¬ Wr bm ∧ ¬ Wr bY ∧ ¬ Wr bn ∧ ¬ Wr g) (hk : KeepsBut Wr W W') : Cl g bm bY bn lp m W' := by
 obtain ⟨a, c, r, ty, e, e2⟩ := h.fg
 exact ⟨(hk.2 _ h.fm.lt hn.1).trans h.fm, (hk.2 _ h.fy.lt hn.2.1).trans h.fy, (hk.2 _ h.fn.lt hn.2.2.1).trans h.fn, a, c, r, ty, (hk.2 _ e.lt hn.2.2.2).trans e, e2⟩
theorem i78_lo {A B T F : World → Prop} {clos sV kV kV1 : Value} {L : Nat → Bool} {vs : Nat → Value} {w : World} (h : I78 A B T F clos sV kV kV1 L vs w) {k : Nat} (hk : k < 7) {v : Value} : I78 A B T F clos sV kV kV1 (fun j => j == k || L j) (upd vs k v) w := by
 obtain rfl | rfl | rfl | rfl | rfl | rfl | rfl : k = 0 ∨ k = 1 ∨ k = 2 ∨ k = 3 ∨ k = 4 ∨ k = 5 ∨ k = 6 := by omega
 all_goals simpa [I78, upd] using h
theorem Core.a {A B T F : World → Prop} {l7 l13 : Bool} {v7 v13 : Value} {w : World} (h : Core A B T F l7 v7 l13 v13 w) (h7 : l7 = false) : A w := by
 rcases h with ⟨_, h⟩ | ⟨h, _⟩ | ⟨h, _⟩
 ·exact h
 ·rw [h7] at h; cases h
 ·rw [h7] at h; cases h
theorem Core.b {A B T F : World → Prop} {l7 l13 : Bool} {v7 v13 : Value} {w : World} (h : Core A B T F l7 v7 l13 v13 w) (h7 : l7 = true) (hv : v7 = .bool true) (h13 : l13 = false) : B w := by
 rcases h with ⟨h, _⟩ | ⟨_, h, _⟩ | ⟨_, _, ⟨_, h⟩ | ⟨h, _⟩⟩
 ·rw [h7] at h; cases h
 ·rw [hv] at h; cases h
 ·exact h
 ·rw [h13] at h; cases h
def Bo : Value → World → Prop := fun v _ => v = .bool true ∨ v = .bool false
section
variable {n : Nat} (Wr : Nat → Prop) (J Jx : List (SetOf n) → World → Prop)
def NextT (j k : Nat) (s : U) (pre : List (SetOf n)) (W1 W' : World) : Prop := (∃ ext : List (SetOf n), ext.map (·.1) = setsL j k s ∧ J (pre ++ ext) W') ∧ KeepsBut Wr W1 W'
def NextF (j k : Nat) (s : U) (pre : List (SetOf n)) (W' : World) : Prop := ∃ ext : List (SetOf n), ext.map (·.1) <+: setsL j k s ∧ Jx (pre ++ ext) W'
def NextP (j k : Nat) (s : U) (pre : List (SetOf n)) (W1 : World) (e : Ending) (W' : World) : Prop :=
 (e = .returned (.bool true) ∧ NextT Wr J j k s pre W1 W') ∨ (e = .returned (.bool false) ∧ NextF Jx j k s pre W')
end
set_option maxHeartbeats 4000000 in
theorem next_step {g bm bY bn lp : Nat} {m : List Sol} {Wr : Nat → Prop} (hn : ¬ Wr bm ∧ ¬ Wr bY ∧ ¬ Wr bn ∧ ¬ Wr g) {base : Nat} {J Jx : List (SetOf m.length) → World → Prop} (hJ : ∀ s W, J s W → J s W.drew) {j k : Nat} {s : U} {pre : List (SetOf m.length)} {W1 : World} (hk : k + (j + 1) = m.length) (hm : m.length ≤ 12)
  (hmem : ∀ x ∈ setsL (j + 1) k s, x ∈ setsL m.length 0 0) (hlen : pre.length + 2 ^ (j + 1) ≤ 4096) (h0 : J pre W1) (hb : base ≤ W1.heap.size) (hC : Cl g bm bY bn lp m W1)
  (IH : ∀ (s : U) (pre : List (SetOf m.length)) (W1 : World), (∀ x ∈ setsL j (k + 1) s, x ∈ setsL m.length 0 0) → pre.length + 2 ^ j ≤ 4096 → J pre W1 → base ≤ W1.heap.size → Cl g bm bY bn lp m W1 →
   Calls Tryd.prog 53 #[.int .u64 (uI s), .int .i64 ((k : Int) + 1), .pointer (some ⟨bm, 0, none⟩), .pointer (some ⟨bY, 0, none⟩), .pointer (some ⟨bn, 0, none⟩)] W1 (NextP Wr J Jx j (k + 1) s pre W1)) :
  Calls Tryd.prog 53 #[.int .u64 (uI s), .int .i64 (k : Int), .pointer (some ⟨bm, 0, none⟩), .pointer (some ⟨bY, 0, none⟩), .pointer (some ⟨bn, 0, none⟩)] W1 (NextP Wr J Jx (j + 1) k s pre W1) := by
 obtain ⟨a, c, cs, ty, hg, hg0⟩ := hC.fg
 have cg := hg.cell 0
 rw [hg0] at cg
 have lg := hg.lt
 have cm := hC.fm.cell; have lm := hC.fm.lt
 have e0 : ((k : Int) == (m.length : Int)) = false := by simp; omega
 have HC := Lib.hid hC
 have HI := Lib.hid IH
 have HX := Lib.hid (And.intro hmem (And.intro hlen (And.intro h0 hb)))
 have HN := Lib.hid hn
 have HJ := Lib.hid hJ
 have hkm : k < 12 := by omega
 have HK := Lib.hid hk
 clear hg hg0 hC IH hmem hlen h0 hb hn hJ hk
 go_enter Tryd.func53, Tryd.ntmps53
 go_wp2_with fail
 have HI0 : Hid (I78 (fun W => J pre W ∧ base ≤ W.heap.size ∧ Cl g bm bY bn lp m W ∧ KeepsBut Wr W1 W) (fun W => NextT Wr J j (k + 1) (s ||| bit k) pre W1 W ∧ base ≤ W.heap.size ∧ Cl g bm bY bn lp m W) (NextT Wr J (j + 1) k s pre W1) (NextF Jx (j + 1) k s pre) (closV bm bY bn) (.int .u64 (uI s)) (.int .i64 (k : Int)) (.int .i64 ((k : Int) + 1)) (fun _ => false) (fun _ => undef) W1.drew) := by
  refine Lib.hid ⟨.inl ⟨rfl, HJ.out _ _ HX.out.2.2.1, HX.out.2.2.2, HC.out.keep HN.out ⟨Nat.le_refl _, fun _ _ _ => rfl⟩, ⟨Nat.le_refl _, fun _ _ _ => rfl⟩⟩, by simp, by simp, by simp, by simp⟩
 have ep := pow_u k (by omega)
 have eo := bits_or_u s (bit k)
 have ew : IntKind.i64.wrap ((k : Int) + 1) = (k : Int) + 1 := IntWalk.i64_in _ (by omega)
 clear cm lm cg lg
 refine wp_region_val (fun _ _ => True) (I78 (fun W => J pre W ∧ base ≤ W.heap.size ∧ Cl g bm bY bn lp m W ∧ KeepsBut Wr W1 W) (fun W => NextT Wr J j (k + 1) (s ||| bit k) pre W1 W ∧ base ≤ W.heap.size ∧ Cl g bm bY bn lp m W) (NextT Wr J (j + 1) k s pre W1) (NextF Jx (j + 1) k s pre) (closV bm bY bn) (.int .u64 (uI s)) (.int .i64 (k : Int)) (.int .i64 ((k : Int) + 1))) [Is (closV bm bY bn), Is (.int .u64 (uI s)), Is (.int .i64 (k : Int)), Is (.int .u64 (uI (bit k))), Is (.int .u64 (uI (s ||| bit k))), Is (.int .i64 (k : Int)), Is (.int .i64 ((k : Int) + 1)), Bo, Bo, AnyV, AnyV, AnyV, AnyV, AnyV, AnyV, AnyV] (by kernel_rfl) (by kernel_rfl) rfl (fun _ => trivial) (fun _ _ _ _ _ => trivial) (stable_mem ⟨fun _ _ _ h _ => h, fun _ _ _ h _ => h, fun _ _ _ h _ => h, fun _ _ _ h _ => h, fun _ _ _ h _ => h, fun _ _ _ h _ => h, fun _ _ _ h _ => h, fun _ _ _ h _ => h, fun _ _ _ h _ => h, fun _ _ _ h _ => h, fun _ _ _ h _ => h, fun _ _ _ h _ => h, fun _ _ _ h _ => h, fun _ _ _ h _ => h, fun _ _ _ h _ => h, fun _ _ _ h _ => h, trivial⟩) W1 trivial HI0.out ?_
 refine val_cons ?_ (fun v0 => ?_)
 ·intro L vs w1 hvs hat hb hI hF; try simp [factsI, Region.binds, Is] at hF
  have h7 := hat.later 17 7 (by kernel_rfl)
  have hA := Core.a hI.1 h7
  have cn := hA.2.2.1.fn.cell; have ln := hA.2.2.1.fn.lt
  have HH := Lib.hid hI; clear hI hA h7
  go_simp
  exact i78_lo HH.out (by omega)
 refine val_cons ?_ (fun v1 => ?_)
 ·intro L vs w1 hvs hat hb hI hF; try simp [factsI, Region.binds, Is] at hF
  have HH := Lib.hid hI; clear hI
  go_simp
  exact i78_lo HH.out (by omega)
 refine val_cons ?_ (fun v2 => ?_)
 ·intro L vs w1 hvs hat hb hI hF; try simp [factsI, Region.binds, Is] at hF
  have HH := Lib.hid hI; clear hI
  go_simp
  exact i78_lo HH.out (by omega)
 refine val_cons ?_ (fun v3 => ?_)
 ·intro L vs w1 hvs hat hb hI hF; try simp [factsI, Region.binds, Is] at hF
  have HH := Lib.hid hI; clear hI
  go_simp
  exact i78_lo HH.out (by omega)
 refine val_cons ?_ (fun v4 => ?_)
 ·intro L vs w1 hvs hat hb hI hF; try simp [factsI, Region.binds, Is] at hF
  have HH := Lib.hid hI; clear hI
  go_simp
  exact i78_lo HH.out (by omega)
 refine val_cons ?_ (fun v5 => ?_)
 ·intro L vs w1 hvs hat hb hI hF; try simp [factsI, Region.binds, Is] at hF
  have HH := Lib.hid hI; clear hI
  go_simp
  exact i78_lo HH.out (by omega)
 refine val_cons ?_ (fun v6 => ?_)
 ·intro L vs w1 hvs hat hb hI hF; try simp [factsI, Region.binds, Is] at hF
  have HH := Lib.hid hI; clear hI
  go_simp
  exact i78_lo (k := 6) HH.out (by omega)
 refine val_cons ?_ (fun v7 => ?_)
 ·intro L vs w1 hvs hat hb hI hF; try simp [factsI, Region.binds, Is] at hF
  have h7 := hat.self
  have h8 := Lib.hid (hat.later 17 8 (by kernel_rfl))
  have h13 := Lib.hid (hat.later 17 13 (by kernel_rfl))
  have hA := Lib.hid (Core.a hI.1 h7)
  have HH := Lib.hid hI; clear hI h7
  obtain ⟨rfl, rfl, rfl⟩ := hF
  have eg : ∀ args w, (callFunc 53 args).run Tryd.prog w = .ok (.enter 53 args) w := enters_of Tryd.func53 (by kernel_rfl) rfl
  go_simp
  refine (HI.out (s ||| bit k) pre w1 (fun x hx => HX.out.1 x (by rw [setsL]; exact List.mem_append_left _ hx)) (by have := HX.out.2.1; rw [Nat.pow_succ] at this; omega) hA.out.1 hA.out.2.1 hA.out.2.2.1).mono ?_
  rintro e w2 (⟨rfl, hT⟩ | ⟨rfl, ext, he, hj⟩)
  ·refine ⟨_, rfl, i78_7 HH.out h8.out h13.out (.inl ⟨rfl, ⟨hT.1, hA.out.2.2.2.trans hT.2⟩, Nat.le_trans hA.out.2.1 hT.2.1, hA.out.2.2.1.keep HN.out hT.2⟩), .inl rfl⟩
  ·refine ⟨_, rfl, i78_7 HH.out h8.out h13.out (.inr ⟨rfl, ext, he.trans (by rw [setsL]; exact List.prefix_append _ _), hj⟩), .inr rfl⟩
 refine val_cons ?_ (fun v8 => ?_)
 ·intro L vs w1 hvs hat hb hI hF; try simp [factsI, Region.binds, Is] at hF
  have h9 := Lib.hid (hat.later 17 9 (by kernel_rfl))
  have h10 := Lib.hid (hat.later 17 10 (by kernel_rfl))
  have h11 := Lib.hid (hat.later 17 11 (by kernel_rfl))
  have h12 := Lib.hid (hat.later 17 12 (by kernel_rfl))
  have h14 := Lib.hid (hat.later 17 14 (by kernel_rfl))
  have hv7 := Lib.hid (show vs 7 = v7 from hvs 7 (by omega))
  have HH := Lib.hid hI; clear hI
  have HF := Lib.hid hF; clear hF
  go_simp
  exact ⟨i78_8 HH.out h9.out h10.out h11.out h12.out h14.out hv7.out.symm, HF.out⟩
 refine val_cons ?_ (fun v9 => ?_)
 ·intro L vs w1 hvs hat hb hI hF; try simp [factsI, Region.binds, Is] at hF
  have hb8 : Bo v8 w1 := by first | exact hF | exact hF.2 | exact hF.1 | exact hF.2.2 | exact hF.2.1 | exact hF.2.2.2 | exact hF.2.2.2.2
  have hv8 : vs 8 = v8 := hvs 8 (by omega)
  have h8 := hat.ahead 17 8 (by kernel_rfl)
  rcases hb8 with rfl | rfl
  ·have HV8 := Lib.hid hv8; clear hv8
   have h7 := hat.ahead 17 7 (by kernel_rfl)
   have h13 := hat.later 17 13 (by kernel_rfl)
   have hB := Core.b hI.1 h7 ((hI.2.1 h8).symm.trans HV8.out) h13
   have cn := hB.2.2.fn.cell; have ln := hB.2.2.fn.lt
   clear hB h7 h13
   have HH := Lib.hid hI; clear hI hF h8
   go_simp
   exact ⟨i78_9 HH.out (fun _ => rfl), trivial⟩
  ·have HH := Lib.hid hI
   have HV8 := Lib.hid hv8; clear hv8 hI hF h8
   go_simp
   exact ⟨i78_9 HH.out (fun h => by rw [HV8.out] at h; cases h), trivial⟩
 refine val_cons ?_ (fun v10 => ?_)
 ·intro L vs w1 hvs hat hb hI hF; try simp [factsI, Region.binds, Is] at hF
  have hb8 : Bo v8 w1 := by first | exact hF | exact hF.2 | exact hF.1 | exact hF.2.2 | exact hF.2.1 | exact hF.2.2.2 | exact hF.2.2.2.2
  have hv8 : vs 8 = v8 := hvs 8 (by omega)
  have h8 := hat.ahead 17 8 (by kernel_rfl)
  rcases hb8 with rfl | rfl
  ·have HV8 := Lib.hid hv8; clear hv8
   have HH := Lib.hid hI; clear hI hF h8
   go_simp
   exact ⟨i78_10 HH.out (fun _ => rfl), trivial⟩
  ·have HH := Lib.hid hI
   have HV8 := Lib.hid hv8; clear hv8 hI hF h8
   go_simp
   exact ⟨i78_10 HH.out (fun h => by rw [HV8.out] at h; cases h), trivial⟩
 refine val_cons ?_ (fun v11 => ?_)
 ·intro L vs w1 hvs hat hb hI hF; try simp [factsI, Region.binds, Is] at hF
  have hb8 : Bo v8 w1 := by first | exact hF | exact hF.2 | exact hF.1 | exact hF.2.2 | exact hF.2.1 | exact hF.2.2.2 | exact hF.2.2.2.2
  have hv8 : vs 8 = v8 := hvs 8 (by omega)
  have h8 := hat.ahead 17 8 (by kernel_rfl)
  rcases hb8 with rfl | rfl
  ·have HV8 := Lib.hid hv8; clear hv8
   have HH := Lib.hid hI; clear hI hF h8
   go_simp
   exact ⟨i78_11 HH.out (fun _ => rfl), trivial⟩
  ·have HH := Lib.hid hI
   have HV8 := Lib.hid hv8; clear hv8 hI hF h8
   go_simp
   exact ⟨i78_11 HH.out (fun h => by rw [HV8.out] at h; cases h), trivial⟩
 refine val_cons ?_ (fun v12 => ?_)
 ·intro L vs w1 hvs hat hb hI hF; try simp [factsI, Region.binds, Is] at hF
  have hb8 : Bo v8 w1 := by first | exact hF | exact hF.2 | exact hF.1 | exact hF.2.2 | exact hF.2.1 | exact hF.2.2.2 | exact hF.2.2.2.2
  have hv8 : vs 8 = v8 := hvs 8 (by omega)
  have h8 := hat.ahead 17 8 (by kernel_rfl)
  rcases hb8 with rfl | rfl
  ·have HV8 := Lib.hid hv8; clear hv8
   have h11 := hat.ahead 17 11 (by kernel_rfl)
   have hv11 : v11 = _ := (hvs 11 (by omega)).symm.trans ((hI.2.2.1 HV8.out).2.2.1 h11)
   subst hv11
   clear h11
   have HH := Lib.hid hI; clear hI hF h8
   go_simp
   exact ⟨i78_12 HH.out (fun _ => rfl), trivial⟩
  ·have HH := Lib.hid hI
   have HV8 := Lib.hid hv8; clear hv8 hI hF h8
   go_simp
   exact ⟨i78_12 HH.out (fun h => by rw [HV8.out] at h; cases h), trivial⟩
 refine val_cons ?_ (fun v13 => ?_)
 ·intro L vs w1 hvs hat hb hI hF; try simp [factsI, Region.binds, Is] at hF
  have hb8 : Bo v8 w1 := by first | exact hF | exact hF.2 | exact hF.1 | exact hF.2.2 | exact hF.2.1 | exact hF.2.2.2 | exact hF.2.2.2.2
  have hv8 : vs 8 = v8 := hvs 8 (by omega)
  have h8 := hat.ahead 17 8 (by kernel_rfl)
  have h7 := Lib.hid (hat.ahead 17 7 (by kernel_rfl))
  have h14 := Lib.hid (hat.later 17 14 (by kernel_rfl))
  rcases hb8 with rfl | rfl
  ·have h9 := hat.ahead 17 9 (by kernel_rfl)
   have h10 := hat.ahead 17 10 (by kernel_rfl)
   have h12 := hat.ahead 17 12 (by kernel_rfl)
   have h13 := hat.self
   have hv7 := Lib.hid ((hI.2.1 h8).symm.trans hv8)
   have hB := Lib.hid (Core.b hI.1 h7.out hv7.out h13)
   have hv9 : v9 = _ := (hvs 9 (by omega)).symm.trans ((hI.2.2.1 hv8).1 h9)
   have hv10 : v10 = _ := (hvs 10 (by omega)).symm.trans ((hI.2.2.1 hv8).2.1 h10)
   have hv12 : v12 = _ := (hvs 12 (by omega)).symm.trans ((hI.2.2.1 hv8).2.2.2 h12)
   subst hv9 hv10 hv12
   have HH := Lib.hid hI; clear hI hF h8 hv8 h9 h10 h12 h13
   have eg : ∀ args w, (callFunc 53 args).run Tryd.prog w = .ok (.enter 53 args) w := enters_of Tryd.func53 (by kernel_rfl) rfl
   go_simp
   obtain ⟨⟨⟨ext, he, hj⟩, hkb⟩, hbs, hCl⟩ := hB.out
   have hel : ext.length = 2 ^ j := by
    have := congrArg List.length he
    rwa [List.length_map, setsL_len] at this
   refine (HI.out s (pre ++ ext) w1 (fun x hx => HX.out.1 x (by rw [setsL]; exact List.mem_append_right _ hx)) (by have := HX.out.2.1; rw [Nat.pow_succ] at this; rw [List.length_append, hel]; omega) hj hbs hCl).mono ?_
   rintro e w2 (⟨rfl, ⟨ext2, he2, hj2⟩, hk2⟩ | ⟨rfl, ext2, he2, hj2⟩)
   ·refine ⟨_, rfl, i78_13 HH.out h7.out hv7.out h14.out (.inl ⟨rfl, ⟨ext ++ ext2, by rw [List.map_append, he, he2, setsL], by rw [← List.append_assoc]; exact hj2⟩, hkb.trans hk2⟩), trivial⟩
   ·refine ⟨_, rfl, i78_13 HH.out h7.out hv7.out h14.out (.inr ⟨rfl, ext ++ ext2, by rw [List.map_append, he, setsL]; exact (List.prefix_append_right_inj _).2 he2, by rw [← List.append_assoc]; exact hj2⟩), trivial⟩
  ·have hv7 := Lib.hid ((hI.2.1 h8).symm.trans hv8)
   have HH := Lib.hid hI; clear hI hF h8 hv8
   go_simp
   exact ⟨i78_13n HH.out h7.out hv7.out h14.out _, trivial⟩
 refine val_cons ?_ (fun v14 => ?_)
 ·intro L vs w1 hvs hat hb hI hF; try simp [factsI, Region.binds, Is] at hF
  have hb8 : Bo v8 w1 := by first | exact hF | exact hF.2 | exact hF.1 | exact hF.2.2 | exact hF.2.1 | exact hF.2.2.2 | exact hF.2.2.2.2
  have hv8 : vs 8 = v8 := hvs 8 (by omega)
  have hv13 := Lib.hid (show vs 13 = v13 from hvs 13 (by omega))
  have h15 := Lib.hid (hat.later 17 15 (by kernel_rfl))
  rcases hb8 with rfl | rfl
  ·have HV8 := Lib.hid hv8; clear hv8
   have HH := Lib.hid hI; clear hI hF
   go_simp
   exact ⟨i78_14 HH.out h15.out ⟨fun _ => hv13.out.symm, fun h => (by rw [HV8.out] at h; cases h)⟩, trivial⟩
  ·have HV8 := Lib.hid hv8; clear hv8
   have HH := Lib.hid hI; clear hI hF
   go_simp
   exact ⟨i78_14 HH.out h15.out ⟨fun h => (by rw [HV8.out] at h; cases h), fun _ => rfl⟩, trivial⟩
 refine val_cons ?_ (fun v15 => ?_)
 ·intro L vs w1 hvs hat hb hI hF; try simp [factsI, Region.binds, Is] at hF
  have hv14 := Lib.hid (show vs 14 = v14 from hvs 14 (by omega))
  have HH := Lib.hid hI; clear hI hF
  go_simp
  exact ⟨i78_15 HH.out hv14.out.symm, trivial⟩
 refine val_nil ?_
 intro vs w1 hvs hb hI hF
 simp [Is, Nat.forall_lt_succ_right] at hF
 have e0 := hF.1.1.1.1.1.1.1.1.1.1.1.1.1.1.1
 have e1 := hF.1.1.1.1.1.1.1.1.1.1.1.1.1.1.2
 have e2 := hF.1.1.1.1.1.1.1.1.1.1.1.1.1.2
 have e3 := hF.1.1.1.1.1.1.1.1.1.1.1.1.2
 have e4 := hF.1.1.1.1.1.1.1.1.1.1.1.2
 have e5 := hF.1.1.1.1.1.1.1.1.1.1.2
 have e6 := hF.1.1.1.1.1.1.1.1.1.2
 have e7 := hF.1.1.1.1.1.1.1.1.2
 have e8 := hF.1.1.1.1.1.1.1.2
 have e9 := hF.1.1.1.1.1.1.2
 have e10 := hF.1.1.1.1.1.2
 have e11 := hF.1.1.1.1.2
 have e12 := hF.1.1.1.2
 have e13 := hF.1.1.2
 have e14 := hF.1.2
 have e15 := hF.2
 clear hF
 simp only [Act.put, List.setIfInBounds_toArray, List.set_cons_succ, List.set_cons_zero, e0, e1, e2, e3, e4, e5, e6]
 clear e0 e1 e2 e3 e4 e5 e6
 have hE := i78_end hI rfl rfl rfl rfl rfl
 have hv15 : vs 15 = v15 := hvs 15 (by omega)
 rw [hv15] at hE
 clear hvs hb hI hv15 HI HX HJ HN HC HI0
 rcases hE with ⟨rfl, hE⟩ | ⟨rfl, hE⟩
 ·have HE := Lib.hid hE; clear hE
  go_wp2_with fail
  go_ret
  exact .inl ⟨rfl, HE.out⟩
 ·have HE := Lib.hid hE; clear hE
  go_wp2_with fail
  go_ret
  exact .inr ⟨rfl, HE.out⟩
end Go.Proofs.YtkcpnhigekopaaaDoor
end
section
namespace Go.Proofs.YtkcpnhigekopaaaDoor
open Go.RowKit Go.Rel Go.Draw
set_option maxRecDepth 100000
attribute [local go_sem] Oper.semAt_some
/-! the iterator over all sets -/
set_option maxHeartbeats 4000000 in
theorem next_leaf {g bm bY bn lp : Nat} {m : List Sol} {Wr : Nat → Prop} {base : Nat} {J Jx : List (SetOf m.length) → World → Prop}
  (hY : ∀ n pre y W1, J pre W1 → base ≤ W1.heap.size → pre.length < 4096 → YieldAt Fence.wide n Tryd.prog lp #[.int .u64 (uI y.1)] W1 fun e W' => (e = .returned (.bool true) ∧ J (pre ++ [y]) W' ∧ KeepsBut Wr W1 W') ∨ (e = .returned (.bool false) ∧ Jx (pre ++ [y]) W'))
  {k : Nat} {s : U} {pre : List (SetOf m.length)} {W1 : World} (hk : k = m.length) (hm : m.length ≤ 12)
  (hmem : s ∈ setsL m.length 0 0) (hlen : pre.length < 4096) (h0 : J pre W1) (hb : base ≤ W1.heap.size) (hC : Cl g bm bY bn lp m W1) :
  Calls Tryd.prog 53 #[.int .u64 (uI s), .int .i64 (k : Int), .pointer (some ⟨bm, 0, none⟩), .pointer (some ⟨bY, 0, none⟩), .pointer (some ⟨bn, 0, none⟩)] W1 (NextP Wr J Jx 0 k s pre W1) := by
 obtain ⟨a, c, cs, ty, hg, hg0⟩ := hC.fg
 have cg := hg.cell 0
 rw [hg0] at cg
 have lg := hg.lt
 have cm := hC.fm.cell; have lm := hC.fm.lt
 have cy := hC.fy.cell; have ly := hC.fy.lt
 obtain ⟨fn, tm, asg, bdy, hy, hR⟩ := hY 8 pre ⟨s, hmem⟩ W1 h0 hb hlen
 have HR := Lib.hid hR; clear hR
 have e0 : ((k : Int) == (m.length : Int)) = true := by simp; omega
 have HS := Lib.hid (show ∃ y : SetOf m.length, y.1 = s from ⟨⟨s, hmem⟩, rfl⟩)
 clear hg hg0 hC hlen h0 hb hk hY
 refine (callsIn_wide (n := 9)).1 ?_
 refine callsIn_of_wp Tryd.func53 rfl trivial ?_ rfl
 simp only [Tryd.ntmps53, List.size_toArray, List.length_cons, List.length_nil, Nat.reduceAdd, Nat.reduceSub, Array.replicate_succ, Array.replicate_zero, List.push_toArray, List.append_toArray, List.nil_append, List.cons_append]
 dsimp only at hy
 gi_wp2_with fail
 refine HR.out.mono ?_
 rintro e W3 (⟨rfl, hJ3, hk3⟩ | ⟨rfl, hJx3⟩)
 ·have HK := Lib.hid (And.intro hJ3 hk3); clear hJ3 hk3 hy HR cg lg cm lm cy ly
  gi_wp2_with fail
  refine bodyPost_ret (v := .bool true) (by simp [results, Tryd.results53, go_sem]) rfl (.inl ⟨rfl, ⟨[⟨s, hmem⟩], rfl, HK.out.1⟩, HK.out.2⟩)
 ·have HK := Lib.hid hJx3; clear hJx3 hy HR cg lg cm lm cy ly
  gi_wp2_with fail
  refine bodyPost_ret (v := .bool false) (by simp [results, Tryd.results53, go_sem]) rfl (.inr ⟨rfl, [⟨s, hmem⟩], List.prefix_refl _, HK.out⟩)
theorem next_spec {g bm bY bn lp : Nat} {m : List Sol} {Wr : Nat → Prop} (hn : ¬ Wr bm ∧ ¬ Wr bY ∧ ¬ Wr bn ∧ ¬ Wr g) {base : Nat} {J Jx : List (SetOf m.length) → World → Prop} (hJ : ∀ s W, J s W → J s W.drew) (hm : m.length ≤ 12)
  (hY : ∀ n pre y W1, J pre W1 → base ≤ W1.heap.size → pre.length < 4096 → YieldAt Fence.wide n Tryd.prog lp #[.int .u64 (uI y.1)] W1 fun e W' => (e = .returned (.bool true) ∧ J (pre ++ [y]) W' ∧ KeepsBut Wr W1 W') ∨ (e = .returned (.bool false) ∧ Jx (pre ++ [y]) W')) :
  ∀ (j k : Nat) (s : U) (pre : List (SetOf m.length)) (W1 : World), k + j = m.length → (∀ x ∈ setsL j k s, x ∈ setsL m.length 0 0) → pre.length + 2 ^ j ≤ 4096 → J pre W1 → base ≤ W1.heap.size → Cl g bm bY bn lp m W1 →
   Calls Tryd.prog 53 #[.int .u64 (uI s), .int .i64 (k : Int), .pointer (some ⟨bm, 0, none⟩), .pointer (some ⟨bY, 0, none⟩), .pointer (some ⟨bn, 0, none⟩)] W1 (NextP Wr J Jx j k s pre W1)
 | 0, k, s, pre, W1, hk, hmem, hlen, h0, hb, hC => next_leaf hY (by omega) hm (hmem s (by simp [setsL])) (by simp at hlen; omega) h0 hb hC
 | j + 1, k, s, pre, W1, hk, hmem, hlen, h0, hb, hC => next_step hn hJ hk hm hmem hlen h0 hb hC (fun s pre W1 h1 h2 h3 h4 h5 => next_spec hn hJ hm hY j (k + 1) s pre W1 (by omega) h1 h2 h3 h4 h5)
set_option maxHeartbeats 4000000 in
theorem sets1_in {n : Nat} (hn1 : 1 ≤ n) (lp : Nat) {Wr : Nat → Prop} {W : World} {g mb bm : Nat} {m : List Sol} (hM : Mould W g mb m) (hm : m.length ≤ 12) (hbm : Blk W bm #[.pointer (some ⟨g, 0, none⟩)] 42) (hng : ¬ Wr g) (hnm : ¬ Wr bm)
  (J Jx : List (SetOf m.length) → World → Prop) (hJ : AbidesC W.heap.size (W.heap.size + 2) J) (hw1 : ∀ r, W.heap.size ≤ r → r < W.heap.size + 2 → ¬ Wr r)
  (hY : ∀ pre y W1, J pre W1 → W.heap.size + 2 ≤ W1.heap.size → pre.length < 4096 → YieldAt Fence.wide (n - 1) Tryd.prog lp #[.int .u64 (uI y.1)] W1 fun e W' =>
   (e = .returned (.bool true) ∧ J (pre ++ [y]) W' ∧ KeepsBut Wr W1 W') ∨ (e = .returned (.bool false) ∧ Jx (pre ++ [y]) W')) (h0 : J [] W) :
  CallsIn Fence.wide n Tryd.prog 52 #[.func (.yield lp) #[] #[], .pointer (some ⟨bm, 0, none⟩)] W fun e W' => (∃ v, e = .returned v) ∧ ((∃ xs : List (SetOf m.length), xs.map (·.1) = setsL m.length 0 0 ∧ J xs W') ∨ (∃ pre : List (SetOf m.length), pre.map (·.1) <+: setsL m.length 0 0 ∧ Jx pre W')) := by
 refine callsIn_wide.2 ?_
 have lg := hM.lt
 have lbm := hbm.lt
 obtain ⟨a, c, hg, _⟩ := hM.blk
 have HH := Lib.hid (And.intro hg (And.intro hbm (And.intro hJ (And.intro hw1 (And.intro hY h0)))))
 clear hg hM hbm hJ hw1 hY h0
 go_enter Tryd.func52, Tryd.ntmps52
 go_wp2_with fail
 have hC : Cl g bm W.heap.size (W.heap.size + 1) lp m ((W.alloc (.cells #[.func (.yield lp) #[] #[]] 92)).alloc (.cells #[closV bm W.heap.size (W.heap.size + 1)] 104)) :=
  ⟨(HH.out.2.1.alloc _).alloc _, (Blk.new _ _ _).alloc _, Blk.at _ _ (by simp), a, c, _, _, (HH.out.1.alloc _).alloc _, rfl⟩
 have hs := next_spec (Wr := Wr) ⟨hnm, HH.out.2.2.2.1 _ (Nat.le_refl _) (by omega), HH.out.2.2.2.1 _ (by omega) (by omega), hng⟩ (base := W.heap.size + 2) (J := J) (Jx := Jx) (fun s W1 h => HH.out.2.2.1 s W1 _ none h (gb_drew (gb_refl _ none)) (fun r e => by cases e)) hm
  (fun n' pre y W1 h1 h2 h3 => yieldAt_wide (HH.out.2.2.2.2.1 pre y W1 h1 h2 h3)) m.length 0 0 [] _ (by omega) (fun x hx => hx) (by
   have : 2 ^ m.length ≤ 2 ^ 12 := Nat.pow_le_pow_right (by omega) hm
   simpa using this) (HH.out.2.2.1.alloc _ (HH.out.2.2.1.alloc _ HH.out.2.2.2.2.2)) (by simp) hC
 rw [uI_zero] at hs
 clear hC
 refine hs.mono ?_
 rintro e W3 (⟨rfl, ⟨xs, he, hj⟩, _⟩ | ⟨rfl, xs, he, hj⟩)
 ·have HK := Lib.hid hj; clear hj hs HH
  go_wp2_with fail
  go_end0
  exact ⟨⟨_, rfl⟩, .inl ⟨xs, he, by simpa using HK.out⟩⟩
 ·have HK := Lib.hid hj; clear hj hs HH
  go_wp2_with fail
  go_end0
  exact ⟨⟨_, rfl⟩, .inr ⟨xs, he, by simpa using HK.out⟩⟩
theorem sets_seq {n : Nat} (hn : 1 ≤ n) {Wr : Nat → Prop} {W : World} {g mb bm : Nat} {m : List Sol} (hM : Mould W g mb m) (hm : m.length ≤ 12) (hbm : Blk W bm #[.pointer (some ⟨g, 0, none⟩)] 42) (hng : ¬ Wr g) (hnm : ¬ Wr bm) :
  SeqC Fence.wide n Tryd.prog 52 #[.pointer (some ⟨bm, 0, none⟩)] (fun y : SetOf m.length => #[.int .u64 (uI y.1)]) Wr 2 (fun xs => xs.map (·.1) = setsL m.length 0 0) (fun pre => pre.map (·.1) <+: setsL m.length 0 0) 4096 W := by
 intro lp J Jx hJ _ hw hY h0
 exact sets1_in hn lp hM hm hbm hng hnm J Jx hJ hw hY h0
theorem sets_spec (w : World) (g : Nat) : Calls Tryd.prog 40 #[.pointer (some ⟨g, 0, none⟩)] w fun e w' => e = .returned (.func (.func 52) #[] #[.pointer (some ⟨w.heap.size, 0, none⟩)]) ∧ w' = w.alloc (.cells #[.pointer (some ⟨g, 0, none⟩)] 42) := by
 have hmf' := hmf
 go_enter Tryd.func40, Tryd.ntmps40
 go_wp2_with fail
 go_ret
 exact ⟨rfl, rfl⟩
end Go.Proofs.YtkcpnhigekopaaaDoor
end
