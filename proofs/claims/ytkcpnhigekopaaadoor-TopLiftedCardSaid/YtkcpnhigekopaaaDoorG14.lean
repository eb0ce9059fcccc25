import Derived.Test.YtkcpnhigekopaaaDoorG13
/-
  Given contracts of functions of the program, and laws for them, one behind the other.
-/
set_option linter.unusedVariables false
set_option linter.unusedSimpArgs false
set_option linter.unusedSectionVars false
section
namespace Go.Proofs.YtkcpnhigekopaaaDoor
open Go.RowKit Go.Rel Go.Draw
set_option maxRecDepth 100000
attribute [local go_sem] Oper.semAt_some
/-! inWay -/
theorem abides_gb {β : Type} {lo hi c : Nat} {w0 : World} (h : w0.heap.size ≤ lo) : AbidesC lo hi (fun (_ : β) W => w0.grownBy W (some c)) := fun _ W W' row hs hg hr =>
 ⟨hg.os.trans hs.os, hg.tape.trans hs.tape, hg.output.trans hs.output, Nat.le_trans hs.size hg.size, fun i hi hne => (hg.block i (Nat.lt_of_lt_of_le hi hs.size) (fun e => by have := hr _ e.symm; omega)).trans (hs.block i hi hne)⟩
theorem abides_blk {β : Type} {lo hi c : Nat} {f : β → Array Value} {t : TypeId} (h : c < lo) : AbidesC lo hi (fun s W => Blk W c (f s) t) := fun _ W W' row hs hg hr =>
 hs.gb hg (fun e => by have := hr _ e.symm; omega)
theorem abides_blk' {β : Type} {lo hi c : Nat} {f : β → Array Value} {t : TypeId} (h : hi ≤ c) : AbidesC lo hi (fun s W => Blk W c (f s) t) := fun _ W W' row hs hg hr =>
 hs.gb hg (fun e => by have := hr _ e.symm; omega)
theorem Ways.look2 {w : World} {mb : Nat} {m : List Sol} (h : Ways w mb m) {x : Mo} (hx : x ∈ allMv) :
  ∃ (y : U × Bool) (ok : Bool), (ok = true → y = inWayM m x) ∧ ∀ w', w'.heap[mb]? = w.heap[mb]? → (Instr.lookup 73 (.map (some mb)) (mvV x) true).run Tryd.prog w' = .ok (.tuple #[.agg #[.int .u64 (uI y.1), .bool y.2], .bool ok]) w' := by
 obtain ⟨D, h1, h2, h3⟩ := h
 have key : ∀ w' : World, w'.heap[mb]? = w.heap[mb]? → w'.ownsMap Tryd.prog 50 blkR mb (Maps.size D) D := fun w' e => by
  obtain ⟨es, clock, e1, F, hs, hD⟩ := h1
  exact ⟨es, clock, e.trans e1, F, hs, hD⟩
 cases hh : Maps.has D (keyL x)
 ·refine ⟨(0, false), false, fun e => (by cases e), fun w' e => ?_⟩
  obtain ⟨v, ps, hrun, hv⟩ := (key w' e).look_ok mvKey wayT (wayZ' w') (blkR_mk (0, false)) (keyL_is hx)
  rw [Maps.atKey_of_not_has hh] at hv
  have := blkR_inv hv
  subst this
  rw [hh] at hrun
  exact hrun
 ·refine ⟨inWayM m x, true, fun _ => rfl, fun w' e => ?_⟩
  obtain ⟨v, ps, hrun, hv⟩ := (key w' e).look_ok mvKey wayT (wayZ' w') (blkR_mk (0, false)) (keyL_is hx)
  rw [h3 x hx hh] at hv
  have := blkR_inv hv
  subst this
  rw [hh] at hrun
  exact hrun
theorem Cells.gb {w w' : World} {b off k : Nat} {xs : List (List Value)} {r : Option Nat} (h : Cells w b off k xs) (hg : w.grownBy w' r) (hne : some b ≠ r) : Cells w' b off k xs :=
 ⟨Nat.lt_of_lt_of_le h.1 hg.size, fun i j u hu => hg.cell (h.2 i j u hu) hne⟩
theorem gb_new {w w' w2 : World} {r r' : Option Nat} (h : w.grownBy w' r) (k : w'.grownBy w2 r') (hr : ∀ j, r' = some j → w.heap.size ≤ j) : w.grownBy w2 r :=
 ⟨k.os.trans h.os, k.tape.trans h.tape, k.output.trans h.output, Nat.le_trans h.size k.size, fun i hi hne => (k.block i (Nat.lt_of_lt_of_le hi h.size) (fun e => by have := hr i e.symm; omega)).trans (h.block i hi hne)⟩
def I8w (N7 : Nat) (a1 : U) (old new : Bool) (a15 : Bool) (W : World) : Prop := (a15 = false → Blk W N7 #[.int .u64 (uI a1), .bool old] 99) ∧ (a15 = true → Blk W N7 #[.int .u64 (uI a1), .bool new] 99)
theorem I8w.bel {N7 : Nat} {a1 : U} {old new a15 : Bool} {W W' : World} (h : I8w N7 a1 old new a15 W) (hb : Below W.heap.size W W') : I8w N7 a1 old new a15 W' := ⟨fun e => (h.1 e).grow hb, fun e => (h.2 e).grow hb⟩
def I13w (N7 : Nat) (a1 a2 : U) (o : Bool) (a6 : Bool) (W : World) : Prop := (a6 = false → Blk W N7 #[.int .u64 (uI a1), .bool o] 99) ∧ (a6 = true → Blk W N7 #[.int .u64 (uI a2), .bool o] 99)
def I1w (N0 : Nat) (y : U × Bool) (a9 a10 : Bool) (W : World) : Prop :=
 (a9 = false → W.heap.size = N0) ∧ (a9 = true → W.heap.size = N0 + 1 ∧ (a10 = false → Blk W N0 #[.int .u64 0, .bool false] 99) ∧ (a10 = true → Blk W N0 #[.int .u64 (uI y.1), .bool y.2] 99))
set_option maxHeartbeats 4000000 in
theorem inWay_core {w : World} {g mb : Nat} {m : List Sol} (hM : Mould w g mb m) (hm : m.length ≤ 12) {x : Mo} {s : Sol} (hs : m[x.1]? = some s) (hx : x ∈ allMv) : Calls Tryd.prog 49 #[.pointer (some ⟨g, 0, none⟩), mvV x] w fun e w' => e = .returned (blkV (inWayM m x)) ∧ Ways w' mb m ∧ w.grownBy w' (some mb) := by
 have HM := Lib.hid (And.intro hM (And.intro hs hx))
 obtain ⟨ps, pc, hg, hsl⟩ := hM.blk
 obtain ⟨pb, po, pc', hv, hpc, hpm, lpb, hcs⟩ := sol_at_piece hsl hs
 cases hv
 have lG := hg.lt
 have lmb := hM.ways.lt
 have HG := Lib.hid (And.intro hg hcs)
 obtain ⟨y, ok, hy, hlook⟩ := hM.ways.look2 hx
 have HLK := Lib.hid (And.intro hy hlook); clear hy hlook
 clear hM hs hx hg hsl hcs
 refine (callsIn_wide (n := 9)).1 ?_
 refine callsIn_of_wp_marks Tryd.func49 rfl trivial ?_ rfl
 simp only [Tryd.ntmps49, List.size_toArray, List.length_cons, List.length_nil, Nat.reduceAdd, Nat.reduceSub, Array.replicate_succ, Array.replicate_zero, List.push_toArray, List.append_toArray, List.nil_append, List.cons_append]
 refine wpIn_wide.2 ?_
 go_wp2_with fail
 obtain ⟨W0, hW0⟩ : ∃ W0, W0 = ((w.alloc (.cells #[.pointer (some ⟨g, 0, none⟩)] 42)).alloc (.cells #[.int .i64 (x.1 : Int), .int .i64 (x.2.1 : Int), .int .i64 (x.2.2 : Int)] 50)).alloc (.cells #[.int .u64 0, .bool false] 99) := ⟨_, rfl⟩
 have b2 : Blk W0 w.heap.size #[.pointer (some ⟨g, 0, none⟩)] 42 := by subst hW0; exact (by repeat (first | with_reducible assumption | (refine Blk.at _ _ ?_; (simp; done)) | with_reducible refine Blk.alloc ?_ _ | with_reducible refine Blk.drew ?_ | with_reducible refine Blk.rowS ?_ _ | with_reducible refine Blk.rowO ?_ _ (by simp)))
 have b3 : Blk W0 (w.heap.size + 1) #[.int .i64 (x.1 : Int), .int .i64 (x.2.1 : Int), .int .i64 (x.2.2 : Int)] 50 := by subst hW0; exact (by repeat (first | with_reducible assumption | (refine Blk.at _ _ ?_; (simp; done)) | with_reducible refine Blk.alloc ?_ _ | with_reducible refine Blk.drew ?_ | with_reducible refine Blk.rowS ?_ _ | with_reducible refine Blk.rowO ?_ _ (by simp)))
 have b4 : Blk W0 (w.heap.size + 1 + 1) #[.int .u64 0, .bool false] 99 := by subst hW0; exact (by repeat (first | with_reducible assumption | (refine Blk.at _ _ ?_; (simp; done)) | with_reducible refine Blk.alloc ?_ _ | with_reducible refine Blk.drew ?_ | with_reducible refine Blk.rowS ?_ _ | with_reducible refine Blk.rowO ?_ _ (by simp)))
 have hbel : Below w.heap.size w W0 := by subst hW0; exact (by repeat (first | with_reducible exact bel_refl _ | with_reducible assumption | with_reducible refine bel_drewN ?_ _ | with_reducible refine bel_drew ?_ | with_reducible refine bel_alloc ?_ _ | with_reducible refine bel_row ?_ ?_ _ | with_reducible refine bel_set ?_ ?_ _ | refine bel_trans ?_ (by with_reducible assumption) | (simp; done) | (simp; omega)))
 have hsz : W0.heap.size = w.heap.size + 1 + 1 + 1 := by subst hW0; simp
 rw [← hW0]
 clear hW0
 have c2 := b2.cell; have c3 := b3.cell; have l2 := b2.lt; have l3 := b3.lt
 have gg := HG.out.1.grow hbel
 have cg := gg.cell; have lg := gg.lt
 obtain ⟨N0, hN0⟩ : ∃ N0, N0 = W0.heap.size := ⟨_, rfl⟩
 have HN0 := Lib.hid hN0
 have HSZ := Lib.hid (And.intro hsz (And.intro b2 (And.intro b3 (And.intro b4 hbel))))
 rw [← hN0] at l2 l3 lg
 have hmbN : mb < N0 := by omega
 clear hN0 hsz b2 b3 b4 hbel gg
 refine wp_region_val (Below N0) (fun L vs W => I1w N0 y (L 9) (L 10) W) [Is (.pointer (some ⟨g, 0, none⟩)), Is (.pointer (some ⟨g, 0, none⟩)), Is (.pointer (some ⟨g, 9, none⟩)), Is (.map (some mb)), Is (.agg #[.int .i64 (x.1 : Int), .int .i64 (x.2.1 : Int), .int .i64 (x.2.2 : Int)]), Is (.tuple #[.agg #[.int .u64 (uI y.1), .bool y.2], .bool ok]), Is (.tuple #[.agg #[.int .u64 (uI y.1), .bool y.2], .bool ok]), Is (.agg #[.int .u64 (uI y.1), .bool y.2]), Is (.bool ok), Is (.pointer (some ⟨N0, 0, none⟩)), AnyV, Is (.bool ok)] (by kernel_rfl) (by kernel_rfl) rfl (Below.refl N0) (fun _ _ _ => Below.trans) (stable_mem ⟨fun _ _ _ h _ => h, fun _ _ _ h _ => h, fun _ _ _ h _ => h, fun _ _ _ h _ => h, fun _ _ _ h _ => h, fun _ _ _ h _ => h, fun _ _ _ h _ => h, fun _ _ _ h _ => h, fun _ _ _ h _ => h, fun _ _ _ h _ => h, fun _ _ _ h _ => h, fun _ _ _ h _ => h, trivial⟩) W0 (Below.drew (Below.refl _ _)) (⟨fun _ => HN0.out.symm, fun e => (by cases e)⟩) ?_
 refine val_cons ?_ (fun v0 => ?_)
 ·intro L vs w1 hvs hat hb hI hF; try simp [factsI, Region.binds, Is] at hF
  have hc := (bcell' hb).1
  have HI := Lib.hid hI; clear hI
  go_simp
  try simp [upd]
  exact ⟨Below.refl _ _, HI.out⟩
 refine val_cons ?_ (fun v1 => ?_)
 ·intro L vs w1 hvs hat hb hI hF; try simp [factsI, Region.binds, Is] at hF
  have hc := (bcell' hb).1
  have HI := Lib.hid hI; clear hI
  go_simp
  try simp [upd]
  exact ⟨Below.refl _ _, HI.out⟩
 refine val_cons ?_ (fun v2 => ?_)
 ·intro L vs w1 hvs hat hb hI hF; try simp [factsI, Region.binds, Is] at hF
  have hc := (bcell' hb).1
  have HI := Lib.hid hI; clear hI
  go_simp
  try simp [upd]
  exact ⟨Below.refl _ _, HI.out⟩
 refine val_cons ?_ (fun v3 => ?_)
 ·intro L vs w1 hvs hat hb hI hF; try simp [factsI, Region.binds, Is] at hF
  have hc := (bcell' hb).1
  have HI := Lib.hid hI; clear hI
  go_simp
  try simp [upd]
  exact ⟨Below.refl _ _, HI.out⟩
 refine val_cons ?_ (fun v4 => ?_)
 ·intro L vs w1 hvs hat hb hI hF; try simp [factsI, Region.binds, Is] at hF
  have hc := (bcell' hb).1
  have HI := Lib.hid hI; clear hI
  go_simp
  try simp [upd]
  exact ⟨Below.refl _ _, HI.out⟩
 refine val_cons ?_ (fun v5 => ?_)
 ·intro L vs w1 hvs hat hb hI hF; try simp [factsI, Region.binds, Is] at hF
  have hlk := HLK.out.2 w1 ((hb.block mb hmbN).trans (HSZ.out.2.2.2.2.block mb lmb))
  have HI := Lib.hid hI; clear hI
  go_simp
  try simp [upd]
  exact ⟨Below.refl _ _, HI.out⟩
 refine val_cons ?_ (fun v6 => ?_)
 ·intro L vs w1 hvs hat hb hI hF; try simp [factsI, Region.binds, Is] at hF
  have hc := (bcell' hb).1
  have HI := Lib.hid hI; clear hI
  go_simp
  try simp [upd]
  exact ⟨Below.refl _ _, HI.out⟩
 refine val_cons ?_ (fun v7 => ?_)
 ·intro L vs w1 hvs hat hb hI hF; try simp [factsI, Region.binds, Is] at hF
  have hc := (bcell' hb).1
  have HI := Lib.hid hI; clear hI
  go_simp
  try simp [upd]
  exact ⟨Below.refl _ _, HI.out⟩
 refine val_cons ?_ (fun v8 => ?_)
 ·intro L vs w1 hvs hat hb hI hF; try simp [factsI, Region.binds, Is] at hF
  have hc := (bcell' hb).1
  have HI := Lib.hid hI; clear hI
  go_simp
  try simp [upd]
  exact ⟨Below.refl _ _, HI.out⟩
 refine val_cons ?_ (fun v9 => ?_)
 ·intro L vs w1 hvs hat hb hI hF; try simp [factsI, Region.binds, Is] at hF
  have h9 := hat.self
  have h10 := Lib.hid (hat.later 12 10 (by kernel_rfl))
  have hsz := hI.1 h9
  clear hI h9
  go_simp
  try simp [upd]
  exact ⟨(bel_alloc (bel_refl _) _).mono (by omega), ⟨fun e => (by cases e), fun _ => ⟨by simp [hsz], fun _ => by rw [← hsz]; exact Blk.new _ _ _, fun e => (by first | (rw [h10.out] at e; cases e) | cases e)⟩⟩⟩
 refine val_cons ?_ (fun v10 => ?_)
 ·intro L vs w1 hvs hat hb hI hF; try simp [factsI, Region.binds, Is] at hF
  have h9 := hat.ahead 12 9 (by kernel_rfl)
  have h10 := Lib.hid (hat.self)
  have hI2 := hI.2 h9
  have hsz := hI2.1
  have hB := hI2.2.1 h10.out
  have r0 := hB.row
  have HW := Lib.hid (And.intro hB.rw (And.intro hB h9))
  rw [← HW.out.1]
  clear hI hI2 hB h9
  go_simp
  rw [HW.out.1]
  try simp [upd]
  exact ⟨blw_row (Below.refl _ _) (Nat.le_refl _) _, ⟨fun e => (by first | (rw [HW.out.2.2] at e; cases e) | cases e), fun _ => ⟨by rw [setRow_size]; exact hsz, fun e => (by cases e), fun _ => HW.out.2.1.rowS _⟩⟩, trivial⟩
 refine val_cons ?_ (fun v11 => ?_)
 ·intro L vs w1 hvs hat hb hI hF; try simp [factsI, Region.binds, Is] at hF
  have hc := (bcell' hb).1
  have HI := Lib.hid hI; clear hI
  go_simp
  try simp [upd]
  exact ⟨Below.refl _ _, HI.out⟩
 refine val_nil ?_
 intro vs w1 hvs hb hI hF
 simp [Is, Nat.forall_lt_succ_right] at hF
 have e0 := hF.1.1.1.1.1.1.1.1.1.1.1
 have e1 := hF.1.1.1.1.1.1.1.1.1.1.2
 have e2 := hF.1.1.1.1.1.1.1.1.1.2
 have e3 := hF.1.1.1.1.1.1.1.1.2
 have e4 := hF.1.1.1.1.1.1.1.2
 have e5 := hF.1.1.1.1.1.1.2
 have e6 := hF.1.1.1.1.1.2
 have e7 := hF.1.1.1.1.2
 have e8 := hF.1.1.1.2
 have e9 := hF.1.1.2
 have e10 := hF.1.2
 have e11 := hF.2
 clear hF
 simp only [Act.put, List.setIfInBounds_toArray, List.set_cons_succ, List.set_cons_zero, e0, e1, e2, e3, e4, e5, e6, e7, e8, e9, e11]
 clear e0 e1 e2 e3 e4 e5 e6 e7 e8 e9 e11
 have hB0 := (hI.2 rfl).2.2 rfl
 have hsz1 := (hI.2 rfl).1
 have hbW : Below W0.heap.size W0 w1 := by rw [← HN0.out]; exact hb
 have b2 := HSZ.out.2.1.grow hbW
 have b3 := HSZ.out.2.2.1.grow hbW
 have b4 := HSZ.out.2.2.2.1.grow hbW
 have hbel : Below w.heap.size w w1 := HSZ.out.2.2.2.2.trans (hbW.mono HSZ.out.2.2.2.2.size)
 have HL := Lib.hid (And.intro hB0 (And.intro b2 (And.intro b3 (And.intro b4 hbel))))
 have hszw := HSZ.out.1
 rw [← HN0.out] at hszw
 have hN3 : w.heap.size + 1 + 1 < N0 := by omega
 clear hszw
 clear hI hb hB0 hbW hvs e10 c2 c3 cg lg b2 b3 b4 hbel
 have cN := HL.out.1.cell; have lN := HL.out.1.lt
 have c2 := HL.out.2.1.cell; have l2' := HL.out.2.1.lt
 have c3 := HL.out.2.2.1.cell; have l3' := HL.out.2.2.1.lt
 have l4' := HL.out.2.2.2.1.lt
 cases ok
 ·go_wp2_with fail
  refine (way_spec _ g x).mono ?_
  rintro e w3 ⟨rfl, hw3⟩
  simp only [World.size_alloc, hsz1] at hw3 ⊢
  have b2 : Blk w3 w.heap.size #[.pointer (some ⟨g, 0, none⟩)] 42 := by subst hw3; exact ((HL.out.2.1.alloc _).alloc _).alloc _
  have b3 : Blk w3 (w.heap.size + 1) #[.int .i64 (x.1 : Int), .int .i64 (x.2.1 : Int), .int .i64 (x.2.2 : Int)] 50 := by subst hw3; exact ((HL.out.2.2.1.alloc _).alloc _).alloc _
  have b4 : Blk w3 (w.heap.size + 1 + 1) #[.int .u64 0, .bool false] 99 := by subst hw3; exact ((HL.out.2.2.2.1.alloc _).alloc _).alloc _
  have b7 : Blk w3 (N0 + 1) #[.int .u64 0, .bool false] 99 := by subst hw3; rw [← hsz1]; exact ((Blk.new _ _ _).alloc _).alloc _
  have bm : Blk w3 (N0 + 1 + 1) #[.pointer (some ⟨g, 0, none⟩)] 42 := by subst hw3; rw [← hsz1]; exact (Blk.new1 _ _ _ _).alloc _
  have bx : Blk w3 (N0 + 1 + 1 + 1) #[.int .i64 (x.1 : Int), .int .i64 (x.2.1 : Int), .int .i64 (x.2.2 : Int)] 50 := by subst hw3; rw [← hsz1]; exact Blk.new2 _ _ _ _ _
  have hsz3 : w3.heap.size = N0 + 1 + 1 + 1 + 1 := by subst hw3; simp; omega
  have hb3 : Below w.heap.size w w3 := by subst hw3; exact bel_alloc (bel_alloc (bel_alloc HL.out.2.2.2.2 _) _) _
  have H3 := Lib.hid (And.intro b2 (And.intro b3 (And.intro b4 (And.intro b7 (And.intro bm (And.intro bx (And.intro hsz3 hb3)))))))
  clear hw3 b2 b3 b4 b7 bm bx hsz3 hb3 cN c2 c3 lN l2' l3' l4'
  go_wp2_with fail
  refine (wpIn_wide (n := 9)).1 ?_
  have hM3 := HM.out.1.grow H3.out.2.2.2.2.2.2.2
  refine wpIn_rangeFunc_C (α := Sol × Bool) rfl (by omega) (gf := 67) (lb := #[.pointer (some ⟨N0 + 1 + 1, 0, none⟩), .pointer (some ⟨N0 + 1 + 1 + 1, 0, none⟩)]) rfl trivial (enters_of Tryd.func67 (by kernel_rfl) rfl) (wr := fun k => k = N0 + 1) 1
   (fun W hbW _ => way_seq (n := 9 - 1) (by omega) (hM3.grow hbW) HM.out.2.1 HM.out.2.2 (H3.out.2.2.2.2.1.grow hbW) (H3.out.2.2.2.2.2.1.grow hbW) (by omega)) (fun r h1 h2 => by have := H3.out.2.2.2.2.2.2.1; omega) (fun _ => rfl)
   (fun pre W => Blk W (N0 + 1) #[.int .u64 (uI (pre.foldl (inStep m x.1) (0, false)).1), .bool (pre.foldl (inStep m x.1) (0, false)).2] 99 ∧ w3.grownBy W (some (N0 + 1))) (fun _ _ _ => False)
   (AbidesC.and (abides_blk (f := fun pre : List (Sol × Bool) => #[.int .u64 (uI (pre.foldl (inStep m x.1) (0, false)).1), .bool (pre.foldl (inStep m x.1) (0, false)).2]) (by have := H3.out.2.2.2.2.2.2.1; omega)) (abides_gb (Nat.le_refl _))) (fun _ => fun _ _ _ _ h _ _ => h) ⟨(by show Blk w3 (N0 + 1) #[.int .u64 (uI 0), .bool false] _; rw [uI_zero]; exact H3.out.2.2.2.1), gb_refl _ _⟩
   (fun z a' W => ∃ B8, w3.heap.size + 1 + 1 + 1 ≤ B8 ∧ Blk W B8 #[.int .u64 (pl z.1 0), .int .u64 (pl z.1 1), .int .u64 (pl z.1 2), .int .u64 (pl z.1 3), .int .u64 (pl z.1 4), .int .u64 (pl z.1 5), .int .u64 (pl z.1 6), .int .u64 (pl z.1 7)] 72 ∧ a' = { tmps := #[.pointer (some ⟨g, 0, none⟩), mvV x, .pointer (some ⟨w.heap.size, 0, none⟩), .pointer (some ⟨w.heap.size + 1, 0, none⟩), .pointer (some ⟨w.heap.size + 1 + 1, 0, none⟩), .pointer (some ⟨N0, 0, none⟩), .bool false, .pointer (some ⟨N0 + 1, 0, none⟩), .pointer (some ⟨B8, 0, none⟩), .bool z.2, undef, undef, .tuple #[.agg #[.int .u64 (uI y.1), .bool y.2], .bool false], .pointer (some ⟨g, 0, none⟩), .pointer (some ⟨g, 0, none⟩), .pointer (some ⟨g, 9, none⟩), .map (some mb), .agg #[.int .i64 (x.1 : Int), .int .i64 (x.2.1 : Int), .int .i64 (x.2.2 : Int)], .tuple #[.agg #[.int .u64 (uI y.1), .bool y.2], .bool false], .agg #[.int .u64 (uI y.1), .bool y.2], .bool false, .bool false, undef, .pointer (some ⟨g, 0, none⟩), .agg #[.int .i64 (x.1 : Int), .int .i64 (x.2.1 : Int), .int .i64 (x.2.2 : Int)], .func (.func 67) #[] #[.pointer (some ⟨N0 + 1 + 1, 0, none⟩), .pointer (some ⟨N0 + 1 + 1 + 1, 0, none⟩)], solV z.1, .bool z.2, undef, undef, undef, undef, undef, undef, undef, undef, undef, undef, undef, undef, undef, undef, undef, undef, undef, undef, undef, undef, undef, undef, undef, undef, undef, undef, undef, undef, undef, undef, undef, undef, undef, undef, undef, undef, undef, undef, undef, undef, undef, undef, undef, undef, undef, undef, undef, undef], defers := [] })
   (fun z a' _ X Y row hs hg hr => by obtain ⟨B8, e1, e2, e3⟩ := hs; exact ⟨B8, e1, e2.gb hg (fun e => by have := hr _ e.symm; omega), e3⟩)
   ?assign ?body ?done ?stop
  case assign =>
   rintro lp pre z W K ⟨h7, hgb⟩ hsz hK
   have HI := Lib.hid (And.intro h7 hgb); clear h7 hgb
   have hK' := fun a' W' => hK a' W'
   clear hK
   gi_wp2_with fail
   refine hK' _ _ (KeepsBut.alloc _ _ _) ⟨HI.out.1.alloc _, gb_alloc HI.out.2 _⟩ ⟨W.heap.size, hsz, Blk.new _ _ _, rfl⟩
  case body =>
   rintro lp pre z a' W hsz ⟨h7, hgb⟩ ⟨B8, hB8, bB, rfl⟩ hlen
   obtain ⟨b, okz⟩ := z
   generalize hacc : pre.foldl (inStep m x.1) (0, false) = acc at h7
   obtain ⟨a1, a2⟩ := acc
   have HB := Lib.hid (And.intro h7 (And.intro hgb (And.intro bB (And.intro (H3.out.1.gb hgb (by simp; omega)) (And.intro (((HG.out.1.grow H3.out.2.2.2.2.2.2.2).gb hgb (by simp; omega))) (And.intro (H3.out.2.1.gb hgb (by simp; omega)) ((HG.out.2.mono H3.out.2.2.2.2.2.2.2 lpb).gb hgb (by simp; omega))))))))
   have hn8 : B8 ≠ N0 + 1 := by have := H3.out.2.2.2.2.2.2.1; omega
   have hn2 : w.heap.size ≠ N0 + 1 := by omega
   have hng : g ≠ N0 + 1 := by omega
   have hn3 : w.heap.size + 1 ≠ N0 + 1 := by omega
   have hnp : pb ≠ N0 + 1 := by omega
   have hst : pre.foldl (inStep m x.1) (0, false) = (a1, a2) := hacc
   have HAC := Lib.hid hst; clear hst hacc h7 hgb bB
   have l7 := HB.out.1.lt
   have l8 := HB.out.2.2.1.lt
   have lgW := HB.out.2.2.2.2.1.lt
   gi_wp2_with fail
   cases a2
   ·cases okz
    ·skip
     refine wpIn_region_val (GbN (N0 + 1)) (fun L vs W => I8w (N0 + 1) a1 false true (L 15) W) [Is (.pointer (some ⟨N0 + 1, 1, none⟩)), Is (.bool false), Is (.bool false), Is (.bool false), Is (.bool true), Is (.bool true), Is (.bool true), Is undef, Is undef, Is undef, Is undef, Is undef, Is undef, Is (.bool true), Is (.pointer (some ⟨N0 + 1, 1, none⟩)), AnyV] (by kernel_rfl) (by kernel_rfl) (by kernel_rfl) rfl (fun W => gb_refl W _) (GbN.trans (N0 + 1)) (stable_mem ⟨fun _ _ _ h _ => h, fun _ _ _ h _ => h, fun _ _ _ h _ => h, fun _ _ _ h _ => h, fun _ _ _ h _ => h, fun _ _ _ h _ => h, fun _ _ _ h _ => h, fun _ _ _ h _ => h, fun _ _ _ h _ => h, fun _ _ _ h _ => h, fun _ _ _ h _ => h, fun _ _ _ h _ => h, fun _ _ _ h _ => h, fun _ _ _ h _ => h, fun _ _ _ h _ => h, fun _ _ _ h _ => h, trivial⟩) W (gb_drew (gb_refl _ _)) (⟨fun _ => HB.out.1, fun e => (by cases e)⟩) ?_
     refine val_cons ?_ (fun v0 => ?_)
     ·intro L vs w1 hvs hat hb hI hF; try simp [factsI, Region.binds, Is] at hF
      have HI2 := Lib.hid hI; clear hI
      go_simp
      first | exact ⟨gb_refl _ _, HI2.out⟩ | exact HI2.out | exact ⟨HI2.out, trivial⟩
     refine val_cons ?_ (fun v1 => ?_)
     ·intro L vs w1 hvs hat hb hI hF; try simp [factsI, Region.binds, Is] at hF
      have h15 := hat.later 16 15 (by kernel_rfl)
      have c7 := (hI.1 h15).cell
      have HI2 := Lib.hid hI; clear hI h15
      go_simp
      exact ⟨gb_refl _ _, HI2.out⟩
     refine val_cons ?_ (fun v2 => ?_)
     ·intro L vs w1 hvs hat hb hI hF; try simp [factsI, Region.binds, Is] at hF
      have HI2 := Lib.hid hI; clear hI
      go_simp
      first | exact ⟨gb_refl _ _, HI2.out⟩ | exact HI2.out | exact ⟨HI2.out, trivial⟩
     refine val_cons ?_ (fun v3 => ?_)
     ·intro L vs w1 hvs hat hb hI hF; try simp [factsI, Region.binds, Is] at hF
      have HI2 := Lib.hid hI; clear hI
      go_simp
      first | exact ⟨gb_refl _ _, HI2.out⟩ | exact HI2.out | exact ⟨HI2.out, trivial⟩
     refine val_cons ?_ (fun v4 => ?_)
     ·intro L vs w1 hvs hat hb hI hF; try simp [factsI, Region.binds, Is] at hF
      have HI2 := Lib.hid hI; clear hI
      go_simp
      first | exact ⟨gb_refl _ _, HI2.out⟩ | exact HI2.out | exact ⟨HI2.out, trivial⟩
     refine val_cons ?_ (fun v5 => ?_)
     ·intro L vs w1 hvs hat hb hI hF; try simp [factsI, Region.binds, Is] at hF
      have HI2 := Lib.hid hI; clear hI
      go_simp
      first | exact ⟨gb_refl _ _, HI2.out⟩ | exact HI2.out | exact ⟨HI2.out, trivial⟩
     refine val_cons ?_ (fun v6 => ?_)
     ·intro L vs w1 hvs hat hb hI hF; try simp [factsI, Region.binds, Is] at hF
      have HI2 := Lib.hid hI; clear hI
      go_simp
      first | exact ⟨gb_refl _ _, HI2.out⟩ | exact HI2.out | exact ⟨HI2.out, trivial⟩
     refine val_cons ?_ (fun v7 => ?_)
     ·intro L vs w1 hvs hat hb hI hF; try simp [factsI, Region.binds, Is] at hF
      have HI2 := Lib.hid hI; clear hI
      go_simp
      first | exact ⟨gb_refl _ _, HI2.out⟩ | exact HI2.out | exact ⟨HI2.out, trivial⟩
     refine val_cons ?_ (fun v8 => ?_)
     ·intro L vs w1 hvs hat hb hI hF; try simp [factsI, Region.binds, Is] at hF
      have HI2 := Lib.hid hI; clear hI
      go_simp
      first | exact ⟨gb_refl _ _, HI2.out⟩ | exact HI2.out | exact ⟨HI2.out, trivial⟩
     refine val_cons ?_ (fun v9 => ?_)
     ·intro L vs w1 hvs hat hb hI hF; try simp [factsI, Region.binds, Is] at hF
      have HI2 := Lib.hid hI; clear hI
      go_simp
      first | exact ⟨gb_refl _ _, HI2.out⟩ | exact HI2.out | exact ⟨HI2.out, trivial⟩
     refine val_cons ?_ (fun v10 => ?_)
     ·intro L vs w1 hvs hat hb hI hF; try simp [factsI, Region.binds, Is] at hF
      have HI2 := Lib.hid hI; clear hI
      go_simp
      first | exact ⟨gb_refl _ _, HI2.out⟩ | exact HI2.out | exact ⟨HI2.out, trivial⟩
     refine val_cons ?_ (fun v11 => ?_)
     ·intro L vs w1 hvs hat hb hI hF; try simp [factsI, Region.binds, Is] at hF
      have HI2 := Lib.hid hI; clear hI
      go_simp
      first | exact ⟨gb_refl _ _, HI2.out⟩ | exact HI2.out | exact ⟨HI2.out, trivial⟩
     refine val_cons ?_ (fun v12 => ?_)
     ·intro L vs w1 hvs hat hb hI hF; try simp [factsI, Region.binds, Is] at hF
      have HI2 := Lib.hid hI; clear hI
      go_simp
      first | exact ⟨gb_refl _ _, HI2.out⟩ | exact HI2.out | exact ⟨HI2.out, trivial⟩
     refine val_cons ?_ (fun v13 => ?_)
     ·intro L vs w1 hvs hat hb hI hF; try simp [factsI, Region.binds, Is] at hF
      have HI2 := Lib.hid hI; clear hI
      go_simp
      first | exact ⟨gb_refl _ _, HI2.out⟩ | exact HI2.out | exact ⟨HI2.out, trivial⟩
     refine val_cons ?_ (fun v14 => ?_)
     ·intro L vs w1 hvs hat hb hI hF; try simp [factsI, Region.binds, Is] at hF
      have HI2 := Lib.hid hI; clear hI
      go_simp
      first | exact ⟨gb_refl _ _, HI2.out⟩ | exact HI2.out | exact ⟨HI2.out, trivial⟩
     refine val_cons ?_ (fun v15 => ?_)
     ·intro L vs w1 hvs hat hb hI hF; try simp [factsI, Region.binds, Is] at hF
      have h15 := Lib.hid hat.self
      have hB := hI.1 h15.out
      have r0 := hB.row
      have HW := Lib.hid (And.intro hB.rw hB)
      rw [← HW.out.1]
      clear hI hB
      go_simp
      rw [HW.out.1]
      try simp [upd]
      first | exact ⟨gb_row (gb_refl _ _) _, ⟨fun e => (by cases e), fun _ => HW.out.2.rowS _⟩, trivial⟩ | exact ⟨gb_refl _ _, ⟨fun e => (by cases e), fun _ => HW.out.2⟩, trivial⟩
     refine val_nil ?_
     intro vs w1 hvs hb hI hF
     simp [Is, Nat.forall_lt_succ_right] at hF
     have e0 := hF.1.1.1.1.1.1.1.1.1.1.1.1.1.1.1
     have e1 := hF.1.1.1.1.1.1.1.1.1.1.1.1.1.1.2
     have e2 := hF.1.1.1.1.1.1.1.1.1.1.1.1.1.2
     have e3 := hF.1.1.1.1.1.1.1.1.1.1.1.1.2
     have e4 := hF.1.1.1.1.1.1.1.1.1.1.1.2
     have e5 := hF.1.1.1.1.1.1.1.1.1.1.2
     have e6 := hF.1.1.1.1.1.1.1.1.1.2
     have e7 := hF.1.1.1.1.1.1.1.1.2
     have e8 := hF.1.1.1.1.1.1.1.2
     have e9 := hF.1.1.1.1.1.1.2
     have e10 := hF.1.1.1.1.1.2
     have e11 := hF.1.1.1.1.2
     have e12 := hF.1.1.1.2
     have e13 := hF.1.1.2
     have e14 := hF.1.2
     have e15 := hF.2
     clear hF
     simp only [Act.put, List.setIfInBounds_toArray, List.set_cons_succ, List.set_cons_zero, e0, e1, e2, e3, e4, e5, e6, e7, e8, e9, e10, e11, e12, e13, e14]
     clear e0 e1 e2 e3 e4 e5 e6 e7 e8 e9 e10 e11 e12 e13 e14
     have hB7 := hI.2 rfl
     have hgW : W.grownBy w1 (some (N0 + 1)) := hb
     have HC := Lib.hid (And.intro hB7 hgW)
     have c2 := (HB.out.2.2.2.1.gb hgW (by simpa using hn2)).cell
     have cg := (HB.out.2.2.2.2.1.gb hgW (by simpa using hng)).cell
     have l2 := (HB.out.2.2.2.1.gb hgW (by simpa using hn2)).lt
     have hsl1 := HB.out.2.2.2.2.2.2
     clear hI hb hB7 hgW hvs e15
     gi_wp2_with fail
     obtain ⟨wb, hwb⟩ : ∃ wb, wb = w1 := ⟨_, rfl⟩
     rw [← hwb]
     have HWB := Lib.hid hwb; clear hwb
     gi_loopw [48] (fun iv wx => ∃ k : Nat, k ≤ m.length ∧ iv = .int .i64 k ∧ Hid (Blk wx (N0 + 1) #[.int .u64 (uI (meetF m x.1 b a1 k)), .bool true] 99 ∧ W.grownBy wx (some (N0 + 1)))) (fun iv _ => m.length - (intOf iv).toNat)
     case atStart => exact ⟨0, Nat.zero_le _, rfl, Lib.hid (by rw [HWB.out]; exact HC.out)⟩
     case round =>
      obtain ⟨k, hk, rfl, HJ⟩ := hrel
      clear c2 cg l2
      by_cases hlt : k < m.length
      ·obtain ⟨sk, hsk⟩ : ∃ sk, m[k]? = some sk := ⟨_, List.getElem?_eq_getElem hlt⟩
       have hgD : m.getD k 0 = sk := by rw [List.getD_eq_getElem?_getD, hsk]; rfl
       obtain ⟨c0, c1, c2, c3, c4, c5, c6, c7⟩ := sol_cells ((HB.out.2.2.2.2.2.2.gb HJ.out.2 (by simpa using hnp))) hsk
       have hgD := Lib.hid hgD
       have b8 := HB.out.2.2.1.gb HJ.out.2 (by simpa using hn8)
       have b3 := HB.out.2.2.2.2.2.1.gb HJ.out.2 (by simpa using hn3)
       have c8 := b8.cell; have l8' := b8.lt; have cx := b3.cell; have lx := b3.lt
       have l7' := HJ.out.1.lt; have lp' := block_lt_of_cell c0
       clear b8 b3 hsk
       by_cases e : k = x.1
       ·subst e
        gi_wp2_with fail
        refine ⟨trivial, ?_⟩
        gi_wp2_with fail
        go_roundw
        case rel =>
         refine ⟨x.1 + 1, by omega, by go_num, Lib.hid ⟨?_, gb_alloc HJ.out.2 _⟩⟩
         rw [meetF, if_neg (fun h => h.1 rfl)]
         exact HJ.out.1.alloc _
        case measure => simp [intOf]; omega
       ·have e1 : ¬ ((k : Int) = (x.1 : Int)) := by omega
        have HE := Lib.hid e; clear e
        have hz := (by omega : k < 12)
        cases em : meets b sk
        ·gi_wp2_with fail
         refine ⟨trivial, (CallsIn.inRound lp (callsIn_wide.2 (meets_spec b sk _))).mono ?_⟩
         rintro e w4 ⟨rfl, hb4⟩
         have HB4 := Lib.hid hb4; clear hb4
         gi_wp2_with fail
         go_roundw
         case rel =>
          refine ⟨k + 1, by omega, by go_num, Lib.hid ⟨?_, gb_below (gb_alloc HJ.out.2 _) HB4.out⟩⟩
          rw [meetF, if_neg (fun h => by rw [hgD.out, em] at h; cases h.2)]
          exact (HJ.out.1.alloc _).grow HB4.out
         case measure => simp [intOf]; omega
        ·gi_wp2_with fail
         refine ⟨trivial, (CallsIn.inRound lp (callsIn_wide.2 (meets_spec b sk _))).mono ?_⟩
         rintro e w4 ⟨rfl, hb4⟩
         have b74 := (HJ.out.1.alloc (.cells #[.int .u64 (pl sk 0), .int .u64 (pl sk 1), .int .u64 (pl sk 2), .int .u64 (pl sk 3), .int .u64 (pl sk 4), .int .u64 (pl sk 5), .int .u64 (pl sk 6), .int .u64 (pl sk 7)] 72)).grow hb4
         have hg4 := gb_below (gb_alloc HJ.out.2 (.cells #[.int .u64 (pl sk 0), .int .u64 (pl sk 1), .int .u64 (pl sk 2), .int .u64 (pl sk 3), .int .u64 (pl sk 4), .int .u64 (pl sk 5), .int .u64 (pl sk 6), .int .u64 (pl sk 7)] 72)) hb4
         have HB4 := Lib.hid (And.intro b74 hg4); clear hb4 b74 hg4
         have ep := pow_u k (by omega)
         have eo := bits_or_u (meetF m x.1 b a1 k) (bit k)
         gi_wp2_with fail
         refine wpIn_region_val (GbN (N0 + 1)) (fun L vs W => I13w (N0 + 1) (meetF m x.1 b a1 k) (meetF m x.1 b a1 k ||| bit k) true (L 6) W) [Is (.pointer (some ⟨N0 + 1, 0, none⟩)), Is (.int .u64 (uI (meetF m x.1 b a1 k))), Is (.int .i64 (k : Int)), Is (.int .u64 (uI (bit k))), Is (.int .u64 (uI (meetF m x.1 b a1 k ||| bit k))), Is (.pointer (some ⟨N0 + 1, 0, none⟩)), AnyV] (by kernel_rfl) (by kernel_rfl) (by kernel_rfl) rfl (fun W => gb_refl W _) (GbN.trans (N0 + 1)) (stable_mem ⟨fun _ _ _ h _ => h, fun _ _ _ h _ => h, fun _ _ _ h _ => h, fun _ _ _ h _ => h, fun _ _ _ h _ => h, fun _ _ _ h _ => h, fun _ _ _ h _ => h, trivial⟩) w4 (gb_drew (gb_refl _ _)) (⟨fun _ => HB4.out.1, fun e => (by cases e)⟩) ?_
         refine val_cons ?_ (fun v0 => ?_)
         ·intro L vs w1 hvs hat hb hI hF; try simp [factsI, Region.binds, Is] at hF
          have HI2 := Lib.hid hI; clear hI
          go_simp
          exact ⟨gb_refl _ _, HI2.out⟩
         refine val_cons ?_ (fun v1 => ?_)
         ·intro L vs w1 hvs hat hb hI hF; try simp [factsI, Region.binds, Is] at hF
          have h6 := hat.later 7 6 (by kernel_rfl)
          have c7 := (hI.1 h6).cell
          have HI2 := Lib.hid hI; clear hI h6
          go_simp
          exact ⟨gb_refl _ _, HI2.out⟩
         refine val_cons ?_ (fun v2 => ?_)
         ·intro L vs w1 hvs hat hb hI hF; try simp [factsI, Region.binds, Is] at hF
          have HI2 := Lib.hid hI; clear hI
          go_simp
          exact ⟨gb_refl _ _, HI2.out⟩
         refine val_cons ?_ (fun v3 => ?_)
         ·intro L vs w1 hvs hat hb hI hF; try simp [factsI, Region.binds, Is] at hF
          have HI2 := Lib.hid hI; clear hI
          go_simp
          exact ⟨gb_refl _ _, HI2.out⟩
         refine val_cons ?_ (fun v4 => ?_)
         ·intro L vs w1 hvs hat hb hI hF; try simp [factsI, Region.binds, Is] at hF
          have HI2 := Lib.hid hI; clear hI
          go_simp
          exact ⟨gb_refl _ _, HI2.out⟩
         refine val_cons ?_ (fun v5 => ?_)
         ·intro L vs w1 hvs hat hb hI hF; try simp [factsI, Region.binds, Is] at hF
          have HI2 := Lib.hid hI; clear hI
          go_simp
          exact ⟨gb_refl _ _, HI2.out⟩
         refine val_cons ?_ (fun v6 => ?_)
         ·intro L vs w1 hvs hat hb hI hF; try simp [factsI, Region.binds, Is] at hF
          have h6 := Lib.hid hat.self
          have hB := hI.1 h6.out
          have r0 := hB.row
          have HW := Lib.hid (And.intro hB.rw hB)
          rw [← HW.out.1]
          clear hI hB
          go_simp
          rw [HW.out.1]
          try simp [upd]
          exact ⟨gb_row (gb_refl _ _) _, ⟨fun e => (by cases e), fun _ => HW.out.2.rowS _⟩, trivial⟩
         refine val_nil ?_
         intro vs w1 hvs hb hI hF
         simp [Is, Nat.forall_lt_succ_right] at hF
         have e0 := hF.1.1.1.1.1.1
         have e1 := hF.1.1.1.1.1.2
         have e2 := hF.1.1.1.1.2
         have e3 := hF.1.1.1.2
         have e4 := hF.1.1.2
         have e5 := hF.1.2
         have e6 := hF.2
         clear hF
         simp only [Act.put, List.setIfInBounds_toArray, List.set_cons_succ, List.set_cons_zero, e0, e1, e2, e3, e4, e5]
         clear e0 e1 e2 e3 e4 e5
         have hB5 := hI.2 rfl
         have hg5 : W.grownBy w1 (some (N0 + 1)) := HB4.out.2.trans hb
         have HB5 := Lib.hid (And.intro hB5 hg5); clear hI hb hvs e6 hB5 hg5
         gi_wp2_with fail
         go_roundw
         case rel =>
          refine ⟨k + 1, by omega, by go_num, Lib.hid ⟨?_, HB5.out.2⟩⟩
          rw [meetF, if_pos ⟨HE.out, by rw [hgD.out, em]⟩]
          exact HB5.out.1
         case measure => simp [intOf]; omega
      ·obtain rfl : k = m.length := by omega
       gi_wp2_with fail
       refine ⟨.gb HJ.out.2 (fun r e => (by cases e; rfl)), ?_, HB.out.2.1.trans HJ.out.2⟩
       have := HJ.out.1
       rw [List.foldl_append, HAC.out]
       show Blk wr (N0 + 1) #[.int .u64 (uI (meetF m x.1 b a1 m.length)), .bool (false || !false || meets b (sandM m))] 99
       simp only [Bool.not_false, Bool.false_or, Bool.true_or]
       exact this
    ·obtain ⟨ms, hms⟩ : ∃ ms, meets b (sandM m) = ms := ⟨_, rfl⟩
     have HMS := Lib.hid hms; clear hms
     refine wpIn_region_val (GbN (N0 + 1)) (fun L vs W => I8w (N0 + 1) a1 false ms (L 15) W) [Is (.pointer (some ⟨N0 + 1, 1, none⟩)), Is (.bool false), Is (.bool false), Is (.bool true), Is (.bool false), Is (.bool false), Is (.bool false), Is (.agg #[.int .u64 (pl b 0), .int .u64 (pl b 1), .int .u64 (pl b 2), .int .u64 (pl b 3), .int .u64 (pl b 4), .int .u64 (pl b 5), .int .u64 (pl b 6), .int .u64 (pl b 7)]), Is (.pointer (some ⟨g, 0, none⟩)), Is (.pointer (some ⟨g, 0, none⟩)), Is (.pointer (some ⟨g, 1, none⟩)), Is (.agg #[.int .u64 (pl (sandM m) 0), .int .u64 (pl (sandM m) 1), .int .u64 (pl (sandM m) 2), .int .u64 (pl (sandM m) 3), .int .u64 (pl (sandM m) 4), .int .u64 (pl (sandM m) 5), .int .u64 (pl (sandM m) 6), .int .u64 (pl (sandM m) 7)]), Is (.bool ms), Is (.bool ms), Is (.pointer (some ⟨N0 + 1, 1, none⟩)), AnyV] (by kernel_rfl) (by kernel_rfl) (by kernel_rfl) rfl (fun W => gb_refl W _) (GbN.trans (N0 + 1)) (stable_mem ⟨fun _ _ _ h _ => h, fun _ _ _ h _ => h, fun _ _ _ h _ => h, fun _ _ _ h _ => h, fun _ _ _ h _ => h, fun _ _ _ h _ => h, fun _ _ _ h _ => h, fun _ _ _ h _ => h, fun _ _ _ h _ => h, fun _ _ _ h _ => h, fun _ _ _ h _ => h, fun _ _ _ h _ => h, fun _ _ _ h _ => h, fun _ _ _ h _ => h, fun _ _ _ h _ => h, fun _ _ _ h _ => h, trivial⟩) W (gb_drew (gb_refl _ _)) (⟨fun _ => HB.out.1, fun e => (by cases e)⟩) ?_
     refine val_cons ?_ (fun v0 => ?_)
     ·intro L vs w1 hvs hat hb hI hF; try simp [factsI, Region.binds, Is] at hF
      have HI2 := Lib.hid hI; clear hI
      go_simp
      first | exact ⟨gb_refl _ _, HI2.out⟩ | exact HI2.out | exact ⟨HI2.out, trivial⟩
     refine val_cons ?_ (fun v1 => ?_)
     ·intro L vs w1 hvs hat hb hI hF; try simp [factsI, Region.binds, Is] at hF
      have h15 := hat.later 16 15 (by kernel_rfl)
      have c7 := (hI.1 h15).cell
      have HI2 := Lib.hid hI; clear hI h15
      go_simp
      exact ⟨gb_refl _ _, HI2.out⟩
     refine val_cons ?_ (fun v2 => ?_)
     ·intro L vs w1 hvs hat hb hI hF; try simp [factsI, Region.binds, Is] at hF
      have HI2 := Lib.hid hI; clear hI
      go_simp
      first | exact ⟨gb_refl _ _, HI2.out⟩ | exact HI2.out | exact ⟨HI2.out, trivial⟩
     refine val_cons ?_ (fun v3 => ?_)
     ·intro L vs w1 hvs hat hb hI hF; try simp [factsI, Region.binds, Is] at hF
      have HI2 := Lib.hid hI; clear hI
      go_simp
      first | exact ⟨gb_refl _ _, HI2.out⟩ | exact HI2.out | exact ⟨HI2.out, trivial⟩
     refine val_cons ?_ (fun v4 => ?_)
     ·intro L vs w1 hvs hat hb hI hF; try simp [factsI, Region.binds, Is] at hF
      have HI2 := Lib.hid hI; clear hI
      go_simp
      first | exact ⟨gb_refl _ _, HI2.out⟩ | exact HI2.out | exact ⟨HI2.out, trivial⟩
     refine val_cons ?_ (fun v5 => ?_)
     ·intro L vs w1 hvs hat hb hI hF; try simp [factsI, Region.binds, Is] at hF
      have HI2 := Lib.hid hI; clear hI
      go_simp
      first | exact ⟨gb_refl _ _, HI2.out⟩ | exact HI2.out | exact ⟨HI2.out, trivial⟩
     refine val_cons ?_ (fun v6 => ?_)
     ·intro L vs w1 hvs hat hb hI hF; try simp [factsI, Region.binds, Is] at hF
      have HI2 := Lib.hid hI; clear hI
      go_simp
      first | exact ⟨gb_refl _ _, HI2.out⟩ | exact HI2.out | exact ⟨HI2.out, trivial⟩
     refine val_cons ?_ (fun v7 => ?_)
     ·intro L vs w1 hvs hat hb hI hF; try simp [factsI, Region.binds, Is] at hF
      have c8 := (HB.out.2.2.1.gb hb (by simpa using hn8)).cell
      have HI2 := Lib.hid hI; clear hI
      go_simp
      first | exact ⟨gb_refl _ _, HI2.out⟩ | exact HI2.out | exact ⟨HI2.out, trivial⟩
     refine val_cons ?_ (fun v8 => ?_)
     ·intro L vs w1 hvs hat hb hI hF; try simp [factsI, Region.binds, Is] at hF
      have c2 := (HB.out.2.2.2.1.gb hb (by simpa using hn2)).cell
      have HI2 := Lib.hid hI; clear hI
      go_simp
      first | exact ⟨gb_refl _ _, HI2.out⟩ | exact HI2.out | exact ⟨HI2.out, trivial⟩
     refine val_cons ?_ (fun v9 => ?_)
     ·intro L vs w1 hvs hat hb hI hF; try simp [factsI, Region.binds, Is] at hF
      have HI2 := Lib.hid hI; clear hI
      go_simp
      first | exact ⟨gb_refl _ _, HI2.out⟩ | exact HI2.out | exact ⟨HI2.out, trivial⟩
     refine val_cons ?_ (fun v10 => ?_)
     ·intro L vs w1 hvs hat hb hI hF; try simp [factsI, Region.binds, Is] at hF
      have HI2 := Lib.hid hI; clear hI
      go_simp
      first | exact ⟨gb_refl _ _, HI2.out⟩ | exact HI2.out | exact ⟨HI2.out, trivial⟩
     refine val_cons ?_ (fun v11 => ?_)
     ·intro L vs w1 hvs hat hb hI hF; try simp [factsI, Region.binds, Is] at hF
      have cg := (HB.out.2.2.2.2.1.gb hb (by simpa using hng)).cell
      have HI2 := Lib.hid hI; clear hI
      go_simp
      first | exact ⟨gb_refl _ _, HI2.out⟩ | exact HI2.out | exact ⟨HI2.out, trivial⟩
     refine val_cons ?_ (fun v12 => ?_)
     ·intro L vs w1 hvs hat hb hI hF; try simp [factsI, Region.binds, Is] at hF
      have HI2 := Lib.hid hI; clear hI
      go_simp
      refine (meets_spec b (sandM m) _).mono ?_
      rintro e w2 ⟨rfl, hb2⟩
      exact ⟨_, rfl, gb_below (gb_refl _ _) hb2, HI2.out.bel hb2, by rw [HMS.out]⟩
     refine val_cons ?_ (fun v13 => ?_)
     ·intro L vs w1 hvs hat hb hI hF; try simp [factsI, Region.binds, Is] at hF
      have HI2 := Lib.hid hI; clear hI
      go_simp
      first | exact ⟨gb_refl _ _, HI2.out⟩ | exact HI2.out | exact ⟨HI2.out, trivial⟩
     refine val_cons ?_ (fun v14 => ?_)
     ·intro L vs w1 hvs hat hb hI hF; try simp [factsI, Region.binds, Is] at hF
      have HI2 := Lib.hid hI; clear hI
      go_simp
      first | exact ⟨gb_refl _ _, HI2.out⟩ | exact HI2.out | exact ⟨HI2.out, trivial⟩
     refine val_cons ?_ (fun v15 => ?_)
     ·intro L vs w1 hvs hat hb hI hF; try simp [factsI, Region.binds, Is] at hF
      have h15 := Lib.hid hat.self
      have hB := hI.1 h15.out
      have r0 := hB.row
      have HW := Lib.hid (And.intro hB.rw hB)
      rw [← HW.out.1]
      clear hI hB
      go_simp
      rw [HW.out.1]
      try simp [upd]
      first | exact ⟨gb_row (gb_refl _ _) _, ⟨fun e => (by cases e), fun _ => HW.out.2.rowS _⟩, trivial⟩ | exact ⟨gb_refl _ _, ⟨fun e => (by cases e), fun _ => HW.out.2⟩, trivial⟩
     refine val_nil ?_
     intro vs w1 hvs hb hI hF
     simp [Is, Nat.forall_lt_succ_right] at hF
     have e0 := hF.1.1.1.1.1.1.1.1.1.1.1.1.1.1.1
     have e1 := hF.1.1.1.1.1.1.1.1.1.1.1.1.1.1.2
     have e2 := hF.1.1.1.1.1.1.1.1.1.1.1.1.1.2
     have e3 := hF.1.1.1.1.1.1.1.1.1.1.1.1.2
     have e4 := hF.1.1.1.1.1.1.1.1.1.1.1.2
     have e5 := hF.1.1.1.1.1.1.1.1.1.1.2
     have e6 := hF.1.1.1.1.1.1.1.1.1.2
     have e7 := hF.1.1.1.1.1.1.1.1.2
     have e8 := hF.1.1.1.1.1.1.1.2
     have e9 := hF.1.1.1.1.1.1.2
     have e10 := hF.1.1.1.1.1.2
     have e11 := hF.1.1.1.1.2
     have e12 := hF.1.1.1.2
     have e13 := hF.1.1.2
     have e14 := hF.1.2
     have e15 := hF.2
     clear hF
     simp only [Act.put, List.setIfInBounds_toArray, List.set_cons_succ, List.set_cons_zero, e0, e1, e2, e3, e4, e5, e6, e7, e8, e9, e10, e11, e12, e13, e14]
     clear e0 e1 e2 e3 e4 e5 e6 e7 e8 e9 e10 e11 e12 e13 e14
     have hB7 := hI.2 rfl
     have hgW : W.grownBy w1 (some (N0 + 1)) := hb
     have HC := Lib.hid (And.intro hB7 hgW)
     have c2 := (HB.out.2.2.2.1.gb hgW (by simpa using hn2)).cell
     have cg := (HB.out.2.2.2.2.1.gb hgW (by simpa using hng)).cell
     have l2 := (HB.out.2.2.2.1.gb hgW (by simpa using hn2)).lt
     have hsl1 := HB.out.2.2.2.2.2.2
     clear hI hb hB7 hgW hvs e15
     gi_wp2_with fail
     obtain ⟨wb, hwb⟩ : ∃ wb, wb = w1 := ⟨_, rfl⟩
     rw [← hwb]
     have HWB := Lib.hid hwb; clear hwb
     gi_loopw [48] (fun iv wx => ∃ k : Nat, k ≤ m.length ∧ iv = .int .i64 k ∧ Hid (Blk wx (N0 + 1) #[.int .u64 (uI (meetF m x.1 b a1 k)), .bool ms] 99 ∧ W.grownBy wx (some (N0 + 1)))) (fun iv _ => m.length - (intOf iv).toNat)
     case atStart => exact ⟨0, Nat.zero_le _, rfl, Lib.hid (by rw [HWB.out]; exact HC.out)⟩
     case round =>
      obtain ⟨k, hk, rfl, HJ⟩ := hrel
      clear c2 cg l2
      by_cases hlt : k < m.length
      ·obtain ⟨sk, hsk⟩ : ∃ sk, m[k]? = some sk := ⟨_, List.getElem?_eq_getElem hlt⟩
       have hgD : m.getD k 0 = sk := by rw [List.getD_eq_getElem?_getD, hsk]; rfl
       obtain ⟨c0, c1, c2, c3, c4, c5, c6, c7⟩ := sol_cells ((HB.out.2.2.2.2.2.2.gb HJ.out.2 (by simpa using hnp))) hsk
       have hgD := Lib.hid hgD
       have b8 := HB.out.2.2.1.gb HJ.out.2 (by simpa using hn8)
       have b3 := HB.out.2.2.2.2.2.1.gb HJ.out.2 (by simpa using hn3)
       have c8 := b8.cell; have l8' := b8.lt; have cx := b3.cell; have lx := b3.lt
       have l7' := HJ.out.1.lt; have lp' := block_lt_of_cell c0
       clear b8 b3 hsk
       by_cases e : k = x.1
       ·subst e
        gi_wp2_with fail
        refine ⟨trivial, ?_⟩
        gi_wp2_with fail
        go_roundw
        case rel =>
         refine ⟨x.1 + 1, by omega, by go_num, Lib.hid ⟨?_, gb_alloc HJ.out.2 _⟩⟩
         rw [meetF, if_neg (fun h => h.1 rfl)]
         exact HJ.out.1.alloc _
        case measure => simp [intOf]; omega
       ·have e1 : ¬ ((k : Int) = (x.1 : Int)) := by omega
        have HE := Lib.hid e; clear e
        have hz := (by omega : k < 12)
        cases em : meets b sk
        ·gi_wp2_with fail
         refine ⟨trivial, (CallsIn.inRound lp (callsIn_wide.2 (meets_spec b sk _))).mono ?_⟩
         rintro e w4 ⟨rfl, hb4⟩
         have HB4 := Lib.hid hb4; clear hb4
         gi_wp2_with fail
         go_roundw
         case rel =>
          refine ⟨k + 1, by omega, by go_num, Lib.hid ⟨?_, gb_below (gb_alloc HJ.out.2 _) HB4.out⟩⟩
          rw [meetF, if_neg (fun h => by rw [hgD.out, em] at h; cases h.2)]
          exact (HJ.out.1.alloc _).grow HB4.out
         case measure => simp [intOf]; omega
        ·gi_wp2_with fail
         refine ⟨trivial, (CallsIn.inRound lp (callsIn_wide.2 (meets_spec b sk _))).mono ?_⟩
         rintro e w4 ⟨rfl, hb4⟩
         have b74 := (HJ.out.1.alloc (.cells #[.int .u64 (pl sk 0), .int .u64 (pl sk 1), .int .u64 (pl sk 2), .int .u64 (pl sk 3), .int .u64 (pl sk 4), .int .u64 (pl sk 5), .int .u64 (pl sk 6), .int .u64 (pl sk 7)] 72)).grow hb4
         have hg4 := gb_below (gb_alloc HJ.out.2 (.cells #[.int .u64 (pl sk 0), .int .u64 (pl sk 1), .int .u64 (pl sk 2), .int .u64 (pl sk 3), .int .u64 (pl sk 4), .int .u64 (pl sk 5), .int .u64 (pl sk 6), .int .u64 (pl sk 7)] 72)) hb4
         have HB4 := Lib.hid (And.intro b74 hg4); clear hb4 b74 hg4
         have ep := pow_u k (by omega)
         have eo := bits_or_u (meetF m x.1 b a1 k) (bit k)
         gi_wp2_with fail
         refine wpIn_region_val (GbN (N0 + 1)) (fun L vs W => I13w (N0 + 1) (meetF m x.1 b a1 k) (meetF m x.1 b a1 k ||| bit k) ms (L 6) W) [Is (.pointer (some ⟨N0 + 1, 0, none⟩)), Is (.int .u64 (uI (meetF m x.1 b a1 k))), Is (.int .i64 (k : Int)), Is (.int .u64 (uI (bit k))), Is (.int .u64 (uI (meetF m x.1 b a1 k ||| bit k))), Is (.pointer (some ⟨N0 + 1, 0, none⟩)), AnyV] (by kernel_rfl) (by kernel_rfl) (by kernel_rfl) rfl (fun W => gb_refl W _) (GbN.trans (N0 + 1)) (stable_mem ⟨fun _ _ _ h _ => h, fun _ _ _ h _ => h, fun _ _ _ h _ => h, fun _ _ _ h _ => h, fun _ _ _ h _ => h, fun _ _ _ h _ => h, fun _ _ _ h _ => h, trivial⟩) w4 (gb_drew (gb_refl _ _)) (⟨fun _ => HB4.out.1, fun e => (by cases e)⟩) ?_
         refine val_cons ?_ (fun v0 => ?_)
         ·intro L vs w1 hvs hat hb hI hF; try simp [factsI, Region.binds, Is] at hF
          have HI2 := Lib.hid hI; clear hI
          go_simp
          exact ⟨gb_refl _ _, HI2.out⟩
         refine val_cons ?_ (fun v1 => ?_)
         ·intro L vs w1 hvs hat hb hI hF; try simp [factsI, Region.binds, Is] at hF
          have h6 := hat.later 7 6 (by kernel_rfl)
          have c7 := (hI.1 h6).cell
          have HI2 := Lib.hid hI; clear hI h6
          go_simp
          exact ⟨gb_refl _ _, HI2.out⟩
         refine val_cons ?_ (fun v2 => ?_)
         ·intro L vs w1 hvs hat hb hI hF; try simp [factsI, Region.binds, Is] at hF
          have HI2 := Lib.hid hI; clear hI
          go_simp
          exact ⟨gb_refl _ _, HI2.out⟩
         refine val_cons ?_ (fun v3 => ?_)
         ·intro L vs w1 hvs hat hb hI hF; try simp [factsI, Region.binds, Is] at hF
          have HI2 := Lib.hid hI; clear hI
          go_simp
          exact ⟨gb_refl _ _, HI2.out⟩
         refine val_cons ?_ (fun v4 => ?_)
         ·intro L vs w1 hvs hat hb hI hF; try simp [factsI, Region.binds, Is] at hF
          have HI2 := Lib.hid hI; clear hI
          go_simp
          exact ⟨gb_refl _ _, HI2.out⟩
         refine val_cons ?_ (fun v5 => ?_)
         ·intro L vs w1 hvs hat hb hI hF; try simp [factsI, Region.binds, Is] at hF
          have HI2 := Lib.hid hI; clear hI
          go_simp
          exact ⟨gb_refl _ _, HI2.out⟩
         refine val_cons ?_ (fun v6 => ?_)
         ·intro L vs w1 hvs hat hb hI hF; try simp [factsI, Region.binds, Is] at hF
          have h6 := Lib.hid hat.self
          have hB := hI.1 h6.out
          have r0 := hB.row
          have HW := Lib.hid (And.intro hB.rw hB)
          rw [← HW.out.1]
          clear hI hB
          go_simp
          rw [HW.out.1]
          try simp [upd]
          exact ⟨gb_row (gb_refl _ _) _, ⟨fun e => (by cases e), fun _ => HW.out.2.rowS _⟩, trivial⟩
         refine val_nil ?_
         intro vs w1 hvs hb hI hF
         simp [Is, Nat.forall_lt_succ_right] at hF
         have e0 := hF.1.1.1.1.1.1
         have e1 := hF.1.1.1.1.1.2
         have e2 := hF.1.1.1.1.2
         have e3 := hF.1.1.1.2
         have e4 := hF.1.1.2
         have e5 := hF.1.2
         have e6 := hF.2
         clear hF
         simp only [Act.put, List.setIfInBounds_toArray, List.set_cons_succ, List.set_cons_zero, e0, e1, e2, e3, e4, e5]
         clear e0 e1 e2 e3 e4 e5
         have hB5 := hI.2 rfl
         have hg5 : W.grownBy w1 (some (N0 + 1)) := HB4.out.2.trans hb
         have HB5 := Lib.hid (And.intro hB5 hg5); clear hI hb hvs e6 hB5 hg5
         gi_wp2_with fail
         go_roundw
         case rel =>
          refine ⟨k + 1, by omega, by go_num, Lib.hid ⟨?_, HB5.out.2⟩⟩
          rw [meetF, if_pos ⟨HE.out, by rw [hgD.out, em]⟩]
          exact HB5.out.1
         case measure => simp [intOf]; omega
      ·obtain rfl : k = m.length := by omega
       gi_wp2_with fail
       refine ⟨.gb HJ.out.2 (fun r e => (by cases e; rfl)), ?_, HB.out.2.1.trans HJ.out.2⟩
       have := HJ.out.1
       rw [List.foldl_append, HAC.out]
       show Blk wr (N0 + 1) #[.int .u64 (uI (meetF m x.1 b a1 m.length)), .bool (false || !true || meets b (sandM m))] 99
       rw [HMS.out]
       exact this
   ·skip
    refine wpIn_region_val (GbN (N0 + 1)) (fun L vs W => I8w (N0 + 1) a1 true true (L 15) W) [Is (.pointer (some ⟨N0 + 1, 1, none⟩)), Is (.bool true), Is (.bool true), Is undef, Is undef, Is (.bool true), Is (.bool true), Is undef, Is undef, Is undef, Is undef, Is undef, Is undef, Is (.bool true), Is (.pointer (some ⟨N0 + 1, 1, none⟩)), AnyV] (by kernel_rfl) (by kernel_rfl) (by kernel_rfl) rfl (fun W => gb_refl W _) (GbN.trans (N0 + 1)) (stable_mem ⟨fun _ _ _ h _ => h, fun _ _ _ h _ => h, fun _ _ _ h _ => h, fun _ _ _ h _ => h, fun _ _ _ h _ => h, fun _ _ _ h _ => h, fun _ _ _ h _ => h, fun _ _ _ h _ => h, fun _ _ _ h _ => h, fun _ _ _ h _ => h, fun _ _ _ h _ => h, fun _ _ _ h _ => h, fun _ _ _ h _ => h, fun _ _ _ h _ => h, fun _ _ _ h _ => h, fun _ _ _ h _ => h, trivial⟩) W (gb_drew (gb_refl _ _)) (⟨fun _ => HB.out.1, fun e => (by cases e)⟩) ?_
    refine val_cons ?_ (fun v0 => ?_)
    ·intro L vs w1 hvs hat hb hI hF; try simp [factsI, Region.binds, Is] at hF
     have HI2 := Lib.hid hI; clear hI
     go_simp
     first | exact ⟨gb_refl _ _, HI2.out⟩ | exact HI2.out | exact ⟨HI2.out, trivial⟩
    refine val_cons ?_ (fun v1 => ?_)
    ·intro L vs w1 hvs hat hb hI hF; try simp [factsI, Region.binds, Is] at hF
     have h15 := hat.later 16 15 (by kernel_rfl)
     have c7 := (hI.1 h15).cell
     have HI2 := Lib.hid hI; clear hI h15
     go_simp
     exact ⟨gb_refl _ _, HI2.out⟩
    refine val_cons ?_ (fun v2 => ?_)
    ·intro L vs w1 hvs hat hb hI hF; try simp [factsI, Region.binds, Is] at hF
     have HI2 := Lib.hid hI; clear hI
     go_simp
     first | exact ⟨gb_refl _ _, HI2.out⟩ | exact HI2.out | exact ⟨HI2.out, trivial⟩
    refine val_cons ?_ (fun v3 => ?_)
    ·intro L vs w1 hvs hat hb hI hF; try simp [factsI, Region.binds, Is] at hF
     have HI2 := Lib.hid hI; clear hI
     go_simp
     first | exact ⟨gb_refl _ _, HI2.out⟩ | exact HI2.out | exact ⟨HI2.out, trivial⟩
    refine val_cons ?_ (fun v4 => ?_)
    ·intro L vs w1 hvs hat hb hI hF; try simp [factsI, Region.binds, Is] at hF
     have HI2 := Lib.hid hI; clear hI
     go_simp
     first | exact ⟨gb_refl _ _, HI2.out⟩ | exact HI2.out | exact ⟨HI2.out, trivial⟩
    refine val_cons ?_ (fun v5 => ?_)
    ·intro L vs w1 hvs hat hb hI hF; try simp [factsI, Region.binds, Is] at hF
     have HI2 := Lib.hid hI; clear hI
     go_simp
     first | exact ⟨gb_refl _ _, HI2.out⟩ | exact HI2.out | exact ⟨HI2.out, trivial⟩
    refine val_cons ?_ (fun v6 => ?_)
    ·intro L vs w1 hvs hat hb hI hF; try simp [factsI, Region.binds, Is] at hF
     have HI2 := Lib.hid hI; clear hI
     go_simp
     first | exact ⟨gb_refl _ _, HI2.out⟩ | exact HI2.out | exact ⟨HI2.out, trivial⟩
    refine val_cons ?_ (fun v7 => ?_)
    ·intro L vs w1 hvs hat hb hI hF; try simp [factsI, Region.binds, Is] at hF
     have HI2 := Lib.hid hI; clear hI
     go_simp
     first | exact ⟨gb_refl _ _, HI2.out⟩ | exact HI2.out | exact ⟨HI2.out, trivial⟩
    refine val_cons ?_ (fun v8 => ?_)
    ·intro L vs w1 hvs hat hb hI hF; try simp [factsI, Region.binds, Is] at hF
     have HI2 := Lib.hid hI; clear hI
     go_simp
     first | exact ⟨gb_refl _ _, HI2.out⟩ | exact HI2.out | exact ⟨HI2.out, trivial⟩
    refine val_cons ?_ (fun v9 => ?_)
    ·intro L vs w1 hvs hat hb hI hF; try simp [factsI, Region.binds, Is] at hF
     have HI2 := Lib.hid hI; clear hI
     go_simp
     first | exact ⟨gb_refl _ _, HI2.out⟩ | exact HI2.out | exact ⟨HI2.out, trivial⟩
    refine val_cons ?_ (fun v10 => ?_)
    ·intro L vs w1 hvs hat hb hI hF; try simp [factsI, Region.binds, Is] at hF
     have HI2 := Lib.hid hI; clear hI
     go_simp
     first | exact ⟨gb_refl _ _, HI2.out⟩ | exact HI2.out | exact ⟨HI2.out, trivial⟩
    refine val_cons ?_ (fun v11 => ?_)
    ·intro L vs w1 hvs hat hb hI hF; try simp [factsI, Region.binds, Is] at hF
     have HI2 := Lib.hid hI; clear hI
     go_simp
     first | exact ⟨gb_refl _ _, HI2.out⟩ | exact HI2.out | exact ⟨HI2.out, trivial⟩
    refine val_cons ?_ (fun v12 => ?_)
    ·intro L vs w1 hvs hat hb hI hF; try simp [factsI, Region.binds, Is] at hF
     have HI2 := Lib.hid hI; clear hI
     go_simp
     first | exact ⟨gb_refl _ _, HI2.out⟩ | exact HI2.out | exact ⟨HI2.out, trivial⟩
    refine val_cons ?_ (fun v13 => ?_)
    ·intro L vs w1 hvs hat hb hI hF; try simp [factsI, Region.binds, Is] at hF
     have HI2 := Lib.hid hI; clear hI
     go_simp
     first | exact ⟨gb_refl _ _, HI2.out⟩ | exact HI2.out | exact ⟨HI2.out, trivial⟩
    refine val_cons ?_ (fun v14 => ?_)
    ·intro L vs w1 hvs hat hb hI hF; try simp [factsI, Region.binds, Is] at hF
     have HI2 := Lib.hid hI; clear hI
     go_simp
     first | exact ⟨gb_refl _ _, HI2.out⟩ | exact HI2.out | exact ⟨HI2.out, trivial⟩
    refine val_cons ?_ (fun v15 => ?_)
    ·intro L vs w1 hvs hat hb hI hF; try simp [factsI, Region.binds, Is] at hF
     have h15 := Lib.hid hat.self
     have hB := hI.1 h15.out
     have r0 := hB.row
     have HW := Lib.hid (And.intro hB.rw hB)
     rw [← HW.out.1]
     clear hI hB
     go_simp
     rw [HW.out.1]
     try simp [upd]
     first | exact ⟨gb_row (gb_refl _ _) _, ⟨fun e => (by cases e), fun _ => HW.out.2.rowS _⟩, trivial⟩ | exact ⟨gb_refl _ _, ⟨fun e => (by cases e), fun _ => HW.out.2⟩, trivial⟩
    refine val_nil ?_
    intro vs w1 hvs hb hI hF
    simp [Is, Nat.forall_lt_succ_right] at hF
    have e0 := hF.1.1.1.1.1.1.1.1.1.1.1.1.1.1.1
    have e1 := hF.1.1.1.1.1.1.1.1.1.1.1.1.1.1.2
    have e2 := hF.1.1.1.1.1.1.1.1.1.1.1.1.1.2
    have e3 := hF.1.1.1.1.1.1.1.1.1.1.1.1.2
    have e4 := hF.1.1.1.1.1.1.1.1.1.1.1.2
    have e5 := hF.1.1.1.1.1.1.1.1.1.1.2
    have e6 := hF.1.1.1.1.1.1.1.1.1.2
    have e7 := hF.1.1.1.1.1.1.1.1.2
    have e8 := hF.1.1.1.1.1.1.1.2
    have e9 := hF.1.1.1.1.1.1.2
    have e10 := hF.1.1.1.1.1.2
    have e11 := hF.1.1.1.1.2
    have e12 := hF.1.1.1.2
    have e13 := hF.1.1.2
    have e14 := hF.1.2
    have e15 := hF.2
    clear hF
    simp only [Act.put, List.setIfInBounds_toArray, List.set_cons_succ, List.set_cons_zero, e0, e1, e2, e3, e4, e5, e6, e7, e8, e9, e10, e11, e12, e13, e14]
    clear e0 e1 e2 e3 e4 e5 e6 e7 e8 e9 e10 e11 e12 e13 e14
    have hB7 := hI.2 rfl
    have hgW : W.grownBy w1 (some (N0 + 1)) := hb
    have HC := Lib.hid (And.intro hB7 hgW)
    have c2 := (HB.out.2.2.2.1.gb hgW (by simpa using hn2)).cell
    have cg := (HB.out.2.2.2.2.1.gb hgW (by simpa using hng)).cell
    have l2 := (HB.out.2.2.2.1.gb hgW (by simpa using hn2)).lt
    have hsl1 := HB.out.2.2.2.2.2.2
    clear hI hb hB7 hgW hvs e15
    gi_wp2_with fail
    obtain ⟨wb, hwb⟩ : ∃ wb, wb = w1 := ⟨_, rfl⟩
    rw [← hwb]
    have HWB := Lib.hid hwb; clear hwb
    gi_loopw [48] (fun iv wx => ∃ k : Nat, k ≤ m.length ∧ iv = .int .i64 k ∧ Hid (Blk wx (N0 + 1) #[.int .u64 (uI (meetF m x.1 b a1 k)), .bool true] 99 ∧ W.grownBy wx (some (N0 + 1)))) (fun iv _ => m.length - (intOf iv).toNat)
    case atStart => exact ⟨0, Nat.zero_le _, rfl, Lib.hid (by rw [HWB.out]; exact HC.out)⟩
    case round =>
     obtain ⟨k, hk, rfl, HJ⟩ := hrel
     clear c2 cg l2
     by_cases hlt : k < m.length
     ·obtain ⟨sk, hsk⟩ : ∃ sk, m[k]? = some sk := ⟨_, List.getElem?_eq_getElem hlt⟩
      have hgD : m.getD k 0 = sk := by rw [List.getD_eq_getElem?_getD, hsk]; rfl
      obtain ⟨c0, c1, c2, c3, c4, c5, c6, c7⟩ := sol_cells ((HB.out.2.2.2.2.2.2.gb HJ.out.2 (by simpa using hnp))) hsk
      have hgD := Lib.hid hgD
      have b8 := HB.out.2.2.1.gb HJ.out.2 (by simpa using hn8)
      have b3 := HB.out.2.2.2.2.2.1.gb HJ.out.2 (by simpa using hn3)
      have c8 := b8.cell; have l8' := b8.lt; have cx := b3.cell; have lx := b3.lt
      have l7' := HJ.out.1.lt; have lp' := block_lt_of_cell c0
      clear b8 b3 hsk
      by_cases e : k = x.1
      ·subst e
       gi_wp2_with fail
       refine ⟨trivial, ?_⟩
       gi_wp2_with fail
       go_roundw
       case rel =>
        refine ⟨x.1 + 1, by omega, by go_num, Lib.hid ⟨?_, gb_alloc HJ.out.2 _⟩⟩
        rw [meetF, if_neg (fun h => h.1 rfl)]
        exact HJ.out.1.alloc _
       case measure => simp [intOf]; omega
      ·have e1 : ¬ ((k : Int) = (x.1 : Int)) := by omega
       have HE := Lib.hid e; clear e
       have hz := (by omega : k < 12)
       cases em : meets b sk
       ·gi_wp2_with fail
        refine ⟨trivial, (CallsIn.inRound lp (callsIn_wide.2 (meets_spec b sk _))).mono ?_⟩
        rintro e w4 ⟨rfl, hb4⟩
        have HB4 := Lib.hid hb4; clear hb4
        gi_wp2_with fail
        go_roundw
        case rel =>
         refine ⟨k + 1, by omega, by go_num, Lib.hid ⟨?_, gb_below (gb_alloc HJ.out.2 _) HB4.out⟩⟩
         rw [meetF, if_neg (fun h => by rw [hgD.out, em] at h; cases h.2)]
         exact (HJ.out.1.alloc _).grow HB4.out
        case measure => simp [intOf]; omega
       ·gi_wp2_with fail
        refine ⟨trivial, (CallsIn.inRound lp (callsIn_wide.2 (meets_spec b sk _))).mono ?_⟩
        rintro e w4 ⟨rfl, hb4⟩
        have b74 := (HJ.out.1.alloc (.cells #[.int .u64 (pl sk 0), .int .u64 (pl sk 1), .int .u64 (pl sk 2), .int .u64 (pl sk 3), .int .u64 (pl sk 4), .int .u64 (pl sk 5), .int .u64 (pl sk 6), .int .u64 (pl sk 7)] 72)).grow hb4
        have hg4 := gb_below (gb_alloc HJ.out.2 (.cells #[.int .u64 (pl sk 0), .int .u64 (pl sk 1), .int .u64 (pl sk 2), .int .u64 (pl sk 3), .int .u64 (pl sk 4), .int .u64 (pl sk 5), .int .u64 (pl sk 6), .int .u64 (pl sk 7)] 72)) hb4
        have HB4 := Lib.hid (And.intro b74 hg4); clear hb4 b74 hg4
        have ep := pow_u k (by omega)
        have eo := bits_or_u (meetF m x.1 b a1 k) (bit k)
        gi_wp2_with fail
        refine wpIn_region_val (GbN (N0 + 1)) (fun L vs W => I13w (N0 + 1) (meetF m x.1 b a1 k) (meetF m x.1 b a1 k ||| bit k) true (L 6) W) [Is (.pointer (some ⟨N0 + 1, 0, none⟩)), Is (.int .u64 (uI (meetF m x.1 b a1 k))), Is (.int .i64 (k : Int)), Is (.int .u64 (uI (bit k))), Is (.int .u64 (uI (meetF m x.1 b a1 k ||| bit k))), Is (.pointer (some ⟨N0 + 1, 0, none⟩)), AnyV] (by kernel_rfl) (by kernel_rfl) (by kernel_rfl) rfl (fun W => gb_refl W _) (GbN.trans (N0 + 1)) (stable_mem ⟨fun _ _ _ h _ => h, fun _ _ _ h _ => h, fun _ _ _ h _ => h, fun _ _ _ h _ => h, fun _ _ _ h _ => h, fun _ _ _ h _ => h, fun _ _ _ h _ => h, trivial⟩) w4 (gb_drew (gb_refl _ _)) (⟨fun _ => HB4.out.1, fun e => (by cases e)⟩) ?_
        refine val_cons ?_ (fun v0 => ?_)
        ·intro L vs w1 hvs hat hb hI hF; try simp [factsI, Region.binds, Is] at hF
         have HI2 := Lib.hid hI; clear hI
         go_simp
         exact ⟨gb_refl _ _, HI2.out⟩
        refine val_cons ?_ (fun v1 => ?_)
        ·intro L vs w1 hvs hat hb hI hF; try simp [factsI, Region.binds, Is] at hF
         have h6 := hat.later 7 6 (by kernel_rfl)
         have c7 := (hI.1 h6).cell
         have HI2 := Lib.hid hI; clear hI h6
         go_simp
         exact ⟨gb_refl _ _, HI2.out⟩
        refine val_cons ?_ (fun v2 => ?_)
        ·intro L vs w1 hvs hat hb hI hF; try simp [factsI, Region.binds, Is] at hF
         have HI2 := Lib.hid hI; clear hI
         go_simp
         exact ⟨gb_refl _ _, HI2.out⟩
        refine val_cons ?_ (fun v3 => ?_)
        ·intro L vs w1 hvs hat hb hI hF; try simp [factsI, Region.binds, Is] at hF
         have HI2 := Lib.hid hI; clear hI
         go_simp
         exact ⟨gb_refl _ _, HI2.out⟩
        refine val_cons ?_ (fun v4 => ?_)
        ·intro L vs w1 hvs hat hb hI hF; try simp [factsI, Region.binds, Is] at hF
         have HI2 := Lib.hid hI; clear hI
         go_simp
         exact ⟨gb_refl _ _, HI2.out⟩
        refine val_cons ?_ (fun v5 => ?_)
        ·intro L vs w1 hvs hat hb hI hF; try simp [factsI, Region.binds, Is] at hF
         have HI2 := Lib.hid hI; clear hI
         go_simp
         exact ⟨gb_refl _ _, HI2.out⟩
        refine val_cons ?_ (fun v6 => ?_)
        ·intro L vs w1 hvs hat hb hI hF; try simp [factsI, Region.binds, Is] at hF
         have h6 := Lib.hid hat.self
         have hB := hI.1 h6.out
         have r0 := hB.row
         have HW := Lib.hid (And.intro hB.rw hB)
         rw [← HW.out.1]
         clear hI hB
         go_simp
         rw [HW.out.1]
         try simp [upd]
         exact ⟨gb_row (gb_refl _ _) _, ⟨fun e => (by cases e), fun _ => HW.out.2.rowS _⟩, trivial⟩
        refine val_nil ?_
        intro vs w1 hvs hb hI hF
        simp [Is, Nat.forall_lt_succ_right] at hF
        have e0 := hF.1.1.1.1.1.1
        have e1 := hF.1.1.1.1.1.2
        have e2 := hF.1.1.1.1.2
        have e3 := hF.1.1.1.2
        have e4 := hF.1.1.2
        have e5 := hF.1.2
        have e6 := hF.2
        clear hF
        simp only [Act.put, List.setIfInBounds_toArray, List.set_cons_succ, List.set_cons_zero, e0, e1, e2, e3, e4, e5]
        clear e0 e1 e2 e3 e4 e5
        have hB5 := hI.2 rfl
        have hg5 : W.grownBy w1 (some (N0 + 1)) := HB4.out.2.trans hb
        have HB5 := Lib.hid (And.intro hB5 hg5); clear hI hb hvs e6 hB5 hg5
        gi_wp2_with fail
        go_roundw
        case rel =>
         refine ⟨k + 1, by omega, by go_num, Lib.hid ⟨?_, HB5.out.2⟩⟩
         rw [meetF, if_pos ⟨HE.out, by rw [hgD.out, em]⟩]
         exact HB5.out.1
        case measure => simp [intOf]; omega
     ·obtain rfl : k = m.length := by omega
      gi_wp2_with fail
      refine ⟨.gb HJ.out.2 (fun r e => (by cases e; rfl)), ?_, HB.out.2.1.trans HJ.out.2⟩
      have := HJ.out.1
      rw [List.foldl_append, HAC.out]
      show Blk wr (N0 + 1) #[.int .u64 (uI (meetF m x.1 b a1 m.length)), .bool (true || !okz || meets b (sandM m))] 99
      simp only [Bool.true_or]
      exact this
  case done =>
   rintro D xs W hD rfl ⟨h7, hgb⟩ hK
   have hin : (wayL x.2.1 x.2.2 s).foldl (inStep m x.1) (0, false) = inWayM m x := by
    unfold inWayM
    rw [List.getD_eq_getElem?_getD, HM.out.2.1]; rfl
   rw [hin] at h7
   clear hin
   have b2 := H3.out.1.gb hgb (by simp; omega)
   have b3 := H3.out.2.1.gb hgb (by simp; omega)
   have b4 := H3.out.2.2.1.gb hgb (by simp; omega)
   have bg := (HG.out.1.grow H3.out.2.2.2.2.2.2.2).gb hgb (by simp; omega)
   have hwy := hM3.ways.kept hgb (by simp; omega)
   have hbW : Below w.heap.size w W := gb_bel H3.out.2.2.2.2.2.2.2 hgb (by omega)
   have HW := Lib.hid (And.intro h7 (And.intro b2 (And.intro b3 (And.intro b4 (And.intro bg (And.intro hwy (And.intro hbW (And.intro hD hK))))))))
   have c7 := h7.cell; have l7 := h7.lt; have c2 := b2.cell; have l2 := b2.lt; have c3 := b3.cell; have l3 := b3.lt; have cg := bg.cell; have lg := bg.lt
   clear h7 hgb b2 b3 b4 bg hwy hbW hK hD
   go_wp2_with fail
   refine wp_region_grow 6 [Is (.pointer (some ⟨g, 0, none⟩)), Is (.pointer (some ⟨g, 0, none⟩)), Is (.pointer (some ⟨g, 9, none⟩)), Is (.map (some mb)), Is (.agg #[.int .i64 (x.1 : Int), .int .i64 (x.2.1 : Int), .int .i64 (x.2.2 : Int)]), Is (.agg #[.int .u64 (uI (inWayM m x).1), .bool (inWayM m x).2])] (by kernel_rfl) (by kernel_rfl) rfl ⟨fun _ _ _ h _ => h, fun _ _ _ h _ => h, fun _ _ _ h _ => h, fun _ _ _ h _ => h, fun _ _ _ h _ => h, fun _ _ _ h _ => h, trivial⟩ ?_
   simp only [List.take_succ_cons, List.take_zero, List.drop_succ_cons, List.drop_zero]
   iterate 6 (refine rel_cons ?_ (fun _ => ?_); · intro w1 hb hF; have hc := (Grows.cells hb).1; have hf := (Grows.cells hb).2; (try simp [facts, Is] at hF); go_simp; exact Grows.refl _)
   refine rel_nil ?_
   intro w1 hb hF
   simp [Is, Nat.forall_lt_succ_right] at hF
   simp only [Act.put, List.setIfInBounds_toArray, List.set_cons_succ, List.set_cons_zero, hF]
   clear hF
   have hb1 : Below W.heap.size W w1 := hb
   have hwy1 := HW.out.2.2.2.2.2.1.below hb1 HW.out.2.2.2.2.2.1.lt
   obtain ⟨W2, hput, hwy2, hg2⟩ := hwy1.put HM.out.2.2
   have hput2 : (Instr.mapUpdate 73 (.map (some mb)) (.agg #[.int .i64 (x.1 : Int), .int .i64 (x.2.1 : Int), .int .i64 (x.2.2 : Int)]) (.agg #[.int .u64 (uI (inWayM m x).1), .bool (inWayM m x).2])).run Tryd.prog w1 = .ok () W2 := hput
   have b72 := (HW.out.1.grow hb1).gb hg2 (by simp; omega)
   have b42 := (HW.out.2.2.2.1.grow hb1).gb hg2 (by simp; omega)
   have hgw : w.grownBy W2 (some mb) := (gb_below (gb_below (gb_refl w _) HW.out.2.2.2.2.2.2.1) hb1).trans hg2
   have hDe : D = w3.heap.size := HW.out.2.2.2.2.2.2.2.1
   have hDm : mb < D := by have := H3.out.2.2.2.2.2.2.1; omega
   have hKd := HW.out.2.2.2.2.2.2.2.2
   have hKW : W2.heap[D]? = some (.deferred (some [])) := (hg2.block D (by have := hb1.size; have := (Array.getElem?_eq_some_iff.1 hKd).1; omega) (by simp; omega)).trans ((hb1.block D (Array.getElem?_eq_some_iff.1 hKd).1).trans hKd)
   have hD4 : w.heap.size + 1 + 1 < D := by have := H3.out.2.2.2.2.2.2.1; omega
   have c72 := b72.cell; have l72 := b72.lt
   have r4 := b42.row; have l4 := b42.lt
   have HZ := Lib.hid (And.intro hwy2 (And.intro hgw (And.intro hKW (And.intro b42 (And.intro b72 (And.intro hput2 hDe))))))
   have HR4 := Lib.hid b42.rw
   rw [← HR4.out] at hput2
   clear hwy1 hput hwy2 hg2 b72 b42 hgw hKW hDe hKd hb hb1 c7 c2 c3 cg c72
   have cR7 := ((HZ.out.2.2.2.2.1).rowO (g := w.heap.size + 1 + 1) #[.int .u64 0, .bool false] (by omega)).cell
   go_wp2_with fail
   have hwR : (W2.setRow (w.heap.size + 1 + 1) #[.int .u64 (uI (inWayM m x).1), .bool (inWayM m x).2]).heap[D]? = some (.deferred (some [])) := (setRow_other _ _ _ _ (by omega)).trans HZ.out.2.2.1
   refine ⟨by simp, .inl ⟨_, _, rfl, run_takeDeferred hwR, ?_⟩⟩
   have hfin : ((W2.setRow (w.heap.size + 1 + 1) #[.int .u64 (uI (inWayM m x).1), .bool (inWayM m x).2]).putObj D (.deferred none)).heap[w.heap.size + 1 + 1]? = some (.cells #[.int .u64 (uI (inWayM m x).1), .bool (inWayM m x).2] 99 (0, 0)) := (World.putObj_heap_other (by omega)).trans (HZ.out.2.2.2.1.rowS _)
   have hgP : w.grownBy ((W2.setRow (w.heap.size + 1 + 1) #[.int .u64 (uI (inWayM m x).1), .bool (inWayM m x).2]).putObj D (.deferred none)) (some mb) := gb_new (gb_new HZ.out.2.1 (gb_row (gb_refl _ (some (w.heap.size + 1 + 1))) _) (fun j e => by cases e; omega)) (grownBy_putObj' _ D _) (fun j e => by cases e; omega)
   have hwP : Ways ((W2.setRow (w.heap.size + 1 + 1) #[.int .u64 (uI (inWayM m x).1), .bool (inWayM m x).2]).putObj D (.deferred none)) mb m := (HZ.out.1.kept (gb_row (gb_refl _ (some (w.heap.size + 1 + 1))) _) (by simp; omega)).kept (grownBy_putObj' _ D _) (by simp; omega)
   exact ⟨_, results_cell_row rfl _ _ (w.heap.size + 1 + 1) _ _ _ _ rfl hfin Tryd.underlying99 rfl (by kernel_rfl), rfl, hwP, hgP⟩
  case stop =>
   rintro D c pre W _ _ h _
   exact h.elim
 ·have r4 := HL.out.2.2.2.1.row
  have HW4 := Lib.hid HL.out.2.2.2.1.rw
  have cN' := (HL.out.1.rowO (g := w.heap.size + 1 + 1) #[.int .u64 0, .bool false] (by omega)).cell
  rw [← HW4.out]
  clear cN
  go_wp2_with fail
  have hfin := HL.out.2.2.2.1.rowS #[.int .u64 (uI y.1), .bool y.2]
  have hbl := blw_row HL.out.2.2.2.2 (show w.heap.size ≤ w.heap.size + 1 + 1 by omega) #[.int .u64 (uI y.1), .bool y.2]
  refine ⟨_, results_cell_row rfl _ _ (w.heap.size + 1 + 1) _ _ _ _ rfl hfin Tryd.underlying99 rfl (by kernel_rfl), ?_, HM.out.1.ways.below hbl lmb, gb_below (gb_refl w _) hbl⟩
  rw [HLK.out.1 trivial]
end Go.Proofs.YtkcpnhigekopaaaDoor
end
