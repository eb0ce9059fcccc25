import Derived.Test.YtkfimbonmnoglaaGreatDoorB07
/-
  Given contracts of functions of the program, and laws for them, one behind the other.
-/
set_option linter.unusedVariables false
set_option linter.unusedSimpArgs false
set_option linter.unusedSectionVars false
section
namespace Go.Proofs.YtkfimbonmnoglaaGreatDoor
open Go.RowKit Go.Rel Go.Draw Go.Solid
set_option maxRecDepth 100000
attribute [local go_sem] Oper.semAt_some
theorem minI (a x : Int) : (if x < a then x else a) = min a x := by
 by_cases h : x < a
 ·rw [if_pos h]; omega
 ·rw [if_neg h]; omega
theorem maxI (a x : Int) : (if a < x then x else a) = max a x := by
 by_cases h : a < x
 ·rw [if_pos h]; omega
 ·rw [if_neg h]; omega
abbrev boxR (l h : Cl) : Array Value := #[.int .i64 l.1, .int .i64 l.2.1, .int .i64 l.2.2, .int .i64 h.1, .int .i64 h.2.1, .int .i64 h.2.2]
abbrev boxV (l h : Cl) : Value := .agg (boxR l h)
def loG (l : List GCl) : Cl := loF (7, 7, 7) (l.map fun y => y.1)
def hiG (l : List GCl) : Cl := hiF (0, 0, 0) (l.map fun y => y.1)
theorem loG_snoc (l : List GCl) (c : GCl) : loG (l ++ [c]) = minC (loG l) c.1 := by
 unfold loG loF; rw [List.map_append, List.foldl_append]; rfl
theorem hiG_snoc (l : List GCl) (c : GCl) : hiG (l ++ [c]) = maxC (hiG l) c.1 := by
 unfold hiG hiF; rw [List.map_append, List.foldl_append]; rfl
def BndI (w : World) (s : Sol) (l h : Cl) (W : World) : Prop :=
 Below w.heap.size w W ∧ Blk W (w.heap.size + 1) #[.int .i64 0, .int .i64 0, .int .i64 0, .int .i64 0, .int .i64 0, .int .i64 0] 62 ∧ Blk W (w.heap.size + 1 + 1) (boxR l h) 62
theorem BndI.kept {w : World} {s : Sol} {l h : Cl} {W W' : World} {r : Option Nat} (H : BndI w s l h W) (hg : W.grownBy W' r) (hr : ∀ k, r = some k → w.heap.size + 1 + 1 < k) : BndI w s l h W' := by
 obtain ⟨h1, h2, h3⟩ := H
 refine ⟨h1.grown hg h1.size (fun k e => by have := hr k e; omega), h2.gb hg ?_, h3.gb hg ?_⟩
 all_goals (intro e; have := hr _ e.symm; omega)
set_option maxHeartbeats 2000000 in
theorem bounds_zero {s : Sol} (hs : s = 0) (w : World) : Calls Tryz.prog 65 #[solV s] w fun e w' => e = .returned (.tuple #[boxV (0, 0, 0) (0, 0, 0), .bool false]) ∧ Below w.heap.size w w' := by
 have e0 : (s == 0#512) = true := by rw [beq_iff_eq]; exact hs
 clear hs
 go_enter Tryz.func65, Tryz.ntmps65
 go_wp2_with fail
 exact bodyPost_ret (v := .tuple #[boxV (0, 0, 0) (0, 0, 0), .bool false]) (by simp [results, Tryz.results65, go_sem]) rfl ⟨rfl, (by repeat (first | with_reducible exact bel_refl _ | with_reducible assumption | with_reducible refine bel_drewN ?_ _ | with_reducible refine bel_drew ?_ | with_reducible refine bel_alloc ?_ _ | with_reducible refine bel_row ?_ ?_ _ | with_reducible refine bel_set ?_ ?_ _ | refine bel_trans ?_ (by with_reducible assumption) | (simp; done) | (simp; omega)))⟩
set_option maxHeartbeats 8000000 in
theorem bounds_some {s : Sol} (hs : s ≠ 0) (w : World) (hT : Tab w) : Calls Tryz.prog 65 #[solV s] w fun e w' => e = .returned (.tuple #[boxV (loS s) (hiS s), .bool true]) ∧ Below w.heap.size w w' := by
 have e0 : (s == 0#512) = false := by rw [beq_eq_false_iff_ne]; exact hs
 have HT := Lib.hid hT
 obtain ⟨RV, hRV⟩ : ∃ RV : Value, RV = .tuple #[boxV (loS s) (hiS s), .bool true] := ⟨_, rfl⟩
 rw [← hRV]
 have HRV := Lib.hid hRV
 clear hs hT hRV
 refine (callsIn_wide (n := 9)).1 ?_
 refine callsIn_of_wp_marks Tryz.func65 rfl trivial ?_ rfl
 simp only [Tryz.ntmps65, List.size_toArray, List.length_cons, List.length_nil, Nat.reduceAdd, Nat.reduceSub, Array.replicate_succ, Array.replicate_zero, List.push_toArray, List.append_toArray, List.nil_append, List.cons_append]
 refine wpIn_wide.2 ?_
 go_wp2_with fail
 refine (cells_spec _ s).mono ?_
 rintro e w3 ⟨rfl, hw3⟩
 simp only [World.size_alloc] at hw3 ⊢
 have b3 : Blk w3 (w.heap.size + 1 + 1 + 1) #[.int .u64 (pl s 0), .int .u64 (pl s 1), .int .u64 (pl s 2), .int .u64 (pl s 3), .int .u64 (pl s 4), .int .u64 (pl s 5), .int .u64 (pl s 6), .int .u64 (pl s 7)] 26 := by subst hw3; exact Blk.at _ _ (by simp)
 have hb3 : Below w.heap.size w w3 := by subst hw3; exact (by repeat (first | with_reducible exact bel_refl _ | with_reducible assumption | with_reducible refine bel_drewN ?_ _ | with_reducible refine bel_drew ?_ | with_reducible refine bel_alloc ?_ _ | with_reducible refine bel_row ?_ ?_ _ | with_reducible refine bel_set ?_ ?_ _ | refine bel_trans ?_ (by with_reducible assumption) | (simp; done) | (simp; omega)))
 have hsz3 : w3.heap.size = w.heap.size + 1 + 1 + 1 + 1 := by subst hw3; simp
 have hM : BndI w s (7, 7, 7) (0, 0, 0) w3 := by
  refine ⟨hb3, ?_, ?_⟩
  all_goals (subst hw3; exact (by repeat (first | with_reducible assumption | (refine Blk.at _ _ ?_; (simp; done)) | with_reducible refine Blk.alloc ?_ _ | with_reducible refine Blk.drew ?_ | with_reducible refine Blk.rowS ?_ _ | with_reducible refine Blk.rowO ?_ _ (by simp))))
 have H3 := Lib.hid (And.intro b3 (And.intro hsz3 hM))
 have hT3 := HT.out.grow hb3
 have HT3 := Lib.hid hT3
 clear hw3 b3 hb3 hsz3 hM hT3
 go_wp2_with fail
 refine (wpIn_wide (n := 9)).1 ?_
 refine wpIn_rangeFunc_C (α := GCl) rfl (by omega) (gf := 147) (lb := #[.pointer (some ⟨w.heap.size + 1 + 1 + 1, 0, none⟩)]) rfl trivial (enters_of Tryz.func147 (by kernel_rfl) rfl) (wr := fun k => k = w.heap.size + 1 + 1) 0
  (fun W hbW _ => cells_seq (n := 9 - 1) (by omega) s (H3.out.1.grow hbW) (HT3.out.grow hbW) (by omega)) (fun r h1 => by have := H3.out.2.1; omega) (fun _ => rfl)
  (fun (pre : List GCl) W => BndI w s (loG pre) (hiG pre) W) (fun c (pre : List GCl) W => False)
  (fun pre W W' r h hg hr => h.kept hg (fun k e => by have := hr k e; have := H3.out.2.1; omega)) (fun c pre W W' r h hg hr => h) H3.out.2.2
  (fun z a' W => ∃ B8, w3.heap.size + 1 + 1 + 0 ≤ B8 ∧ Blk W B8 #[.int .i64 z.1.1, .int .i64 z.1.2.1, .int .i64 z.1.2.2] 60 ∧ a' = { tmps := #[solV s, .pointer (some ⟨w.heap.size, 0, none⟩), .pointer (some ⟨w.heap.size + 1, 0, none⟩), .bool false, .pointer (some ⟨w.heap.size + 1 + 1, 0, none⟩), .pointer (some ⟨B8, 0, none⟩), undef, undef, solV s, .agg #[.int .u64 0, .int .u64 0, .int .u64 0, .int .u64 0, .int .u64 0, .int .u64 0, .int .u64 0, .int .u64 0], .bool false, undef, .agg #[.int .i64 7, .int .i64 7, .int .i64 7], .agg #[.int .i64 7, .int .i64 7, .int .i64 7, .int .i64 0, .int .i64 0, .int .i64 0], solV s, .func (.func 147) #[] #[.pointer (some ⟨w.heap.size + 1 + 1 + 1, 0, none⟩)], clV z.1, undef, undef, undef, undef, undef, undef, undef, undef, undef, undef, undef, undef, undef, undef, undef, undef, undef, undef, undef, undef, undef, undef, undef, undef, undef, undef, undef, undef, undef, undef, undef, undef, undef, undef, undef, undef, undef, undef, undef, undef, undef, undef, undef, undef, undef, undef, undef, undef, undef, undef, undef, undef, undef, undef, undef, undef, undef, undef, undef, undef, undef, undef, undef], defers := [] })
  (fun z a' _ X Y row hs hg hr => by obtain ⟨B8, e1, e2, e3⟩ := hs; exact ⟨B8, e1, e2.gb hg (fun e => by have := hr _ e.symm; omega), e3⟩)
  ?assign ?body ?done ?stop
 case assign =>
  rintro lp pre z W K hM hsz hK
  have HI := Lib.hid hM; clear hM
  have hK' := fun a' W' => hK a' W'
  clear hK
  gi_wp2_with fail
  exact hK' _ _ (KeepsBut.alloc _ _ _) (HI.out.kept (World.grownBy_alloc _ _ none) (fun k e => by cases e)) ⟨W.heap.size, hsz, Blk.new _ _ _, rfl⟩
 case body =>
  rintro lp pre z a' W hsz hM ⟨B8, hB8, bB, rfl⟩ hlen
  have hH3 := H3.out.2.1
  obtain ⟨⟨x, y, z⟩, hg⟩ := z
  simp only at bB
  obtain ⟨l, hl⟩ : ∃ l, l = loG pre := ⟨_, rfl⟩
  obtain ⟨h, hh⟩ : ∃ h, h = hiG pre := ⟨_, rfl⟩
  rw [← hl, ← hh] at hM
  have HL := Lib.hid (And.intro hl hh)
  clear hl hh
  obtain ⟨a1, a2, a3⟩ := l
  obtain ⟨b1, b2, b3⟩ := h
  obtain ⟨n1, hn1⟩ : ∃ n, n = min a1 x := ⟨_, rfl⟩
  obtain ⟨n2, hn2⟩ : ∃ n, n = min a2 y := ⟨_, rfl⟩
  obtain ⟨n3, hn3⟩ : ∃ n, n = min a3 z := ⟨_, rfl⟩
  obtain ⟨m1, hm1⟩ : ∃ n, n = max b1 x := ⟨_, rfl⟩
  obtain ⟨m2, hm2⟩ : ∃ n, n = max b2 y := ⟨_, rfl⟩
  obtain ⟨m3, hm3⟩ : ∃ n, n = max b3 z := ⟨_, rfl⟩
  have HN0 : Hid ((if x < a1 then x else a1) = n1 ∧ (if y < a2 then y else a2) = n2 ∧ (if z < a3 then z else a3) = n3) := Lib.hid ⟨by rw [hn1, minI], by rw [hn2, minI], by rw [hn3, minI]⟩
  have HN3 : Hid ((if b1 < x then x else b1) = m1 ∧ (if b2 < y then y else b2) = m2 ∧ (if b3 < z then z else b3) = m3) := Lib.hid ⟨by rw [hm1, maxI], by rw [hm2, maxI], by rw [hm3, maxI]⟩
  have HNN : Hid ((n1, n2, n3) = minC (a1, a2, a3) (x, y, z) ∧ (m1, m2, m3) = maxC (b1, b2, b3) (x, y, z)) := Lib.hid ⟨by rw [hn1, hn2, hn3]; rfl, by rw [hm1, hm2, hm3]; rfl⟩
  clear hn1 hn2 hn3 hm1 hm2 hm3
  obtain ⟨wA, hwA⟩ : ∃ wA, wA = W := ⟨_, rfl⟩
  have HBC : Hid (Blk wA B8 #[.int .i64 x, .int .i64 y, .int .i64 z] 60) := Lib.hid (by rw [hwA]; exact bB)
  have HwA : Hid (Blk wA (w.heap.size + 1 + 1) #[.int .i64 a1, .int .i64 a2, .int .i64 a3, .int .i64 b1, .int .i64 b2, .int .i64 b3] 62 ∧ Below w.heap.size w wA ∧ Blk wA (w.heap.size + 1) #[.int .i64 0, .int .i64 0, .int .i64 0, .int .i64 0, .int .i64 0, .int .i64 0] 62) := Lib.hid ⟨by rw [hwA]; exact hM.2.2, by rw [hwA]; exact hM.1, by rw [hwA]; exact hM.2.1⟩
  have lA : w.heap.size + 1 + 1 < wA.heap.size := HwA.out.1.lt
  rw [← hwA] at hsz ⊢
  clear hM bB hwA
  gi_wp2_with fail
  refine wpIn_region_val (GbN (w.heap.size + 1 + 1)) (fun L vs W => Blk W (w.heap.size + 1 + 1) #[.int .i64 (bif L 26 then n1 else a1), .int .i64 (bif L 29 then n2 else a2), .int .i64 (bif L 32 then n3 else a3), .int .i64 b1, .int .i64 b2, .int .i64 b3] 62) [Is (.pointer (some ⟨w.heap.size + 1 + 1, 0, none⟩)), Is (.pointer (some ⟨w.heap.size + 1 + 1, 0, none⟩)), Is (.pointer (some ⟨w.heap.size + 1 + 1, 0, none⟩)), Is (.pointer (some ⟨w.heap.size + 1 + 1, 0, none⟩)), Is (.pointer (some ⟨w.heap.size + 1 + 1, 0, none⟩)), Is (.pointer (some ⟨w.heap.size + 1 + 1, 0, none⟩)), Is (.int .i64 a1), Is (.pointer (some ⟨B8, 0, none⟩)), Is (.int .i64 x), Is (.int .i64 n1), Is (.pointer (some ⟨w.heap.size + 1 + 1, 0, none⟩)), Is (.pointer (some ⟨w.heap.size + 1 + 1, 0, none⟩)), Is (.pointer (some ⟨w.heap.size + 1 + 1, 1, none⟩)), Is (.int .i64 a2), Is (.pointer (some ⟨B8, 1, none⟩)), Is (.int .i64 y), Is (.int .i64 n2), Is (.pointer (some ⟨w.heap.size + 1 + 1, 0, none⟩)), Is (.pointer (some ⟨w.heap.size + 1 + 1, 0, none⟩)), Is (.pointer (some ⟨w.heap.size + 1 + 1, 2, none⟩)), Is (.int .i64 a3), Is (.pointer (some ⟨B8, 2, none⟩)), Is (.int .i64 z), Is (.int .i64 n3), Is (.pointer (some ⟨w.heap.size + 1 + 1, 0, none⟩)), Is (.pointer (some ⟨w.heap.size + 1 + 1, 0, none⟩)), AnyV, Is (.pointer (some ⟨w.heap.size + 1 + 1, 0, none⟩)), Is (.pointer (some ⟨w.heap.size + 1 + 1, 1, none⟩)), AnyV, Is (.pointer (some ⟨w.heap.size + 1 + 1, 0, none⟩)), Is (.pointer (some ⟨w.heap.size + 1 + 1, 2, none⟩)), AnyV] (by kernel_rfl) (by kernel_rfl) (by kernel_rfl) rfl (fun W => gb_refl W _) (GbN.trans (w.heap.size + 1 + 1)) (stable_mem ⟨fun _ _ _ h _ => h, fun _ _ _ h _ => h, fun _ _ _ h _ => h, fun _ _ _ h _ => h, fun _ _ _ h _ => h, fun _ _ _ h _ => h, fun _ _ _ h _ => h, fun _ _ _ h _ => h, fun _ _ _ h _ => h, fun _ _ _ h _ => h, fun _ _ _ h _ => h, fun _ _ _ h _ => h, fun _ _ _ h _ => h, fun _ _ _ h _ => h, fun _ _ _ h _ => h, fun _ _ _ h _ => h, fun _ _ _ h _ => h, fun _ _ _ h _ => h, fun _ _ _ h _ => h, fun _ _ _ h _ => h, fun _ _ _ h _ => h, fun _ _ _ h _ => h, fun _ _ _ h _ => h, fun _ _ _ h _ => h, fun _ _ _ h _ => h, fun _ _ _ h _ => h, fun _ _ _ h _ => h, fun _ _ _ h _ => h, fun _ _ _ h _ => h, fun _ _ _ h _ => h, fun _ _ _ h _ => h, fun _ _ _ h _ => h, fun _ _ _ h _ => h, trivial⟩) wA (gb_drew (gb_refl _ _)) (HwA.out.1) ?_
  refine val_cons ?_ (fun v0 => ?_)
  ·intro L vs w1 hvs hat hb hI hF; try simp [factsI, Region.binds, Is] at hF
   have HI2 := Lib.hid hI; clear hI
   go_simp
   first | exact ⟨gb_refl _ _, HI2.out⟩ | exact HI2.out | exact ⟨HI2.out, trivial⟩
  refine val_cons ?_ (fun v1 => ?_)
  ·intro L vs w1 hvs hat hb hI hF; try simp [factsI, Region.binds, Is] at hF
   have HI2 := Lib.hid hI; clear hI
   go_simp
   first | exact ⟨gb_refl _ _, HI2.out⟩ | exact HI2.out | exact ⟨HI2.out, trivial⟩
  refine val_cons ?_ (fun v2 => ?_)
  ·intro L vs w1 hvs hat hb hI hF; try simp [factsI, Region.binds, Is] at hF
   have HI2 := Lib.hid hI; clear hI
   go_simp
   first | exact ⟨gb_refl _ _, HI2.out⟩ | exact HI2.out | exact ⟨HI2.out, trivial⟩
  refine val_cons ?_ (fun v3 => ?_)
  ·intro L vs w1 hvs hat hb hI hF; try simp [factsI, Region.binds, Is] at hF
   have HI2 := Lib.hid hI; clear hI
   go_simp
   first | exact ⟨gb_refl _ _, HI2.out⟩ | exact HI2.out | exact ⟨HI2.out, trivial⟩
  refine val_cons ?_ (fun v4 => ?_)
  ·intro L vs w1 hvs hat hb hI hF; try simp [factsI, Region.binds, Is] at hF
   have HI2 := Lib.hid hI; clear hI
   go_simp
   first | exact ⟨gb_refl _ _, HI2.out⟩ | exact HI2.out | exact ⟨HI2.out, trivial⟩
  refine val_cons ?_ (fun v5 => ?_)
  ·intro L vs w1 hvs hat hb hI hF; try simp [factsI, Region.binds, Is] at hF
   have HI2 := Lib.hid hI; clear hI
   go_simp
   first | exact ⟨gb_refl _ _, HI2.out⟩ | exact HI2.out | exact ⟨HI2.out, trivial⟩
  refine val_cons ?_ (fun v6 => ?_)
  ·intro L vs w1 hvs hat hb hI hF; try simp [factsI, Region.binds, Is] at hF
   have HI2 := Lib.hid hI
   have h8 := hat.later 40 26 (by kernel_rfl)
   simp only [h8, cond_false] at hI
   have cX := hI.cell; have lX := hI.lt
   clear hI h8
   go_simp
   first | exact ⟨gb_refl _ _, HI2.out⟩ | exact HI2.out | exact ⟨HI2.out, trivial⟩
  refine val_cons ?_ (fun v7 => ?_)
  ·intro L vs w1 hvs hat hb hI hF; try simp [factsI, Region.binds, Is] at hF
   have HI2 := Lib.hid hI; clear hI
   go_simp
   first | exact ⟨gb_refl _ _, HI2.out⟩ | exact HI2.out | exact ⟨HI2.out, trivial⟩
  refine val_cons ?_ (fun v8 => ?_)
  ·intro L vs w1 hvs hat hb hI hF; try simp [factsI, Region.binds, Is] at hF
   have cD := (HBC.out.gb hb (by simp; omega)).cell; have lD := (HBC.out.gb hb (by simp; omega)).lt
   have HI2 := Lib.hid hI; clear hI
   go_simp
   first | exact ⟨gb_refl _ _, HI2.out⟩ | exact HI2.out | exact ⟨HI2.out, trivial⟩
  refine val_cons ?_ (fun v9 => ?_)
  ·intro L vs w1 hvs hat hb hI hF; try simp [factsI, Region.binds, Is] at hF
   have hm := HN0.out.1
   have hmm := (minI _ _).symm.trans hm
   have HI2 := Lib.hid hI; clear hI
   go_simp
   first | exact ⟨gb_refl _ _, HI2.out⟩ | exact HI2.out | exact ⟨HI2.out, trivial⟩
  refine val_cons ?_ (fun v10 => ?_)
  ·intro L vs w1 hvs hat hb hI hF; try simp [factsI, Region.binds, Is] at hF
   have HI2 := Lib.hid hI; clear hI
   go_simp
   first | exact ⟨gb_refl _ _, HI2.out⟩ | exact HI2.out | exact ⟨HI2.out, trivial⟩
  refine val_cons ?_ (fun v11 => ?_)
  ·intro L vs w1 hvs hat hb hI hF; try simp [factsI, Region.binds, Is] at hF
   have HI2 := Lib.hid hI; clear hI
   go_simp
   first | exact ⟨gb_refl _ _, HI2.out⟩ | exact HI2.out | exact ⟨HI2.out, trivial⟩
  refine val_cons ?_ (fun v12 => ?_)
  ·intro L vs w1 hvs hat hb hI hF; try simp [factsI, Region.binds, Is] at hF
   have HI2 := Lib.hid hI; clear hI
   go_simp
   first | exact ⟨gb_refl _ _, HI2.out⟩ | exact HI2.out | exact ⟨HI2.out, trivial⟩
  refine val_cons ?_ (fun v13 => ?_)
  ·intro L vs w1 hvs hat hb hI hF; try simp [factsI, Region.binds, Is] at hF
   have HI2 := Lib.hid hI
   have h8 := hat.later 40 29 (by kernel_rfl)
   simp only [h8, cond_false] at hI
   have cX := hI.cell; have lX := hI.lt
   clear hI h8
   go_simp
   first | exact ⟨gb_refl _ _, HI2.out⟩ | exact HI2.out | exact ⟨HI2.out, trivial⟩
  refine val_cons ?_ (fun v14 => ?_)
  ·intro L vs w1 hvs hat hb hI hF; try simp [factsI, Region.binds, Is] at hF
   have HI2 := Lib.hid hI; clear hI
   go_simp
   first | exact ⟨gb_refl _ _, HI2.out⟩ | exact HI2.out | exact ⟨HI2.out, trivial⟩
  refine val_cons ?_ (fun v15 => ?_)
  ·intro L vs w1 hvs hat hb hI hF; try simp [factsI, Region.binds, Is] at hF
   have cD := (HBC.out.gb hb (by simp; omega)).cell; have lD := (HBC.out.gb hb (by simp; omega)).lt
   have HI2 := Lib.hid hI; clear hI
   go_simp
   first | exact ⟨gb_refl _ _, HI2.out⟩ | exact HI2.out | exact ⟨HI2.out, trivial⟩
  refine val_cons ?_ (fun v16 => ?_)
  ·intro L vs w1 hvs hat hb hI hF; try simp [factsI, Region.binds, Is] at hF
   have hm := HN0.out.2.1
   have hmm := (minI _ _).symm.trans hm
   have HI2 := Lib.hid hI; clear hI
   go_simp
   first | exact ⟨gb_refl _ _, HI2.out⟩ | exact HI2.out | exact ⟨HI2.out, trivial⟩
  refine val_cons ?_ (fun v17 => ?_)
  ·intro L vs w1 hvs hat hb hI hF; try simp [factsI, Region.binds, Is] at hF
   have HI2 := Lib.hid hI; clear hI
   go_simp
   first | exact ⟨gb_refl _ _, HI2.out⟩ | exact HI2.out | exact ⟨HI2.out, trivial⟩
  refine val_cons ?_ (fun v18 => ?_)
  ·intro L vs w1 hvs hat hb hI hF; try simp [factsI, Region.binds, Is] at hF
   have HI2 := Lib.hid hI; clear hI
   go_simp
   first | exact ⟨gb_refl _ _, HI2.out⟩ | exact HI2.out | exact ⟨HI2.out, trivial⟩
  refine val_cons ?_ (fun v19 => ?_)
  ·intro L vs w1 hvs hat hb hI hF; try simp [factsI, Region.binds, Is] at hF
   have HI2 := Lib.hid hI; clear hI
   go_simp
   first | exact ⟨gb_refl _ _, HI2.out⟩ | exact HI2.out | exact ⟨HI2.out, trivial⟩
  refine val_cons ?_ (fun v20 => ?_)
  ·intro L vs w1 hvs hat hb hI hF; try simp [factsI, Region.binds, Is] at hF
   have HI2 := Lib.hid hI
   have h8 := hat.later 40 32 (by kernel_rfl)
   simp only [h8, cond_false] at hI
   have cX := hI.cell; have lX := hI.lt
   clear hI h8
   go_simp
   first | exact ⟨gb_refl _ _, HI2.out⟩ | exact HI2.out | exact ⟨HI2.out, trivial⟩
  refine val_cons ?_ (fun v21 => ?_)
  ·intro L vs w1 hvs hat hb hI hF; try simp [factsI, Region.binds, Is] at hF
   have HI2 := Lib.hid hI; clear hI
   go_simp
   first | exact ⟨gb_refl _ _, HI2.out⟩ | exact HI2.out | exact ⟨HI2.out, trivial⟩
  refine val_cons ?_ (fun v22 => ?_)
  ·intro L vs w1 hvs hat hb hI hF; try simp [factsI, Region.binds, Is] at hF
   have cD := (HBC.out.gb hb (by simp; omega)).cell; have lD := (HBC.out.gb hb (by simp; omega)).lt
   have HI2 := Lib.hid hI; clear hI
   go_simp
   first | exact ⟨gb_refl _ _, HI2.out⟩ | exact HI2.out | exact ⟨HI2.out, trivial⟩
  refine val_cons ?_ (fun v23 => ?_)
  ·intro L vs w1 hvs hat hb hI hF; try simp [factsI, Region.binds, Is] at hF
   have hm := HN0.out.2.2
   have hmm := (minI _ _).symm.trans hm
   have HI2 := Lib.hid hI; clear hI
   go_simp
   first | exact ⟨gb_refl _ _, HI2.out⟩ | exact HI2.out | exact ⟨HI2.out, trivial⟩
  refine val_cons ?_ (fun v24 => ?_)
  ·intro L vs w1 hvs hat hb hI hF; try simp [factsI, Region.binds, Is] at hF
   have HI2 := Lib.hid hI; clear hI
   go_simp
   first | exact ⟨gb_refl _ _, HI2.out⟩ | exact HI2.out | exact ⟨HI2.out, trivial⟩
  refine val_cons ?_ (fun v25 => ?_)
  ·intro L vs w1 hvs hat hb hI hF; try simp [factsI, Region.binds, Is] at hF
   have HI2 := Lib.hid hI; clear hI
   go_simp
   first | exact ⟨gb_refl _ _, HI2.out⟩ | exact HI2.out | exact ⟨HI2.out, trivial⟩
  refine val_cons ?_ (fun v26 => ?_)
  ·intro L vs w1 hvs hat hb hI hF; try simp [factsI, Region.binds, Is] at hF
   have h8 : L 26 = false := hat.self
   simp only [h8, cond_false] at hI
   have lX := hI.lt; have fX := hI.free 0; have eX := hI.cell 0
   have HI2 := Lib.hid hI; clear hI h8
   go_simp
   refine ⟨gb_set (gb_refl _ _) _ rfl _, ?_, trivial⟩
   have := HI2.out.set 0 (.int .i64 n1)
   simpa using this
  refine val_cons ?_ (fun v27 => ?_)
  ·intro L vs w1 hvs hat hb hI hF; try simp [factsI, Region.binds, Is] at hF
   have HI2 := Lib.hid hI; clear hI
   go_simp
   first | exact ⟨gb_refl _ _, HI2.out⟩ | exact HI2.out | exact ⟨HI2.out, trivial⟩
  refine val_cons ?_ (fun v28 => ?_)
  ·intro L vs w1 hvs hat hb hI hF; try simp [factsI, Region.binds, Is] at hF
   have HI2 := Lib.hid hI; clear hI
   go_simp
   first | exact ⟨gb_refl _ _, HI2.out⟩ | exact HI2.out | exact ⟨HI2.out, trivial⟩
  refine val_cons ?_ (fun v29 => ?_)
  ·intro L vs w1 hvs hat hb hI hF; try simp [factsI, Region.binds, Is] at hF
   have h8 : L 29 = false := hat.self
   simp only [h8, cond_false] at hI
   have lX := hI.lt; have fX := hI.free 1; have eX := hI.cell 1
   have HI2 := Lib.hid hI; clear hI h8
   go_simp
   refine ⟨gb_set (gb_refl _ _) _ rfl _, ?_, trivial⟩
   have := HI2.out.set 1 (.int .i64 n2)
   simpa using this
  refine val_cons ?_ (fun v30 => ?_)
  ·intro L vs w1 hvs hat hb hI hF; try simp [factsI, Region.binds, Is] at hF
   have HI2 := Lib.hid hI; clear hI
   go_simp
   first | exact ⟨gb_refl _ _, HI2.out⟩ | exact HI2.out | exact ⟨HI2.out, trivial⟩
  refine val_cons ?_ (fun v31 => ?_)
  ·intro L vs w1 hvs hat hb hI hF; try simp [factsI, Region.binds, Is] at hF
   have HI2 := Lib.hid hI; clear hI
   go_simp
   first | exact ⟨gb_refl _ _, HI2.out⟩ | exact HI2.out | exact ⟨HI2.out, trivial⟩
  refine val_cons ?_ (fun v32 => ?_)
  ·intro L vs w1 hvs hat hb hI hF; try simp [factsI, Region.binds, Is] at hF
   have h8 : L 32 = false := hat.self
   simp only [h8, cond_false] at hI
   have lX := hI.lt; have fX := hI.free 2; have eX := hI.cell 2
   have HI2 := Lib.hid hI; clear hI h8
   go_simp
   refine ⟨gb_set (gb_refl _ _) _ rfl _, ?_, trivial⟩
   have := HI2.out.set 2 (.int .i64 n3)
   simpa using this
  refine val_nil ?_
  intro vs w1 hvs hb hI hF
  simp [Is, Nat.forall_lt_succ_right] at hF
  have e0 := hF.1.1.1.1.1.1.1.1.1.1.1.1.1.1.1.1.1.1.1.1.1.1.1.1.1.1.1.1.1.1.1.1
  have e1 := hF.1.1.1.1.1.1.1.1.1.1.1.1.1.1.1.1.1.1.1.1.1.1.1.1.1.1.1.1.1.1.1.2
  have e2 := hF.1.1.1.1.1.1.1.1.1.1.1.1.1.1.1.1.1.1.1.1.1.1.1.1.1.1.1.1.1.1.2
  have e3 := hF.1.1.1.1.1.1.1.1.1.1.1.1.1.1.1.1.1.1.1.1.1.1.1.1.1.1.1.1.1.2
  have e4 := hF.1.1.1.1.1.1.1.1.1.1.1.1.1.1.1.1.1.1.1.1.1.1.1.1.1.1.1.1.2
  have e5 := hF.1.1.1.1.1.1.1.1.1.1.1.1.1.1.1.1.1.1.1.1.1.1.1.1.1.1.1.2
  have e6 := hF.1.1.1.1.1.1.1.1.1.1.1.1.1.1.1.1.1.1.1.1.1.1.1.1.1.1.2
  have e7 := hF.1.1.1.1.1.1.1.1.1.1.1.1.1.1.1.1.1.1.1.1.1.1.1.1.1.2
  have e8 := hF.1.1.1.1.1.1.1.1.1.1.1.1.1.1.1.1.1.1.1.1.1.1.1.1.2
  have e9 := hF.1.1.1.1.1.1.1.1.1.1.1.1.1.1.1.1.1.1.1.1.1.1.1.2
  have e10 := hF.1.1.1.1.1.1.1.1.1.1.1.1.1.1.1.1.1.1.1.1.1.1.2
  have e11 := hF.1.1.1.1.1.1.1.1.1.1.1.1.1.1.1.1.1.1.1.1.1.2
  have e12 := hF.1.1.1.1.1.1.1.1.1.1.1.1.1.1.1.1.1.1.1.1.2
  have e13 := hF.1.1.1.1.1.1.1.1.1.1.1.1.1.1.1.1.1.1.1.2
  have e14 := hF.1.1.1.1.1.1.1.1.1.1.1.1.1.1.1.1.1.1.2
  have e15 := hF.1.1.1.1.1.1.1.1.1.1.1.1.1.1.1.1.1.2
  have e16 := hF.1.1.1.1.1.1.1.1.1.1.1.1.1.1.1.1.2
  have e17 := hF.1.1.1.1.1.1.1.1.1.1.1.1.1.1.1.2
  have e18 := hF.1.1.1.1.1.1.1.1.1.1.1.1.1.1.2
  have e19 := hF.1.1.1.1.1.1.1.1.1.1.1.1.1.2
  have e20 := hF.1.1.1.1.1.1.1.1.1.1.1.1.2
  have e21 := hF.1.1.1.1.1.1.1.1.1.1.1.2
  have e22 := hF.1.1.1.1.1.1.1.1.1.1.2
  have e23 := hF.1.1.1.1.1.1.1.1.1.2
  have e24 := hF.1.1.1.1.1.1.1.1.2
  have e25 := hF.1.1.1.1.1.1.1.2
  have e26 := hF.1.1.1.1.1.1.2
  have e27 := hF.1.1.1.1.1.2
  have e28 := hF.1.1.1.1.2
  have e29 := hF.1.1.1.2
  have e30 := hF.1.1.2
  have e31 := hF.1.2
  have e32 := hF.2
  clear hF
  simp only [Act.put, List.setIfInBounds_toArray, List.set_cons_succ, List.set_cons_zero, e0, e1, e2, e3, e4, e5, e6, e7, e8, e9, e10, e11, e12, e13, e14, e15, e16, e17, e18, e19, e20, e21, e22, e23, e24, e25, e27, e28, e30, e31]
  clear e0 e1 e2 e3 e4 e5 e6 e7 e8 e9 e10 e11 e12 e13 e14 e15 e16 e17 e18 e19 e20 e21 e22 e23 e24 e25 e27 e28 e30 e31
  obtain ⟨wB, hwB⟩ : ∃ wB, wB = w1 := ⟨_, rfl⟩
  have HwB : Hid (Blk wB (w.heap.size + 1 + 1) #[.int .i64 n1, .int .i64 n2, .int .i64 n3, .int .i64 b1, .int .i64 b2, .int .i64 b3] 62) := Lib.hid (by rw [hwB]; exact hI)
  have HG : Hid (wA.grownBy wB (some (w.heap.size + 1 + 1))) := Lib.hid (by rw [hwB]; exact hb)
  rw [← hwB]
  clear hb hI hwB
  gi_wp2_with fail
  refine wpIn_region_val (GbN (w.heap.size + 1 + 1)) (fun L vs W => Blk W (w.heap.size + 1 + 1) #[.int .i64 n1, .int .i64 n2, .int .i64 n3, .int .i64 (bif L 26 then m1 else b1), .int .i64 (bif L 29 then m2 else b2), .int .i64 (bif L 32 then m3 else b3)] 62) [Is (.pointer (some ⟨w.heap.size + 1 + 1, 3, none⟩)), Is (.pointer (some ⟨w.heap.size + 1 + 1, 3, none⟩)), Is (.pointer (some ⟨w.heap.size + 1 + 1, 3, none⟩)), Is (.pointer (some ⟨w.heap.size + 1 + 1, 3, none⟩)), Is (.pointer (some ⟨w.heap.size + 1 + 1, 3, none⟩)), Is (.pointer (some ⟨w.heap.size + 1 + 1, 3, none⟩)), Is (.int .i64 b1), Is (.pointer (some ⟨B8, 0, none⟩)), Is (.int .i64 x), Is (.int .i64 m1), Is (.pointer (some ⟨w.heap.size + 1 + 1, 3, none⟩)), Is (.pointer (some ⟨w.heap.size + 1 + 1, 3, none⟩)), Is (.pointer (some ⟨w.heap.size + 1 + 1, 4, none⟩)), Is (.int .i64 b2), Is (.pointer (some ⟨B8, 1, none⟩)), Is (.int .i64 y), Is (.int .i64 m2), Is (.pointer (some ⟨w.heap.size + 1 + 1, 3, none⟩)), Is (.pointer (some ⟨w.heap.size + 1 + 1, 3, none⟩)), Is (.pointer (some ⟨w.heap.size + 1 + 1, 5, none⟩)), Is (.int .i64 b3), Is (.pointer (some ⟨B8, 2, none⟩)), Is (.int .i64 z), Is (.int .i64 m3), Is (.pointer (some ⟨w.heap.size + 1 + 1, 3, none⟩)), Is (.pointer (some ⟨w.heap.size + 1 + 1, 3, none⟩)), AnyV, Is (.pointer (some ⟨w.heap.size + 1 + 1, 3, none⟩)), Is (.pointer (some ⟨w.heap.size + 1 + 1, 4, none⟩)), AnyV, Is (.pointer (some ⟨w.heap.size + 1 + 1, 3, none⟩)), Is (.pointer (some ⟨w.heap.size + 1 + 1, 5, none⟩)), AnyV] (by kernel_rfl) (by kernel_rfl) (by kernel_rfl) rfl (fun W => gb_refl W _) (GbN.trans (w.heap.size + 1 + 1)) (stable_mem ⟨fun _ _ _ h _ => h, fun _ _ _ h _ => h, fun _ _ _ h _ => h, fun _ _ _ h _ => h, fun _ _ _ h _ => h, fun _ _ _ h _ => h, fun _ _ _ h _ => h, fun _ _ _ h _ => h, fun _ _ _ h _ => h, fun _ _ _ h _ => h, fun _ _ _ h _ => h, fun _ _ _ h _ => h, fun _ _ _ h _ => h, fun _ _ _ h _ => h, fun _ _ _ h _ => h, fun _ _ _ h _ => h, fun _ _ _ h _ => h, fun _ _ _ h _ => h, fun _ _ _ h _ => h, fun _ _ _ h _ => h, fun _ _ _ h _ => h, fun _ _ _ h _ => h, fun _ _ _ h _ => h, fun _ _ _ h _ => h, fun _ _ _ h _ => h, fun _ _ _ h _ => h, fun _ _ _ h _ => h, fun _ _ _ h _ => h, fun _ _ _ h _ => h, fun _ _ _ h _ => h, fun _ _ _ h _ => h, fun _ _ _ h _ => h, fun _ _ _ h _ => h, trivial⟩) wB (gb_drew (gb_refl _ _)) (HwB.out) ?_
  refine val_cons ?_ (fun v0 => ?_)
  ·intro L vs w1 hvs hat hb hI hF; try simp [factsI, Region.binds, Is] at hF
   have HI2 := Lib.hid hI; clear hI
   go_simp
   first | exact ⟨gb_refl _ _, HI2.out⟩ | exact HI2.out | exact ⟨HI2.out, trivial⟩
  refine val_cons ?_ (fun v1 => ?_)
  ·intro L vs w1 hvs hat hb hI hF; try simp [factsI, Region.binds, Is] at hF
   have HI2 := Lib.hid hI; clear hI
   go_simp
   first | exact ⟨gb_refl _ _, HI2.out⟩ | exact HI2.out | exact ⟨HI2.out, trivial⟩
  refine val_cons ?_ (fun v2 => ?_)
  ·intro L vs w1 hvs hat hb hI hF; try simp [factsI, Region.binds, Is] at hF
   have HI2 := Lib.hid hI; clear hI
   go_simp
   first | exact ⟨gb_refl _ _, HI2.out⟩ | exact HI2.out | exact ⟨HI2.out, trivial⟩
  refine val_cons ?_ (fun v3 => ?_)
  ·intro L vs w1 hvs hat hb hI hF; try simp [factsI, Region.binds, Is] at hF
   have HI2 := Lib.hid hI; clear hI
   go_simp
   first | exact ⟨gb_refl _ _, HI2.out⟩ | exact HI2.out | exact ⟨HI2.out, trivial⟩
  refine val_cons ?_ (fun v4 => ?_)
  ·intro L vs w1 hvs hat hb hI hF; try simp [factsI, Region.binds, Is] at hF
   have HI2 := Lib.hid hI; clear hI
   go_simp
   first | exact ⟨gb_refl _ _, HI2.out⟩ | exact HI2.out | exact ⟨HI2.out, trivial⟩
  refine val_cons ?_ (fun v5 => ?_)
  ·intro L vs w1 hvs hat hb hI hF; try simp [factsI, Region.binds, Is] at hF
   have HI2 := Lib.hid hI; clear hI
   go_simp
   first | exact ⟨gb_refl _ _, HI2.out⟩ | exact HI2.out | exact ⟨HI2.out, trivial⟩
  refine val_cons ?_ (fun v6 => ?_)
  ·intro L vs w1 hvs hat hb hI hF; try simp [factsI, Region.binds, Is] at hF
   have HI2 := Lib.hid hI
   have h8 := hat.later 40 26 (by kernel_rfl)
   simp only [h8, cond_false] at hI
   have cX := hI.cell; have lX := hI.lt
   clear hI h8
   go_simp
   first | exact ⟨gb_refl _ _, HI2.out⟩ | exact HI2.out | exact ⟨HI2.out, trivial⟩
  refine val_cons ?_ (fun v7 => ?_)
  ·intro L vs w1 hvs hat hb hI hF; try simp [factsI, Region.binds, Is] at hF
   have HI2 := Lib.hid hI; clear hI
   go_simp
   first | exact ⟨gb_refl _ _, HI2.out⟩ | exact HI2.out | exact ⟨HI2.out, trivial⟩
  refine val_cons ?_ (fun v8 => ?_)
  ·intro L vs w1 hvs hat hb hI hF; try simp [factsI, Region.binds, Is] at hF
   have cD := (HBC.out.gb (HG.out.trans hb) (by simp; omega)).cell; have lD := (HBC.out.gb (HG.out.trans hb) (by simp; omega)).lt
   have HI2 := Lib.hid hI; clear hI
   go_simp
   first | exact ⟨gb_refl _ _, HI2.out⟩ | exact HI2.out | exact ⟨HI2.out, trivial⟩
  refine val_cons ?_ (fun v9 => ?_)
  ·intro L vs w1 hvs hat hb hI hF; try simp [factsI, Region.binds, Is] at hF
   have hm := HN3.out.1
   have hmm := (maxI _ _).symm.trans hm
   have HI2 := Lib.hid hI; clear hI
   go_simp
   first | exact ⟨gb_refl _ _, HI2.out⟩ | exact HI2.out | exact ⟨HI2.out, trivial⟩
  refine val_cons ?_ (fun v10 => ?_)
  ·intro L vs w1 hvs hat hb hI hF; try simp [factsI, Region.binds, Is] at hF
   have HI2 := Lib.hid hI; clear hI
   go_simp
   first | exact ⟨gb_refl _ _, HI2.out⟩ | exact HI2.out | exact ⟨HI2.out, trivial⟩
  refine val_cons ?_ (fun v11 => ?_)
  ·intro L vs w1 hvs hat hb hI hF; try simp [factsI, Region.binds, Is] at hF
   have HI2 := Lib.hid hI; clear hI
   go_simp
   first | exact ⟨gb_refl _ _, HI2.out⟩ | exact HI2.out | exact ⟨HI2.out, trivial⟩
  refine val_cons ?_ (fun v12 => ?_)
  ·intro L vs w1 hvs hat hb hI hF; try simp [factsI, Region.binds, Is] at hF
   have HI2 := Lib.hid hI; clear hI
   go_simp
   first | exact ⟨gb_refl _ _, HI2.out⟩ | exact HI2.out | exact ⟨HI2.out, trivial⟩
  refine val_cons ?_ (fun v13 => ?_)
  ·intro L vs w1 hvs hat hb hI hF; try simp [factsI, Region.binds, Is] at hF
   have HI2 := Lib.hid hI
   have h8 := hat.later 40 29 (by kernel_rfl)
   simp only [h8, cond_false] at hI
   have cX := hI.cell; have lX := hI.lt
   clear hI h8
   go_simp
   first | exact ⟨gb_refl _ _, HI2.out⟩ | exact HI2.out | exact ⟨HI2.out, trivial⟩
  refine val_cons ?_ (fun v14 => ?_)
  ·intro L vs w1 hvs hat hb hI hF; try simp [factsI, Region.binds, Is] at hF
   have HI2 := Lib.hid hI; clear hI
   go_simp
   first | exact ⟨gb_refl _ _, HI2.out⟩ | exact HI2.out | exact ⟨HI2.out, trivial⟩
  refine val_cons ?_ (fun v15 => ?_)
  ·intro L vs w1 hvs hat hb hI hF; try simp [factsI, Region.binds, Is] at hF
   have cD := (HBC.out.gb (HG.out.trans hb) (by simp; omega)).cell; have lD := (HBC.out.gb (HG.out.trans hb) (by simp; omega)).lt
   have HI2 := Lib.hid hI; clear hI
   go_simp
   first | exact ⟨gb_refl _ _, HI2.out⟩ | exact HI2.out | exact ⟨HI2.out, trivial⟩
  refine val_cons ?_ (fun v16 => ?_)
  ·intro L vs w1 hvs hat hb hI hF; try simp [factsI, Region.binds, Is] at hF
   have hm := HN3.out.2.1
   have hmm := (maxI _ _).symm.trans hm
   have HI2 := Lib.hid hI; clear hI
   go_simp
   first | exact ⟨gb_refl _ _, HI2.out⟩ | exact HI2.out | exact ⟨HI2.out, trivial⟩
  refine val_cons ?_ (fun v17 => ?_)
  ·intro L vs w1 hvs hat hb hI hF; try simp [factsI, Region.binds, Is] at hF
   have HI2 := Lib.hid hI; clear hI
   go_simp
   first | exact ⟨gb_refl _ _, HI2.out⟩ | exact HI2.out | exact ⟨HI2.out, trivial⟩
  refine val_cons ?_ (fun v18 => ?_)
  ·intro L vs w1 hvs hat hb hI hF; try simp [factsI, Region.binds, Is] at hF
   have HI2 := Lib.hid hI; clear hI
   go_simp
   first | exact ⟨gb_refl _ _, HI2.out⟩ | exact HI2.out | exact ⟨HI2.out, trivial⟩
  refine val_cons ?_ (fun v19 => ?_)
  ·intro L vs w1 hvs hat hb hI hF; try simp [factsI, Region.binds, Is] at hF
   have HI2 := Lib.hid hI; clear hI
   go_simp
   first | exact ⟨gb_refl _ _, HI2.out⟩ | exact HI2.out | exact ⟨HI2.out, trivial⟩
  refine val_cons ?_ (fun v20 => ?_)
  ·intro L vs w1 hvs hat hb hI hF; try simp [factsI, Region.binds, Is] at hF
   have HI2 := Lib.hid hI
   have h8 := hat.later 40 32 (by kernel_rfl)
   simp only [h8, cond_false] at hI
   have cX := hI.cell; have lX := hI.lt
   clear hI h8
   go_simp
   first | exact ⟨gb_refl _ _, HI2.out⟩ | exact HI2.out | exact ⟨HI2.out, trivial⟩
  refine val_cons ?_ (fun v21 => ?_)
  ·intro L vs w1 hvs hat hb hI hF; try simp [factsI, Region.binds, Is] at hF
   have HI2 := Lib.hid hI; clear hI
   go_simp
   first | exact ⟨gb_refl _ _, HI2.out⟩ | exact HI2.out | exact ⟨HI2.out, trivial⟩
  refine val_cons ?_ (fun v22 => ?_)
  ·intro L vs w1 hvs hat hb hI hF; try simp [factsI, Region.binds, Is] at hF
   have cD := (HBC.out.gb (HG.out.trans hb) (by simp; omega)).cell; have lD := (HBC.out.gb (HG.out.trans hb) (by simp; omega)).lt
   have HI2 := Lib.hid hI; clear hI
   go_simp
   first | exact ⟨gb_refl _ _, HI2.out⟩ | exact HI2.out | exact ⟨HI2.out, trivial⟩
  refine val_cons ?_ (fun v23 => ?_)
  ·intro L vs w1 hvs hat hb hI hF; try simp [factsI, Region.binds, Is] at hF
   have hm := HN3.out.2.2
   have hmm := (maxI _ _).symm.trans hm
   have HI2 := Lib.hid hI; clear hI
   go_simp
   first | exact ⟨gb_refl _ _, HI2.out⟩ | exact HI2.out | exact ⟨HI2.out, trivial⟩
  refine val_cons ?_ (fun v24 => ?_)
  ·intro L vs w1 hvs hat hb hI hF; try simp [factsI, Region.binds, Is] at hF
   have HI2 := Lib.hid hI; clear hI
   go_simp
   first | exact ⟨gb_refl _ _, HI2.out⟩ | exact HI2.out | exact ⟨HI2.out, trivial⟩
  refine val_cons ?_ (fun v25 => ?_)
  ·intro L vs w1 hvs hat hb hI hF; try simp [factsI, Region.binds, Is] at hF
   have HI2 := Lib.hid hI; clear hI
   go_simp
   first | exact ⟨gb_refl _ _, HI2.out⟩ | exact HI2.out | exact ⟨HI2.out, trivial⟩
  refine val_cons ?_ (fun v26 => ?_)
  ·intro L vs w1 hvs hat hb hI hF; try simp [factsI, Region.binds, Is] at hF
   have h8 : L 26 = false := hat.self
   simp only [h8, cond_false] at hI
   have lX := hI.lt; have fX := hI.free 3; have eX := hI.cell 3
   have HI2 := Lib.hid hI; clear hI h8
   go_simp
   refine ⟨gb_set (gb_refl _ _) _ rfl _, ?_, trivial⟩
   have := HI2.out.set 3 (.int .i64 m1)
   simpa using this
  refine val_cons ?_ (fun v27 => ?_)
  ·intro L vs w1 hvs hat hb hI hF; try simp [factsI, Region.binds, Is] at hF
   have HI2 := Lib.hid hI; clear hI
   go_simp
   first | exact ⟨gb_refl _ _, HI2.out⟩ | exact HI2.out | exact ⟨HI2.out, trivial⟩
  refine val_cons ?_ (fun v28 => ?_)
  ·intro L vs w1 hvs hat hb hI hF; try simp [factsI, Region.binds, Is] at hF
   have HI2 := Lib.hid hI; clear hI
   go_simp
   first | exact ⟨gb_refl _ _, HI2.out⟩ | exact HI2.out | exact ⟨HI2.out, trivial⟩
  refine val_cons ?_ (fun v29 => ?_)
  ·intro L vs w1 hvs hat hb hI hF; try simp [factsI, Region.binds, Is] at hF
   have h8 : L 29 = false := hat.self
   simp only [h8, cond_false] at hI
   have lX := hI.lt; have fX := hI.free 4; have eX := hI.cell 4
   have HI2 := Lib.hid hI; clear hI h8
   go_simp
   refine ⟨gb_set (gb_refl _ _) _ rfl _, ?_, trivial⟩
   have := HI2.out.set 4 (.int .i64 m2)
   simpa using this
  refine val_cons ?_ (fun v30 => ?_)
  ·intro L vs w1 hvs hat hb hI hF; try simp [factsI, Region.binds, Is] at hF
   have HI2 := Lib.hid hI; clear hI
   go_simp
   first | exact ⟨gb_refl _ _, HI2.out⟩ | exact HI2.out | exact ⟨HI2.out, trivial⟩
  refine val_cons ?_ (fun v31 => ?_)
  ·intro L vs w1 hvs hat hb hI hF; try simp [factsI, Region.binds, Is] at hF
   have HI2 := Lib.hid hI; clear hI
   go_simp
   first | exact ⟨gb_refl _ _, HI2.out⟩ | exact HI2.out | exact ⟨HI2.out, trivial⟩
  refine val_cons ?_ (fun v32 => ?_)
  ·intro L vs w1 hvs hat hb hI hF; try simp [factsI, Region.binds, Is] at hF
   have h8 : L 32 = false := hat.self
   simp only [h8, cond_false] at hI
   have lX := hI.lt; have fX := hI.free 5; have eX := hI.cell 5
   have HI2 := Lib.hid hI; clear hI h8
   go_simp
   refine ⟨gb_set (gb_refl _ _) _ rfl _, ?_, trivial⟩
   have := HI2.out.set 5 (.int .i64 m3)
   simpa using this
  refine val_nil ?_
  intro vs w1 hvs hb hI hF
  simp [Is, Nat.forall_lt_succ_right] at hF
  have e0 := hF.1.1.1.1.1.1.1.1.1.1.1.1.1.1.1.1.1.1.1.1.1.1.1.1.1.1.1.1.1.1.1.1
  have e1 := hF.1.1.1.1.1.1.1.1.1.1.1.1.1.1.1.1.1.1.1.1.1.1.1.1.1.1.1.1.1.1.1.2
  have e2 := hF.1.1.1.1.1.1.1.1.1.1.1.1.1.1.1.1.1.1.1.1.1.1.1.1.1.1.1.1.1.1.2
  have e3 := hF.1.1.1.1.1.1.1.1.1.1.1.1.1.1.1.1.1.1.1.1.1.1.1.1.1.1.1.1.1.2
  have e4 := hF.1.1.1.1.1.1.1.1.1.1.1.1.1.1.1.1.1.1.1.1.1.1.1.1.1.1.1.1.2
  have e5 := hF.1.1.1.1.1.1.1.1.1.1.1.1.1.1.1.1.1.1.1.1.1.1.1.1.1.1.1.2
  have e6 := hF.1.1.1.1.1.1.1.1.1.1.1.1.1.1.1.1.1.1.1.1.1.1.1.1.1.1.2
  have e7 := hF.1.1.1.1.1.1.1.1.1.1.1.1.1.1.1.1.1.1.1.1.1.1.1.1.1.2
  have e8 := hF.1.1.1.1.1.1.1.1.1.1.1.1.1.1.1.1.1.1.1.1.1.1.1.1.2
  have e9 := hF.1.1.1.1.1.1.1.1.1.1.1.1.1.1.1.1.1.1.1.1.1.1.1.2
  have e10 := hF.1.1.1.1.1.1.1.1.1.1.1.1.1.1.1.1.1.1.1.1.1.1.2
  have e11 := hF.1.1.1.1.1.1.1.1.1.1.1.1.1.1.1.1.1.1.1.1.1.2
  have e12 := hF.1.1.1.1.1.1.1.1.1.1.1.1.1.1.1.1.1.1.1.1.2
  have e13 := hF.1.1.1.1.1.1.1.1.1.1.1.1.1.1.1.1.1.1.1.2
  have e14 := hF.1.1.1.1.1.1.1.1.1.1.1.1.1.1.1.1.1.1.2
  have e15 := hF.1.1.1.1.1.1.1.1.1.1.1.1.1.1.1.1.1.2
  have e16 := hF.1.1.1.1.1.1.1.1.1.1.1.1.1.1.1.1.2
  have e17 := hF.1.1.1.1.1.1.1.1.1.1.1.1.1.1.1.2
  have e18 := hF.1.1.1.1.1.1.1.1.1.1.1.1.1.1.2
  have e19 := hF.1.1.1.1.1.1.1.1.1.1.1.1.1.2
  have e20 := hF.1.1.1.1.1.1.1.1.1.1.1.1.2
  have e21 := hF.1.1.1.1.1.1.1.1.1.1.1.2
  have e22 := hF.1.1.1.1.1.1.1.1.1.1.2
  have e23 := hF.1.1.1.1.1.1.1.1.1.2
  have e24 := hF.1.1.1.1.1.1.1.1.2
  have e25 := hF.1.1.1.1.1.1.1.2
  have e26 := hF.1.1.1.1.1.1.2
  have e27 := hF.1.1.1.1.1.2
  have e28 := hF.1.1.1.1.2
  have e29 := hF.1.1.1.2
  have e30 := hF.1.1.2
  have e31 := hF.1.2
  have e32 := hF.2
  clear hF
  simp only [Act.put, List.setIfInBounds_toArray, List.set_cons_succ, List.set_cons_zero, e0, e1, e2, e3, e4, e5, e6, e7, e8, e9, e10, e11, e12, e13, e14, e15, e16, e17, e18, e19, e20, e21, e22, e23, e24, e25, e27, e28, e30, e31]
  clear e0 e1 e2 e3 e4 e5 e6 e7 e8 e9 e10 e11 e12 e13 e14 e15 e16 e17 e18 e19 e20 e21 e22 e23 e24 e25 e27 e28 e30 e31
  have hgW : wA.grownBy w1 (some (w.heap.size + 1 + 1)) := HG.out.trans hb
  have hH3' := H3.out.2.1
  have HwA2 := HwA.out
  refine ⟨.gb hgW (fun r e => by cases e; rfl), ?_⟩
  show BndI w s (loG (pre ++ [⟨(x, y, z), hg⟩])) (hiG (pre ++ [⟨(x, y, z), hg⟩])) w1
  rw [loG_snoc, hiG_snoc, ← HL.out.1, ← HL.out.2, ← HNN.out.1, ← HNN.out.2]
  exact ⟨HwA2.2.1.grown hgW HwA2.2.1.size (fun k e => by cases e; omega), HwA2.2.2.gb hgW (by simp), hI⟩
 case done =>
  rintro D xs W hD hS hM hK
  have hH3 := H3.out.2.1
  have elo : loG xs = loS s := by unfold loG loS; rw [← hS]
  have ehi : hiG xs = hiS s := by unfold hiG hiS; rw [← hS]
  rw [elo, ehi] at hM
  obtain ⟨lo, hlo⟩ : ∃ Y, Y = loS s := ⟨_, rfl⟩
  obtain ⟨hi, hhi⟩ : ∃ Y, Y = hiS s := ⟨_, rfl⟩
  rw [← hlo, ← hhi] at hM
  have HQ : Hid (RV = .tuple #[boxV lo hi, .bool true]) := Lib.hid (by rw [HRV.out, hlo, hhi])
  clear HRV
  have lD := (Array.getElem?_eq_some_iff.1 hK).1
  obtain ⟨hbw, b1, b2⟩ := hM
  obtain ⟨l1, l2, l3⟩ := lo
  obtain ⟨u1, u2, u3⟩ := hi
  have c2 := b2.cell; have l2' := b2.lt
  have r1 := b1.row; have l1' := b1.lt
  have HZ := Lib.hid (And.intro hbw (And.intro b1 (And.intro b2 (And.intro hK hD))))
  rw [← b1.rw]
  clear b1 b2 hK hD hlo hhi elo ehi hbw hS
  gi_wp2_with fail
  go_wp2_with fail
  have hne1 : w.heap.size + 1 ≠ D := by have := HZ.out.2.2.2.2; omega
  obtain ⟨W2, hW2⟩ : ∃ W2, W2 = W.setRow (w.heap.size + 1) (boxR (l1, l2, l3) (u1, u2, u3)) := ⟨_, rfl⟩
  have hK2 : W2.heap[D]? = some (.deferred (some [])) := by rw [hW2]; exact (setRow_other _ _ _ _ hne1.symm).trans HZ.out.2.2.2.1
  have B1 : Blk W2 (w.heap.size + 1) (boxR (l1, l2, l3) (u1, u2, u3)) 62 := by rw [hW2]; exact HZ.out.2.1.rowS _
  have hbW2 : Below w.heap.size w W2 := by rw [hW2]; exact bel_row HZ.out.1 (by omega) _
  rw [← hW2]
  refine ⟨by simp, .inl ⟨_, _, rfl, run_takeDeferred hK2, ?_⟩⟩
  have hgP := grownBy_putObj' W2 D (.deferred none)
  have c1P := (B1.gb hgP (by simp; omega)).cell
  exact ⟨.tuple #[boxV (l1, l2, l3) (u1, u2, u3), .bool true], by simp [results, Tryz.results65, go_sem, c1P], by rw [HQ.out], hbW2.grown hgP hbW2.size (fun k e => by cases e; have := HZ.out.2.2.2.2; omega)⟩
 case stop =>
  rintro D c pre W hD hS hF hK
  exact hF.elim
end Go.Proofs.YtkfimbonmnoglaaGreatDoor
end
