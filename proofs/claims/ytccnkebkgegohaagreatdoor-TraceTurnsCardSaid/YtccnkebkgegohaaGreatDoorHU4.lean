import Derived.Test.YtccnkebkgegohaaGreatDoorHU1
/-
  Given contracts of functions of the program, and laws for them, one behind the other.
-/
set_option linter.unusedVariables false
set_option linter.unusedSimpArgs false
set_option linter.unusedSectionVars false
section
namespace Go.Proofs.YtccnkebkgegohaaGreatDoor
open Go.RowKit Go.Rel
set_option maxRecDepth 100000
/-! Last -/
abbrev oneL (v : Value) : List Value := [v]
theorem one_cell {w : World} {b off : Nat} {f : Ac → Value} {l : List Ac} (h : Cells w b off 1 (l.map fun a => oneL (f a))) {k : Nat} {x : Ac} (hx : l[k]? = some x) : w.cell? ⟨b, off + k, none⟩ = some (f x) := by
 have := h.2 k 0 (f x) (by simp [hx])
 simpa using this
theorem lastU_drop {l : List Sol} {m : List Ac} {i : Nat} {x : Ac} (hx : m[i]? = some x) : lastU l m i m.length = (m.drop (i + 1)).all fun y => apartB l x y := by
 unfold lastU
 have h1 : atN m i = x := by unfold atN; rw [List.getD_eq_getElem?_getD, hx]; rfl
 rw [h1, Bool.eq_iff_iff, List.all_eq_true, List.all_eq_true]
 constructor
 ·intro h y hy
  obtain ⟨t, ht⟩ := List.mem_iff_getElem?.1 hy
  rw [List.getElem?_drop] at ht
  have hl := (List.getElem?_eq_some_iff.1 ht).1
  have := h (i + 1 + t) (List.mem_range.2 hl)
  have e : atN m (i + 1 + t) = y := by unfold atN; rw [List.getD_eq_getElem?_getD, ht]; rfl
  have d : decide (i + 1 + t ≤ i) = false := by simp; omega
  rw [e, d, Bool.false_or] at this
  exact this
 ·intro h t ht
  have hl := List.mem_range.1 ht
  by_cases hle : t ≤ i
  ·simp [hle]
  ·have hy : m[t]? = some m[t] := by simp [hl]
   have e : atN m t = m[t] := by unfold atN; rw [List.getD_eq_getElem?_getD, hy]; rfl
   have := h m[t] (List.mem_iff_getElem?.2 ⟨t - (i + 1), by rw [List.getElem?_drop, show i + 1 + (t - (i + 1)) = t by omega]; exact hy⟩)
   rw [e, this]; simp
set_option maxHeartbeats 4000000 in
theorem last162 {bp : Nat} {blank : Sol} {v av : Value} {l : List Sol} {acts : List Ac} {s : Stn} (w : World) (HP : PastAt bp blank v av l acts s w) (bt bi : Nat) (hbt : w.cell? ⟨bt, 0, none⟩ = some (.pointer (some ⟨bp, 0, none⟩))) (i : Nat) (hbi : w.cell? ⟨bi, 0, none⟩ = some (.int .i64 i)) (x y : Ac) (hi' : acts[i]? = some x) :
  Calls Tryz.prog 162 #[deedV (made l y), .pointer (some ⟨bt, 0, none⟩), .pointer (some ⟨bi, 0, none⟩)] w fun e w' => e = .returned (.bool (!apartB l x y)) ∧ Below w.heap.size w w' := by
 have hi : i < acts.length := (List.getElem?_eq_some_iff.1 hi').1
 obtain ⟨g, c, hpast, hc, hm, hg, hd⟩ := HP.opn (by omega)
 have ci := hd i _ hi'
 have H := independent_spec (made l x) (made l y)
 have hr : Hid ((!apartB l x y) = meetsB (made l x).2.2 (made l y).2.2) := by
  show _ = _
  unfold apartB
  simp [made]
 generalize meetsB (made l x).2.2 (made l y).2.2 = r at H hr
 generalize deedV (made l x) = dx at ci H
 generalize deedV (made l y) = dy at H ⊢
 have HH := Lib.hid H; clear H
 clear hd hi' HP
 generalize acts.length = n at *
 have cp := hpast.cell
 have lp := hpast.lt
 have lbt : bt < w.heap.size := block_lt_of_cell hbt
 have lbi : bi < w.heap.size := block_lt_of_cell hbi
 clear hpast
 go_enter Tryz.func162, Tryz.ntmps162
 go_wp2_with fail
 refine wp_region_grow 10 [Is (.pointer (some ⟨bp, 0, none⟩)), Is (.pointer (some ⟨bp, 0, none⟩)), Is (.pointer (some ⟨bp, 10, none⟩)), Is (.slice (some ⟨g, 0, none⟩) n c), Is (.int .i64 i), Is (.pointer (some ⟨g, i, none⟩)), Is dx, Is dy, Is (.bool (!r)), Is (.bool r)] (by kernel_rfl) (by kernel_rfl) rfl ⟨fun _ _ _ h _ => h, fun _ _ _ h _ => h, fun _ _ _ h _ => h, fun _ _ _ h _ => h, fun _ _ _ h _ => h, fun _ _ _ h _ => h, fun _ _ _ h _ => h, fun _ _ _ h _ => h, fun _ _ _ h _ => h, fun _ _ _ h _ => h, trivial⟩ ?_
 simp only [List.take_succ_cons, List.take_zero, List.drop_succ_cons, List.drop_zero]
 iterate 8 (refine rel_cons ?_ (fun _ => ?_); · intro w1 hb hF; have hc := (Grows.cells hb).1; have hf := (Grows.cells hb).2; (try simp [facts, Is] at hF); go_simp; exact Grows.refl _)
 refine rel_cons ?_ (fun v8 => ?_)
 ·intro w1 hb hF; have hc := (Grows.cells hb).1; have hf := (Grows.cells hb).2; try simp [facts, Is] at hF
  go_simp
  refine (HH.out _).mono ?_
  rintro e w4 ⟨rfl, hb4⟩
  exact ⟨rfl, hb4⟩
 refine rel_cons ?_ (fun v9 => ?_)
 ·intro w1 hb hF; have hc := (Grows.cells hb).1; have hf := (Grows.cells hb).2; try simp [facts, Is] at hF
  go_simp
  exact Grows.refl _
 refine rel_nil ?_
 intro w1 hb hF
 simp [Is, Nat.forall_lt_succ_right] at hF
 simp only [Act.put, List.setIfInBounds_toArray, List.set_cons_succ, List.set_cons_zero, hF]
 clear hF
 go_wp2_with fail
 go_ret
 exact ⟨ret_bool hr.out.symm, hb⟩
set_option maxHeartbeats 2000000 in
theorem IndexFunc191 (v : Value) (f : Ac → Value) (l : List Ac) (c0 c1 : Value) (p : Ac → Bool) (w : World) (h : Sl w 1 v (l.map fun a => oneL (f a)))
  (hf : ∀ w', Below w.heap.size w w' → ∀ x ∈ l, Calls Tryz.prog 162 #[f x, c0, c1] w' fun e w'' => e = .returned (.bool (p x)) ∧ Below w'.heap.size w' w'') :
  Calls Tryz.prog 191 #[v, .func (.func 162) #[] #[c0, c1]] w fun e w' => e = .returned (.int .i64 (idx p l)) ∧ Below w.heap.size w w' := by
 rcases h.cases with ⟨hl, a, c, rfl, hm⟩ | ⟨b, off, c, rfl, hc, hm, hpos, hcs⟩
 ·have hl' : l = [] := by simpa using hl
  subst hl'
  clear hl
  go_enter Tryz.func191, Tryz.ntmps191
  go_wp2
  refine wp_loop_rounds 1 ?_
  rw [rounds_succ]
  go_wp2
  go_ret
  exact ⟨rfl, Below.refl _ _⟩
 ·rw [List.length_map] at hc hpos ⊢
  have H := Lib.hid hcs; clear hcs h
  have HF := Lib.hid hf; clear hf
  generalize hn : l.length = n at hc hpos ⊢
  have HN := Lib.hid hn; clear hn
  go_enter Tryz.func191, Tryz.ntmps191
  go_wp2_with fail
  go_loopw [8] (fun i wr => ∃ k : Nat, k ≤ n ∧ i = .int .i64 k ∧ Hid (∀ (j : Nat) (y : Ac), j < k → l[j]? = some y → p y = false) ∧ Below w.heap.size w wr) (fun i _ => n - (intOf i).toNat)
  case atStart => exact ⟨0, Nat.zero_le _, rfl, fun j y hj => by omega, Below.refl _ _⟩
  case round =>
   obtain ⟨k, hk, rfl, HP, hbel⟩ := hrel
   by_cases hlt : k < n
   ·have hx : l[k]? = some (l[k]'(by rw [HN.out]; exact hlt)) := by simp
    have c0 := one_cell (f := f) (H.out.mono hbel H.out.1) hx
    have hmem := List.mem_of_getElem? hx
    generalize l[k]'(by rw [HN.out]; exact hlt) = x at hx c0 hmem
    have HX := Lib.hid hx; clear hx
    have HM := Lib.hid hmem; clear hmem
    have hsz := hbel.size
    go_wp2_with fail
    refine (HF.out _ hbel x HM.out).mono ?_
    rintro e w2 ⟨rfl, hb2⟩
    have hB : Below w.heap.size w w2 := bel_trans hbel hb2
    clear hb2
    cases hp : p x with
    | true =>
     go_wp2_with fail
     go_ret
     exact ⟨ret_int (idx_found HX.out hp HP.out).symm, hB⟩
    | false =>
     go_wp2_with fail
     go_roundw
     case rel => exact ⟨k + 1, by omega, by go_num, fun j y hj hy => (by
      rcases Nat.lt_or_eq_of_le (Nat.le_of_lt_succ hj) with h | h
      ·exact HP.out j y h hy
      ·subst h; rw [HX.out] at hy; cases hy; exact hp), hB⟩
     case measure => simp [intOf]; omega
   ·go_wp2_with fail
    go_ret
    exact ⟨ret_int (idx_none (fun j y hy => HP.out j y (by have := (List.getElem?_eq_some_iff.1 hy).1; rw [HN.out] at this; omega) hy)).symm, hbel⟩
set_option maxHeartbeats 2000000 in
theorem ContainsFunc161 (v : Value) (f : Ac → Value) (l : List Ac) (c0 c1 : Value) (p : Ac → Bool) (w : World) (h : Sl w 1 v (l.map fun a => oneL (f a)))
  (hf : ∀ w', Below w.heap.size w w' → ∀ x ∈ l, Calls Tryz.prog 162 #[f x, c0, c1] w' fun e w'' => e = .returned (.bool (p x)) ∧ Below w'.heap.size w' w'') :
  Calls Tryz.prog 161 #[v, .func (.func 162) #[] #[c0, c1]] w fun e w' => e = .returned (.bool (l.any p)) ∧ Below w.heap.size w w' := by
 have hge := idx_ge p l
 have hany : Hid (l.any p = decide (0 ≤ idx p l)) := by
  show _ = _
  rw [Bool.eq_iff_iff, decide_eq_true_eq, idx_nonneg]
 have hidx := Lib.hid (IndexFunc191 v f l c0 c1 p w h hf)
 generalize idx p l = i at hge hany hidx
 clear hf h
 go_enter Tryz.func161, Tryz.ntmps161
 go_wp2_with fail
 refine hidx.out.mono ?_
 rintro e w1 ⟨rfl, hb⟩
 go_wp2_with fail
 go_ret
 refine ⟨?_, hb⟩
 rw [hany.out]; rfl
theorem flat_one (f : Ac → Value) : ∀ l : List Ac, (l.map fun a => oneL (f a)).flatten = l.map f
 | [] => rfl
 | x :: l => by simp [flat_one f l]
@[irreducible] def VOne (f : Ac → Value) (l : List Ac) (v : Value) (W : World) : Prop := Sl W 1 v (l.map fun a => oneL (f a))
theorem VOne.stab {f : Ac → Value} {l : List Ac} (v : Value) (W W' : World) (h : VOne f l v W) (g : Grows W W') : VOne f l v W' := by unfold VOne at *; exact h.mono g
theorem PastAt.deeds {bp : Nat} {blank : Sol} {v av : Value} {l : List Sol} {acts : List Ac} {s : Stn} {W : World} (H : PastAt bp blank v av l acts s W) : ∃ p c, Blk W bp (pastC blank v av (.slice p acts.length c) s.1 s.2) 113 ∧ Sl W 1 (.slice p acts.length c) (acts.map fun y => oneL (deedV (made l y))) ∧ acts.length ≤ c ∧ c ≤ 9223372036854775807 ∧ ∀ x, p = some x → x.spot = none := by
 obtain ⟨dv, h1, h2⟩ := H.past
 obtain ⟨p, c, rfl, hc, hM⟩ := own_shape' h2
 have hsp : ∀ x, p = some x → x.spot = none := by
  rintro x rfl
  rcases h2.2 with ⟨h, _⟩ | ⟨g, cap, cur, h, _⟩
  ·cases h
  ·injection h with h _ _
   injection h with h
   rw [h]
 refine ⟨p, c, h1, ?_, hc, hM, hsp⟩
 exact own_sl (fun r hr => by obtain ⟨i, _, rfl⟩ := List.mem_map.1 hr; rfl) (flat_one (fun y => deedV (made l y)) acts) (by rw [List.length_map]; exact h2)
set_option maxHeartbeats 4000000 in
theorem isLast115 {bp : Nat} {blank : Sol} {v av : Value} {l : List Sol} {acts : List Ac} {s : Stn} (w : World) (HP : PastAt bp blank v av l acts s w) (i : Nat) (hi : i < acts.length) :
  Calls Tryz.prog 115 #[.pointer (some ⟨bp, 0, none⟩), .int .i64 (i : Int)] w fun e w' => e = .returned (.bool (lastU l acts i acts.length)) ∧ Below w.heap.size w w' := by
 have hx : acts[i]? = some acts[i] := by simp [hi]
 generalize acts[i] = x at hx
 obtain ⟨p, c, hpast, hS, hc, hM, hsp⟩ := HP.deeds
 obtain ⟨r, hr⟩ : ∃ r, lastU l acts i acts.length = r := ⟨_, rfl⟩
 have hany : Hid ((acts.drop (i + 1)).any (fun y => !apartB l x y) = !r) := by
  show _ = _
  rw [← hr, lastU_drop hx, List.not_all_eq_any_not]
 have HX := Lib.hid hx
 have HPP := Lib.hid HP
 have HSl := Lib.hid hS
 rw [hr]
 clear hr hx HP hS
 generalize hn : acts.length = n at *
 have hn9 : (i : Int) + 1 ≤ n := by omega
 clear hn
 go_enter Tryz.func115, Tryz.ntmps115
 go_wp2_with fail
 have g2 : Blk ((w.alloc (.cells (#[.pointer (some ⟨bp, 0, none⟩)] : Array Value) 101)).alloc (.cells (#[.int .i64 (i : Int)] : Array Value) 3)) w.heap.size #[.pointer (some ⟨bp, 0, none⟩)] 101 := blk_by
 have g3 : Blk ((w.alloc (.cells (#[.pointer (some ⟨bp, 0, none⟩)] : Array Value) 101)).alloc (.cells (#[.int .i64 (i : Int)] : Array Value) 3)) (w.heap.size + 1) #[.int .i64 (i : Int)] 3 := blk_by
 have hB : Below w.heap.size w ((w.alloc (.cells (#[.pointer (some ⟨bp, 0, none⟩)] : Array Value) 101)).alloc (.cells (#[.int .i64 (i : Int)] : Array Value) 3)) := bel_by
 have hp2 : Blk ((w.alloc (.cells (#[.pointer (some ⟨bp, 0, none⟩)] : Array Value) 101)).alloc (.cells (#[.int .i64 (i : Int)] : Array Value) 3)) bp (pastC blank v av (.slice p n c) s.1 s.2) 113 := blk_by
 have cp := hp2.cell
 have lp := hp2.lt
 simp only [World.size_alloc] at lp
 clear hpast hp2
 refine wp_region_grow 10 [Is (.pointer (some ⟨bp, 0, none⟩)), Is (.pointer (some ⟨bp, 0, none⟩)), Is (.pointer (some ⟨bp, 10, none⟩)), Is (.slice p n c), Is (.int .i64 i), Is (.int .i64 (i + 1 : Int)), VOne (fun y => deedV (made l y)) (acts.drop (i + 1)), Is (.func (.func 162) #[] #[.pointer (some ⟨w.heap.size, 0, none⟩), .pointer (some ⟨w.heap.size + 1, 0, none⟩)]), Is (.bool (!r)), Is (.bool r)] (by kernel_rfl) (by kernel_rfl) rfl ⟨fun _ _ _ h _ => h, fun _ _ _ h _ => h, fun _ _ _ h _ => h, fun _ _ _ h _ => h, fun _ _ _ h _ => h, fun _ _ _ h _ => h, VOne.stab, fun _ _ _ h _ => h, fun _ _ _ h _ => h, fun _ _ _ h _ => h, trivial⟩ ?_
 simp only [List.take_succ_cons, List.take_zero, List.drop_succ_cons, List.drop_zero]
 iterate 5 (refine rel_cons ?_ (fun _ => ?_); · intro w1 hb hF; have hc := (Grows.cells hb).1; have hf := (Grows.cells hb).2; (try simp [facts, Is] at hF); go_simp; exact Grows.refl _)
 refine rel_cons ?_ (fun v5 => ?_)
 ·intro w1 hb hF; have hc := (Grows.cells hb).1; have hf := (Grows.cells hb).2; try simp [facts, Is] at hF
  have hw : IntKind.i64.wrap ((i : Int) + 1) = (i : Int) + 1 := IntWalk.i64_in _ (by omega)
  go_simp
  exact Grows.refl _
 refine rel_cons ?_ (fun v6 => ?_)
 ·intro w1 hb hF; have hc := (Grows.cells hb).1; have hf := (Grows.cells hb).2; try simp [facts, Is] at hF
  have hsl := Lib.hid (sl_dropn (HSl.out.mono (bel_trans hB hb)) (show i + 1 ≤ n by omega))
  have h0 : (0 : Int) ≤ (i : Int) + 1 := by omega
  go_simp
  refine ⟨Grows.refl _, ?_⟩
  unfold VOne
  have h1 := hsl.out
  rw [← List.map_drop] at h1
  unfold sliced at h1
  have e : (c - (i + 1) = 0) = (c = i + 1) := by rw [eq_iff_iff]; omega
  have e2 : (Option.map (fun x => ({ block := x.block, off := x.off + (i + 1) } : Addr)) p) = Option.map (fun x => x.add (i + 1)) p := by
   cases p with
   | none => rfl
   | some a =>
    obtain ⟨ab, ao, asp⟩ := a
    have := hsp _ rfl
    simp only at this
    subst this
    simp [Go.WideShapes.add_plain]
  rw [e2]
  simpa [e, Nat.mul_one] using h1
 refine rel_cons ?_ (fun v7 => ?_)
 ·intro w1 hb hF; have hc := (Grows.cells hb).1; have hf := (Grows.cells hb).2; try simp [facts, Is] at hF
  go_simp
  exact Grows.refl _
 refine rel_cons ?_ (fun v8 => ?_)
 ·intro w1 hb hF; have hc := (Grows.cells hb).1; have hf := (Grows.cells hb).2; try simp [facts, Is] at hF
  have h6 := hF.1
  have h7 := hF.2
  subst h7
  unfold VOne at h6
  have H6 := Lib.hid h6
  clear h6
  have hbw := bel_trans hB hb
  go_simp
  refine (ContainsFunc161 _ (fun y => deedV (made l y)) (acts.drop (i + 1)) _ _ (fun y => !apartB l x y) w1 H6.out (fun w' hw y hy => ?_)).mono ?_
  ·exact last162 w' (HPP.out.grow (bel_trans hbw hw)) _ _ (((g2.grow hb).grow hw).cell 0) i (((g3.grow hb).grow hw).cell 0) x y HX.out
  ·rintro e w4 ⟨rfl, hb4⟩
   exact ⟨by rw [hany.out], hb4⟩
 refine rel_cons ?_ (fun v9 => ?_)
 ·intro w1 hb hF; have hc := (Grows.cells hb).1; have hf := (Grows.cells hb).2; try simp [facts, Is] at hF
  go_simp
  exact Grows.refl _
 refine rel_nil ?_
 intro w1 hb hF
 simp [Is, Nat.forall_lt_succ_right] at hF
 have e0 := hF.1.1.1.1.1.1.1.1.1
 have e1 := hF.1.1.1.1.1.1.1.1.2
 have e2 := hF.1.1.1.1.1.1.1.2
 have e3 := hF.1.1.1.1.1.1.2
 have e4 := hF.1.1.1.1.1.2
 have e5 := hF.1.1.1.1.2
 have e6 := hF.1.1.1.2
 have e7 := hF.1.1.2
 have e8 := hF.1.2
 have e9 := hF.2
 clear hF
 simp only [Act.put, List.setIfInBounds_toArray, List.set_cons_succ, List.set_cons_zero, e0, e1, e2, e3, e4, e5, e7, e8, e9]
 clear e0 e1 e2 e3 e4 e5 e7 e8 e9
 have hbw := bel_trans hB hb
 clear e6 g2 g3 hB hb
 go_wp2_with fail
 refine bodyPost_ret (v := .bool r) (by simp [results, Tryz.results115, go_sem]) rfl ⟨rfl, hbw⟩
end Go.Proofs.YtccnkebkgegohaaGreatDoor
end
section
namespace Go.Proofs.YtccnkebkgegohaaGreatDoor
open Go.RowKit Go.Rel
set_option maxRecDepth 100000
end Go.Proofs.YtccnkebkgegohaaGreatDoor
end
section
namespace Go.Proofs.YtccnkebkgegohaaGreatDoor
open Go.RowKit Go.Rel
set_option maxRecDepth 100000
end Go.Proofs.YtccnkebkgegohaaGreatDoor
end
section
namespace Go.Proofs.YtccnkebkgegohaaGreatDoor
open Go.RowKit Go.Rel
set_option maxRecDepth 100000
end Go.Proofs.YtccnkebkgegohaaGreatDoor
end
section
namespace Go.Proofs.YtccnkebkgegohaaGreatDoor
open Go.RowKit Go.Rel
set_option maxRecDepth 100000
end Go.Proofs.YtccnkebkgegohaaGreatDoor
end
section
namespace Go.Proofs.YtccnkebkgegohaaGreatDoor
open Go.RowKit Go.Rel
set_option maxRecDepth 100000
/-! the law of orders -/
/-- a returned list of numbers, and an error -/
def IRes (L : List Int) (E : Int) (w : World) (e : Ending) (w' : World) : Prop := ∃ u, e = .returned (.tuple #[u, .int .i64 E]) ∧ SlI w' u L ∧ SlI w' u L ∧ Below w.heap.size w w'
set_option maxHeartbeats 4000000 in
theorem refLast_nil (b : Sol) (p q : Option Addr) (n c d : Nat) (l : List Sol) (m : List Ac) (w : World) (H : Hid (∀ w', Below w.heap.size w w' → Calls Tryz.prog 38 #[.agg #[.int .u64 (pl b 0), .int .u64 (pl b 1), .int .u64 (pl b 2), .int .u64 (pl b 3), .int .u64 (pl b 4), .int .u64 (pl b 5), .int .u64 (pl b 6), .int .u64 (pl b 7), .slice p n c, .slice q 0 d]] w' fun e w'' => e = .returned (.tuple #[.int .i64 0, .int .i64 0]) ∧ Below w'.heap.size w' w'')) :
  Calls Tryz.prog 48 #[.agg #[.int .u64 (pl b 0), .int .u64 (pl b 1), .int .u64 (pl b 2), .int .u64 (pl b 3), .int .u64 (pl b 4), .int .u64 (pl b 5), .int .u64 (pl b 6), .int .u64 (pl b 7), .slice p n c, .slice q 0 d]] w fun e w' => ∃ u, e = .returned (.tuple #[u, .int .i64 0]) ∧ SlI w' u (FI (fun i => lastU l m i 0) 0) ∧ Below w.heap.size w w' := by
 go_enter Tryz.func48, Tryz.ntmps48
 go_wp2_with fail
 refine (H.out _ bel_by).mono ?_
 rintro e w1 ⟨rfl, hb⟩
 have hB1 : Below w.heap.size w w1 := bel_trans bel_by hb
 have g0 : Blk w1 w.heap.size #[.int .u64 (pl b 0), .int .u64 (pl b 1), .int .u64 (pl b 2), .int .u64 (pl b 3), .int .u64 (pl b 4), .int .u64 (pl b 5), .int .u64 (pl b 6), .int .u64 (pl b 7), .slice p n c, .slice q 0 d] 30 := Blk.grow blk_by hb
 have c0 := g0.cell
 have l0 := g0.lt
 clear hb
 go_wp2_with fail
 refine wp_loop_rounds 1 ?_
 rw [rounds_succ]
 go_wp2_with fail
 refine bodyPost_ret (by simp [results, Tryz.results48, go_sem]) rfl ⟨.slice none 0 0, rfl, sl_niln w1, hB1⟩
theorem refLast_spec {b : Sol} {p q : Option Addr} {n c k d : Nat} {l : List Sol} {m : List Ac} {t : StB} (R : Runs b l m t) (hk : m.length = k) (hkd : k ≤ d) (hd : d ≤ 9223372036854775807) (w : World) (Hv : SlS w (.slice p n c) l) (Hav : SlA w (.slice q k d) m)
  (H : Hid (∀ w', Below w.heap.size w w' → Calls Tryz.prog 38 #[.agg #[.int .u64 (pl b 0), .int .u64 (pl b 1), .int .u64 (pl b 2), .int .u64 (pl b 3), .int .u64 (pl b 4), .int .u64 (pl b 5), .int .u64 (pl b 6), .int .u64 (pl b 7), .slice p n c, .slice q k d]] w' fun e w'' => e = .returned (.tuple #[.int .i64 0, .int .i64 0]) ∧ Below w'.heap.size w' w'')) :
  Calls Tryz.prog 48 #[.agg #[.int .u64 (pl b 0), .int .u64 (pl b 1), .int .u64 (pl b 2), .int .u64 (pl b 3), .int .u64 (pl b 4), .int .u64 (pl b 5), .int .u64 (pl b 6), .int .u64 (pl b 7), .slice p n c, .slice q k d]] w fun e w' => ∃ u, e = .returned (.tuple #[u, .int .i64 0]) ∧ SlI w' u (FI (fun i => lastU l m i k) k) ∧ Below w.heap.size w w' := by
 have h60 := R.len
 by_cases h0 : 0 < k
 ·have hx : m[0]? = some (m[0]'(by omega)) := by simp
  obtain ⟨ab, ao, rfl, hcs⟩ := acs_at Hav hx
  exact refLast_yes b p n c ab ao k d l m w hk (by omega) hkd hd hcs Hv R.fine.fit H
 ·have hk0 : k = 0 := by omega
  subst hk0
  exact refLast_nil b p q n c d l m w H
end Go.Proofs.YtccnkebkgegohaaGreatDoor
end
section
namespace Go.Proofs.YtccnkebkgegohaaGreatDoor
open Go.RowKit Go.Rel
set_option maxRecDepth 100000
/-! a list of acts without one of them, of the reference; whether a list of numbers has one -/
set_option maxHeartbeats 2000000 in
theorem Has120_spec (v : Value) (l : List Int) (z : Int) (w : World) (h : SlI w v l) :
  Calls Tryz.prog 120 #[v, .int .i64 z] w fun e w' => e = .returned (.bool (l.any fun y => y == z)) ∧ Below w.heap.size w w' := by
 rcases h.cases with ⟨hl, a, c, rfl, hm⟩ | ⟨b, off, c, rfl, hc, hm, hpos, hcs⟩
 ·have hl' : l = [] := by simpa using hl
  subst hl'
  clear hl
  go_enter Tryz.func120, Tryz.ntmps120
  go_wp2
  refine wp_loop_rounds 1 ?_
  rw [rounds_succ]
  go_wp2
  go_ret
  exact ⟨rfl, Below.refl _ _⟩
 ·rw [List.length_map] at hc hpos ⊢
  have H := Lib.hid hcs; clear hcs h
  generalize hn : l.length = n at hc hpos ⊢
  have HN := Lib.hid hn; clear hn
  obtain ⟨R, hR⟩ : ∃ R, (l.any fun y => y == z) = R := ⟨_, rfl⟩
  have HR := Lib.hid hR
  rw [hR]
  clear hR
  go_enter Tryz.func120, Tryz.ntmps120
  go_wp2_with fail
  go_loopw [5] (fun i wr => ∃ k : Nat, k ≤ n ∧ i = .int .i64 k ∧ Hid (∀ (j : Nat) (y : Int), j < k → l[j]? = some y → (y == z) = false) ∧ wr = w) (fun i _ => n - (intOf i).toNat)
  case atStart => exact ⟨0, Nat.zero_le _, rfl, fun j y hj => by omega, rfl⟩
  case round =>
   obtain ⟨k, hk, rfl, HP, rfl⟩ := hrel
   by_cases hlt : k < n
   ·have hx : l[k]? = some (l[k]'(by rw [HN.out]; exact hlt)) := by simp
    have c0 := int_cell H.out hx
    generalize l[k]'(by rw [HN.out]; exact hlt) = x at hx c0
    have HX := Lib.hid hx; clear hx
    cases hp : (x == z) with
    | true =>
     have hRt : R = true := by rw [← HR.out, List.any_eq_true]; exact ⟨x, List.mem_of_getElem? HX.out, hp⟩
     subst hRt
     have hz : x = z := by simpa using hp
     subst hz
     clear hp
     go_wp2_with fail
     refine bodyPost_ret (v := .bool true) (by simp [results, Tryz.results120, go_sem]) rfl ⟨rfl, Below.refl _ _⟩
    | false =>
     have hz : ¬ x = z := by simpa using hp
     have HPp := Lib.hid hp
     clear hp
     go_wp2_with fail
     go_roundw
     case rel => exact ⟨k + 1, by omega, by go_num, fun j y hj hy => (by
      rcases Nat.lt_or_eq_of_le (Nat.le_of_lt_succ hj) with h | h
      ·exact HP.out j y h hy
      ·subst h; rw [HX.out] at hy; cases hy; exact HPp.out), by first | rfl | trivial⟩
     case measure => simp [intOf]; omega
   ·have hRf : R = false := by
     rw [← HR.out, Bool.eq_false_iff]
     intro ht
     obtain ⟨y, hy, hyz⟩ := List.any_eq_true.1 ht
     obtain ⟨j, hj⟩ := List.mem_iff_getElem?.1 hy
     have hjl := (List.getElem?_eq_some_iff.1 hj).1
     rw [HP.out j y (by rw [HN.out] at hjl; omega) hj] at hyz
     cases hyz
    subst hRf
    go_wp2_with fail
    refine bodyPost_ret (v := .bool false) (by simp [results, Tryz.results120, go_sem]) rfl ⟨rfl, Below.refl _ _⟩
end Go.Proofs.YtccnkebkgegohaaGreatDoor
end
section
namespace Go.Proofs.YtccnkebkgegohaaGreatDoor
open Go.RowKit Go.Rel
set_option maxRecDepth 100000
/-! drop, of the reference -/
@[irreducible] def VSl (x v : Value) (_ : World) : Prop := v = x
theorem VSl.stab {x : Value} {R : World → World → Prop} (v : Value) (W W' : World) (h : VSl x v W) (_ : R W W') : VSl x v W' := by unfold VSl at *; exact h
def J (G : Nat) (xs ys : List Ac) (a b c e : Bool) (x y z r : Value) (W : World) : Prop := G ≤ W.heap.size ∧ (a = true → b = false → OwnA W G x []) ∧ (b = true → c = false → OwnA W G y xs) ∧ (c = true → OwnA W G z (xs ++ ys)) ∧ (e = true → r = z)
theorem own_none {G : Nat} {W : World} (h : G ≤ W.heap.size) : OwnA (W.alloc (.cells #[] 46)) G (.slice (some ⟨W.heap.size, 0, none⟩) 0 0) [] := by
 refine ⟨rfl, .inr ⟨_, 0, #[], rfl, h, ?_, Nat.le_refl _, by decide, rfl, rfl⟩⟩
 show (W.heap.push _)[W.heap.size]? = _
 simp
theorem sln_takeC {w : World} {i n c : Nat} {a : Option Addr} {xs : List Ac} (h : SlN w (.slice a n c) xs) (hi : i ≤ n) : SlN w (.slice a i c) (xs.take i) := by
 obtain ⟨⟨a', c', he, h1, h2, h3⟩, hN⟩ := h
 cases he
 rw [List.length_map] at hi
 have hl : ((xs.take i).map acL).length = i := by rw [List.length_map, List.length_take]; omega
 rw [List.length_map] at h1
 refine ⟨⟨a, c, by rw [hl], by rw [hl]; omega, h2, ?_⟩, fun n' c' e => ?_⟩
 ·rcases h3 with h3 | ⟨b, off, rfl, h4⟩
  ·have : xs = [] := by simpa using h3
   subst this; exact .inl (by simp)
  ·refine .inr ⟨b, off, rfl, h4.1, fun p j u hu => h4.2 p j u ?_⟩
   obtain ⟨r, hr, hj⟩ := Option.bind_eq_some_iff.1 hu
   have hp : p < i := by have := (List.getElem?_eq_some_iff.1 hr).1; omega
   rw [List.map_take, List.getElem?_take_of_lt hp] at hr
   rw [hr]; exact hj
 ·injection e with e1 e2 e3
  subst e1 e3
  exact hN _ _ rfl
set_option maxHeartbeats 16000000 in
theorem drop121_spec (q : Option Addr) (k d i : Nat) (m : List Ac) (w : World) (Hm : SlN w (.slice q k d) m) (hk : m.length = k) (hi : i < k) (hkd : k ≤ d) (hd : d ≤ 9223372036854775807) (hlen : k ≤ 1048576) :
  Calls Tryz.prog 121 #[.slice q k d, .int .i64 (i : Int)] w fun e w' => ∃ bv, e = .returned bv ∧ OwnA w' w.heap.size bv (dropL m i) ∧ Below w.heap.size w w' := by
 have hid : i ≤ d := by omega
 have hik : (i : Int) + 1 ≤ (k : Int) := by omega
 have HM := Lib.hid Hm
 have HK := Lib.hid hk
 clear Hm hk
 go_enter Tryz.func121, Tryz.ntmps121
 go_wp2_with fail
 refine wp_region_val (Below w.heap.size) (fun L vs W => J w.heap.size (m.take i) (m.drop (i + 1)) (L 0) (L 4) (L 9) (L 10) (vs 0) (vs 4) (vs 9) (vs 10) W) [AnyV, Is (.slice q k d), Is (.int .i64 (i : Int)), Is (.slice q i d), AnyV, Is (.slice q k d), Is (.int .i64 (i : Int)), Is (.int .i64 (i + 1 : Int)), VSl (sliced q (i + 1) k d 10), AnyV, AnyV] (by kernel_rfl) (by kernel_rfl) rfl (Below.refl w.heap.size) (fun _ _ _ => Below.trans) (stable_mem ⟨fun _ _ _ h _ => h, fun _ _ _ h _ => h, fun _ _ _ h _ => h, fun _ _ _ h _ => h, fun _ _ _ h _ => h, fun _ _ _ h _ => h, fun _ _ _ h _ => h, fun _ _ _ h _ => h, VSl.stab, fun _ _ _ h _ => h, fun _ _ _ h _ => h, trivial⟩) w (Below.drew (Below.refl _ _)) (⟨Nat.le_refl _, (fun e => by cases e), (fun e => by cases e), (fun e => by cases e), (fun e => by cases e)⟩) ?_
 refine val_cons ?_ (fun v0 => ?_)
 ·intro L vs w1 hvs hat hb hI hF; try simp [factsI, Region.binds, Is] at hF
  have h4 := hat.later 10 4 (by kernel_rfl)
  have h9 := hat.later 10 9 (by kernel_rfl)
  have h10 := hat.later 10 10 (by kernel_rfl)
  have hs := hI.1
  go_simp
  simp [upd]
  exact ⟨(bel_alloc (bel_refl _) _).mono hs, ⟨by simp; omega, fun _ _ => own_none hs, fun e => (by first | (rw [h4] at e; cases e) | cases e), fun e => (by first | (rw [h9] at e; cases e) | cases e), fun e => (by first | (rw [h10] at e; cases e) | cases e)⟩, trivial⟩
 iterate 3 (refine val_cons ?_ (fun _ => ?_); · intro L vs w1 hvs hat hb hI hF; (try simp [factsI, Region.binds, Is] at hF); go_simp; simp [upd]; exact ⟨Below.refl _ _, hI⟩)
 refine val_cons ?_ (fun v4 => ?_)
 ·intro L vs w1 hvs hat hb hI hF; try simp [factsI, Region.binds, Is] at hF
  have h0 := hat.ahead 10 0 (by kernel_rfl)
  have h4 := hat.self
  have h9 := hat.later 10 9 (by kernel_rfl)
  have h10 := hat.later 10 10 (by kernel_rfl)
  have hv0 : vs 0 = v0 := hvs 0 (by omega)
  obtain ⟨_, rfl⟩ := hF
  obtain ⟨hs, h1, _, _, _⟩ := hI
  have hO := h1 h0 h4
  rw [hv0] at hO
  obtain ⟨v', w', hr, hO', hg⟩ := app_ac hO (sln_takeC (HM.out.mono hb) (Nat.le_of_lt hi)) (by rw [List.length_take, HK.out]; simp; omega) hs
  have hbl : Below w.heap.size w1 w' := (Below.refl w.heap.size w1).grown hg (by omega) (fun k hk => (hO.lt k hk).1)
  refine step_append rfl rfl rfl rfl hr ?_
  simp [upd]
  exact ⟨hbl, ⟨Nat.le_trans hs hbl.size, fun _ e => (by cases e), fun _ _ => (by simpa using hO'), fun e => (by first | (rw [h9] at e; cases e) | cases e), fun e => (by first | (rw [h10] at e; cases e) | cases e)⟩, trivial⟩
 iterate 2 (refine val_cons ?_ (fun _ => ?_); · intro L vs w1 hvs hat hb hI hF; (try simp [factsI, Region.binds, Is] at hF); go_simp; simp [upd]; exact ⟨Below.refl _ _, hI⟩)
 refine val_cons ?_ (fun v7 => ?_)
 ·intro L vs w1 hvs hat hb hI hF; try simp [factsI, Region.binds, Is] at hF
  have hw : IntKind.i64.wrap ((i : Int) + 1) = (i : Int) + 1 := IntWalk.i64_in _ (by omega)
  go_simp
  simp [upd, hw]
  exact ⟨Below.refl _ _, hI⟩
 refine val_cons ?_ (fun v8 => ?_)
 ·intro L vs w1 hvs hat hb hI hF; try simp [factsI, Region.binds, Is] at hF
  have hc0 : (0 : Int) ≤ (i : Int) + 1 := by omega
  go_simp
  simp [upd]
  first | exact ⟨Below.refl _ _, hI, (by unfold VSl; rfl)⟩
 refine val_cons ?_ (fun v9 => ?_)
 ·intro L vs w1 hvs hat hb hI hF; try simp [factsI, Region.binds, Is] at hF
  have h4 := hat.ahead 10 4 (by kernel_rfl)
  have h9 := hat.self
  have h10 := hat.later 10 10 (by kernel_rfl)
  have hv4 : vs 4 = v4 := hvs 4 (by omega)
  have hv8 : v8 = sliced q (i + 1) k d 10 := by have := hF.2.1; unfold VSl at this; exact this
  subst hv8
  obtain ⟨hs, _, h1, _, _⟩ := hI
  have hO := h1 h4 h9
  rw [hv4] at hO
  obtain ⟨v', w', hr, hO', hg⟩ := app_ac hO (sln_drop (HM.out.mono hb) (show i + 1 ≤ k by omega)) (by rw [List.length_take, List.length_drop, HK.out]; omega) hs
  have hbl : Below w.heap.size w1 w' := (Below.refl w.heap.size w1).grown hg (by omega) (fun k hk => (hO.lt k hk).1)
  refine step_append (v := v4) (v7 := sliced q (i + 1) k d 10) rfl rfl ?_ ?_ hr ?_
  ·go_simp
  ·go_simp
  simp [upd]
  exact ⟨hbl, ⟨Nat.le_trans hs hbl.size, fun _ e => (by first | (rw [h4] at e; cases e) | cases e), fun _ e => (by cases e), fun _ => hO', fun e => (by first | (rw [h10] at e; cases e) | cases e)⟩, trivial⟩
 refine val_cons ?_ (fun v10 => ?_)
 ·intro L vs w1 hvs hat hb hI hF; try simp [factsI, Region.binds, Is] at hF
  have h9 := hat.ahead 10 9 (by kernel_rfl)
  have hv9 : vs 9 = v9 := hvs 9 (by omega)
  obtain ⟨hs, a1, a2, a3, a4⟩ := hI
  go_simp
  simp [upd]
  exact ⟨Below.refl _ _, hs, a1, (fun _ e => by cases e), (fun _ => a3 h9), fun _ => hv9.symm⟩
 refine val_nil ?_
 intro vs w1 hvs hb hI hF
 simp [Is, Nat.forall_lt_succ_right] at hF
 have e0 := hF.1.1.1.1.1.1.1.1.1.1
 have e1 := hF.1.1.1.1.1.1.1.1.1.2
 have e2 := hF.1.1.1.1.1.1.1.1.2
 have e3 := hF.1.1.1.1.1.1.1.2
 have e4 := hF.1.1.1.1.1.1.2
 have e5 := hF.1.1.1.1.1.2
 have e6 := hF.1.1.1.1.2
 have e7 := hF.1.1.1.2
 have e8 := hF.1.1.2
 have e9 := hF.1.2
 have e10 := hF.2
 clear hF
 simp only [Act.put, List.setIfInBounds_toArray, List.set_cons_succ, List.set_cons_zero, e1, e2, e3, e5, e6, e7]
 clear e1 e2 e3 e5 e6 e7
 have hv9 : vs 9 = v9 := hvs 9 (by omega)
 have hv10 : vs 10 = v10 := hvs 10 (by omega)
 obtain ⟨hs, _, _, a3, a4⟩ := hI
 have hO := a3 rfl
 have he := a4 rfl
 rw [← he, hv10] at hO
 have HO := Lib.hid hO
 clear hvs hv9 hv10 a3 a4 hO he
 go_wp2_with fail
 refine bodyPost_ret (v := v10) (by simp [results, Tryz.results121, go_sem]) rfl ⟨v10, rfl, HO.out, hb⟩
end Go.Proofs.YtccnkebkgegohaaGreatDoor
end
section
namespace Go.Proofs.YtccnkebkgegohaaGreatDoor
open Go.RowKit Go.Rel
set_option maxRecDepth 100000
/-! slices.Delete of one act of a list of one's own -/
def delC (cur : Array Value) (m : List Ac) (i : Nat) : Array Value := spl cur (i * 10) (((m.drop (i + 1)).map acL).flatten)
theorem OwnB.del {W : World} {base g cap : Nat} {m : List Ac} {cur : Array Value} (h : OwnB W base m g cap cur) {i : Nat} (hi : i < m.length) : OwnB (W.setRow g (delC cur m i)) base (dropL m i) g cap (delC cur m i) := by
 have hle := h.le
 have hl : (((m.drop (i + 1)).map acL).flatten).length = (m.length - (i + 1)) * 10 := by rw [acFlat_len, List.length_drop]
 have hf : i * 10 + (((m.drop (i + 1)).map acL).flatten).length ≤ cur.size := by rw [hl, h.size]; omega
 have hdl := dropL_len hi
 refine ⟨h.base, h.blk.rowS _, by rw [hdl]; omega, h.lim, by unfold delC; rw [spl_size hf]; exact h.size, ?_⟩
 have hlo := spl_lo hf
 unfold delC
 rw [show (dropL m i).length * 10 = i * 10 + (((m.drop (i + 1)).map acL).flatten).length by rw [hdl, hl]; omega, hlo]
 unfold dropL
 rw [List.map_append, List.flatten_append]
 congr 1
 have h3 : (m.map acL).flatten = ((m.take i).map acL).flatten ++ ((m.drop i).map acL).flatten := by rw [← List.flatten_append, ← List.map_append, List.take_append_drop]
 have h4 : (((m.take i).map acL).flatten).length = i * 10 := by rw [acFlat_len, List.length_take]; omega
 have h5 : ((m.take i).map acL).flatten = ((m.map acL).flatten).take (i * 10) := by rw [h3, ← h4, List.take_left]
 rw [h5, ← h.rows, List.take_take, Nat.min_eq_left (by omega)]
theorem OwnB.grw {W W' : World} {base g cap : Nat} {m : List Ac} {cur : Array Value} (h : OwnB W base m g cap cur) (hb : Below W.heap.size W W') : OwnB W' base m g cap cur := ⟨h.base, h.blk.grow hb, h.le, h.lim, h.size, h.rows⟩
theorem del_append {W : World} {base g cap n i : Nat} {m : List Ac} {cur : Array Value} (h : OwnB W base m g cap cur) (hn : m.length = n) (hi : i < n) :
  (Builtin.append_ #[28, 28] 28 #[.slice (some ⟨g, 0, none⟩) i cap, sliced (some ⟨g, 0, none⟩) (i + 1) n cap 10]).run Tryz.prog W = .ok (.slice (some ⟨g, 0, none⟩) (i + (n - (i + 1))) cap) (W.setRow g (delC cur m i)) := by
 obtain ⟨i0, hi0, hz0, hz1, hz2⟩ := info_parts info46
 have hle := h.le
 have hl : (((m.drop (i + 1)).map acL).flatten).length = (n - (i + 1)) * 10 := by rw [acFlat_len, List.length_drop, hn]
 have hfit : i * i0.size + (((m.drop (i + 1)).map acL).flatten).length ≤ cur.size := by rw [hl, h.size, hz1]; omega
 have key : ∃ a c', sliced (some ⟨g, 0, none⟩) (i + 1) n cap 10 = .slice (some a) (n - (i + 1)) c' ∧ ∀ j u, (((m.drop (i + 1)).map acL).flatten)[j]? = some u → W.cell? (a.add j) = some u := by
  unfold sliced
  by_cases hc : cap = i + 1
  ·have hz : n - (i + 1) = 0 := by omega
   have hd : m.drop (i + 1) = [] := List.drop_eq_nil_of_le (by omega)
   refine ⟨⟨g, 0, none⟩, cap - (i + 1), by simp [hc], fun j u hu => ?_⟩
   rw [hd] at hu; simp at hu
  ·refine ⟨⟨g, (i + 1) * 10, none⟩, cap - (i + 1), by simp [hc, Go.WideShapes.add_plain, show ¬ (cap - (i + 1) = 0) by omega], fun j u hu => ?_⟩
   rw [Go.WideShapes.add_plain, h.blk.cell]
   have h3 : (m.map acL).flatten = ((m.take (i + 1)).map acL).flatten ++ ((m.drop (i + 1)).map acL).flatten := by rw [← List.flatten_append, ← List.map_append, List.take_append_drop]
   have h4 : (((m.take (i + 1)).map acL).flatten).length = (i + 1) * 10 := by rw [acFlat_len, List.length_take]; omega
   have h5 : ((m.map acL).flatten)[(i + 1) * 10 + j]? = some u := by rw [h3, List.getElem?_append_right (by omega), h4, Nat.add_sub_cancel_left]; exact hu
   rw [← h.rows, List.getElem?_take] at h5
   split at h5
   ·simpa using h5
   ·cases h5
 obtain ⟨a, c', he, hcell⟩ := key
 rw [he]
 have hr := run_append_room (P := Tryz.prog) W 28 28 46 i0 Tryz.underlying28 hi0 g i cap cur h.blk a (n - (i + 1)) c' (((m.drop (i + 1)).map acL).flatten) (by rw [hl, hz1]) hcell one_ac (by omega) hfit
 rw [hr, hz1]
 rfl
theorem OwnB.clear {W : World} {base g cap : Nat} {m : List Ac} {cur : Array Value} (h : OwnB W base m g cap cur) {vs : List Value} (hf : m.length * 10 + vs.length ≤ cur.size) : OwnB (W.setRow g (spl cur (m.length * 10) vs)) base m g cap (spl cur (m.length * 10) vs) :=
 ⟨h.base, h.blk.rowS _, h.le, h.lim, by rw [spl_size hf]; exact h.size, by rw [spl_take_lo (Nat.le_refl _) (by omega)]; exact h.rows⟩
end Go.Proofs.YtccnkebkgegohaaGreatDoor
end
