import Derived.Test.YtccnkebkgegohaaGreatDoorHTrm
import Derived.Test.YtccnkebkgegohaaGreatDoorHE1
/-
  Given contracts of functions of the program, and laws for them, one behind the other.
-/
set_option linter.unusedVariables false
set_option linter.unusedSimpArgs false
set_option linter.unusedSectionVars false
section
namespace Go.Proofs.YtccnkebkgegohaaGreatDoor
open Go.RowKit Go.Rel
set_option maxRecDepth 100000
/-! Last, of the reference -/
/-- whether the acts below k that stand behind an act are independent of it -/
def lastU (l : List Sol) (m : List Ac) (i k : Nat) : Bool := (List.range k).all fun t => decide (t ≤ i) || apartB l (atN m i) (atN m t)
end Go.Proofs.YtccnkebkgegohaaGreatDoor
end
section
namespace Go.Proofs.YtccnkebkgegohaaGreatDoor
open Go.RowKit Go.Rel
set_option maxRecDepth 100000
/-! Last -/
abbrev oneL (v : Value) : List Value := [v]
theorem one_cell {w : World} {b off : Nat} {f : Ac → Value} {l : List Ac} (h : Cells w b off 1 (l.map fun a => oneL (f a))) {k : Nat} {x : Ac} (hx : l[k]? = some x) : w.cell? ⟨b, off + k, none⟩ = some (f x) := by
 have := h.2 k 0 (f x) (by simp [hx])
 simpa using this
theorem lastU_drop {l : List Sol} {m : List Ac} {i : Nat} {x : Ac} (hx : m[i]? = some x) : lastU l m i m.length = (m.drop (i + 1)).all fun y => apartB l x y := by
 unfold lastU
 have h1 : atN m i = x := by unfold atN; rw [List.getD_eq_getElem?_getD, hx]; rfl
 rw [h1, Bool.eq_iff_iff, List.all_eq_true, List.all_eq_true]
 constructor
 ·intro h y hy
  obtain ⟨t, ht⟩ := List.mem_iff_getElem?.1 hy
  rw [List.getElem?_drop] at ht
  have hl := (List.getElem?_eq_some_iff.1 ht).1
  have := h (i + 1 + t) (List.mem_range.2 hl)
  have e : atN m (i + 1 + t) = y := by unfold atN; rw [List.getD_eq_getElem?_getD, ht]; rfl
  have d : decide (i + 1 + t ≤ i) = false := by simp; omega
  rw [e, d, Bool.false_or] at this
  exact this
 ·intro h t ht
  have hl := List.mem_range.1 ht
  by_cases hle : t ≤ i
  ·simp [hle]
  ·have hy : m[t]? = some m[t] := by simp [hl]
   have e : atN m t = m[t] := by unfold atN; rw [List.getD_eq_getElem?_getD, hy]; rfl
   have := h m[t] (List.mem_iff_getElem?.2 ⟨t - (i + 1), by rw [List.getElem?_drop, show i + 1 + (t - (i + 1)) = t by omega]; exact hy⟩)
   rw [e, this]; simp
set_option maxHeartbeats 4000000 in
theorem last162 {bp : Nat} {blank : Sol} {v av : Value} {l : List Sol} {acts : List Ac} {s : Stn} (w : World) (HP : PastAt bp blank v av l acts s w) (bt bi : Nat) (hbt : w.cell? ⟨bt, 0, none⟩ = some (.pointer (some ⟨bp, 0, none⟩))) (i : Nat) (hbi : w.cell? ⟨bi, 0, none⟩ = some (.int .i64 i)) (x y : Ac) (hi' : acts[i]? = some x) :
  Calls Tryz.prog 162 #[deedV (made l y), .pointer (some ⟨bt, 0, none⟩), .pointer (some ⟨bi, 0, none⟩)] w fun e w' => e = .returned (.bool (!apartB l x y)) ∧ Below w.heap.size w w' := by
 have hi : i < acts.length := (List.getElem?_eq_some_iff.1 hi').1
 obtain ⟨g, c, hpast, hc, hm, hg, hd⟩ := HP.opn (by omega)
 have ci := hd i _ hi'
 have H := independent_spec (made l x) (made l y)
 have hr : Hid ((!apartB l x y) = meetsB (made l x).2.2 (made l y).2.2) := by
  show _ = _
  unfold apartB
  simp [made]
 generalize meetsB (made l x).2.2 (made l y).2.2 = r at H hr
 generalize deedV (made l x) = dx at ci H
 generalize deedV (made l y) = dy at H ⊢
 have HH := Lib.hid H; clear H
 clear hd hi' HP
 generalize acts.length = n at *
 have cp := hpast.cell
 have lp := hpast.lt
 have lbt : bt < w.heap.size := block_lt_of_cell hbt
 have lbi : bi < w.heap.size := block_lt_of_cell hbi
 clear hpast
 go_enter Tryz.func162, Tryz.ntmps162
 go_wp2_with fail
 refine wp_region_grow 10 [Is (.pointer (some ⟨bp, 0, none⟩)), Is (.pointer (some ⟨bp, 0, none⟩)), Is (.pointer (some ⟨bp, 10, none⟩)), Is (.slice (some ⟨g, 0, none⟩) n c), Is (.int .i64 i), Is (.pointer (some ⟨g, i, none⟩)), Is dx, Is dy, Is (.bool (!r)), Is (.bool r)] (by kernel_rfl) (by kernel_rfl) rfl ⟨fun _ _ _ h _ => h, fun _ _ _ h _ => h, fun _ _ _ h _ => h, fun _ _ _ h _ => h, fun _ _ _ h _ => h, fun _ _ _ h _ => h, fun _ _ _ h _ => h, fun _ _ _ h _ => h, fun _ _ _ h _ => h, fun _ _ _ h _ => h, trivial⟩ ?_
 simp only [List.take_succ_cons, List.take_zero, List.drop_succ_cons, List.drop_zero]
 iterate 8 (refine rel_cons ?_ (fun _ => ?_); · intro w1 hb hF; have hc := (Grows.cells hb).1; have hf := (Grows.cells hb).2; (try simp [facts, Is] at hF); go_simp; exact Grows.refl _)
 refine rel_cons ?_ (fun v8 => ?_)
 ·intro w1 hb hF; have hc := (Grows.cells hb).1; have hf := (Grows.cells hb).2; try simp [facts, Is] at hF
  go_simp
  refine (HH.out _).mono ?_
  rintro e w4 ⟨rfl, hb4⟩
  exact ⟨rfl, hb4⟩
 refine rel_cons ?_ (fun v9 => ?_)
 ·intro w1 hb hF; have hc := (Grows.cells hb).1; have hf := (Grows.cells hb).2; try simp [facts, Is] at hF
  go_simp
  exact Grows.refl _
 refine rel_nil ?_
 intro w1 hb hF
 simp [Is, Nat.forall_lt_succ_right] at hF
 simp only [Act.put, List.setIfInBounds_toArray, List.set_cons_succ, List.set_cons_zero, hF]
 clear hF
 go_wp2_with fail
 go_ret
 exact ⟨ret_bool hr.out.symm, hb⟩
set_option maxHeartbeats 2000000 in
theorem IndexFunc191 (v : Value) (f : Ac → Value) (l : List Ac) (c0 c1 : Value) (p : Ac → Bool) (w : World) (h : Sl w 1 v (l.map fun a => oneL (f a)))
  (hf : ∀ w', Below w.heap.size w w' → ∀ x ∈ l, Calls Tryz.prog 162 #[f x, c0, c1] w' fun e w'' => e = .returned (.bool (p x)) ∧ Below w'.heap.size w' w'') :
  Calls Tryz.prog 191 #[v, .func (.func 162) #[] #[c0, c1]] w fun e w' => e = .returned (.int .i64 (idx p l)) ∧ Below w.heap.size w w' := by
 rcases h.cases with ⟨hl, a, c, rfl, hm⟩ | ⟨b, off, c, rfl, hc, hm, hpos, hcs⟩
 ·have hl' : l = [] := by simpa using hl
  subst hl'
  clear hl
  go_enter Tryz.func191, Tryz.ntmps191
  go_wp2
  refine wp_loop_rounds 1 ?_
  rw [rounds_succ]
  go_wp2
  go_ret
  exact ⟨rfl, Below.refl _ _⟩
 ·rw [List.length_map] at hc hpos ⊢
  have H := Lib.hid hcs; clear hcs h
  have HF := Lib.hid hf; clear hf
  generalize hn : l.length = n at hc hpos ⊢
  have HN := Lib.hid hn; clear hn
  go_enter Tryz.func191, Tryz.ntmps191
  go_wp2_with fail
  go_loopw [8] (fun i wr => ∃ k : Nat, k ≤ n ∧ i = .int .i64 k ∧ Hid (∀ (j : Nat) (y : Ac), j < k → l[j]? = some y → p y = false) ∧ Below w.heap.size w wr) (fun i _ => n - (intOf i).toNat)
  case atStart => exact ⟨0, Nat.zero_le _, rfl, fun j y hj => by omega, Below.refl _ _⟩
  case round =>
   obtain ⟨k, hk, rfl, HP, hbel⟩ := hrel
   by_cases hlt : k < n
   ·have hx : l[k]? = some (l[k]'(by rw [HN.out]; exact hlt)) := by simp
    have c0 := one_cell (f := f) (H.out.mono hbel H.out.1) hx
    have hmem := List.mem_of_getElem? hx
    generalize l[k]'(by rw [HN.out]; exact hlt) = x at hx c0 hmem
    have HX := Lib.hid hx; clear hx
    have HM := Lib.hid hmem; clear hmem
    have hsz := hbel.size
    go_wp2_with fail
    refine (HF.out _ hbel x HM.out).mono ?_
    rintro e w2 ⟨rfl, hb2⟩
    have hB : Below w.heap.size w w2 := bel_trans hbel hb2
    clear hb2
    cases hp : p x with
    | true =>
     go_wp2_with fail
     go_ret
     exact ⟨ret_int (idx_found HX.out hp HP.out).symm, hB⟩
    | false =>
     go_wp2_with fail
     go_roundw
     case rel => exact ⟨k + 1, by omega, by go_num, fun j y hj hy => (by
      rcases Nat.lt_or_eq_of_le (Nat.le_of_lt_succ hj) with h | h
      ·exact HP.out j y h hy
      ·subst h; rw [HX.out] at hy; cases hy; exact hp), hB⟩
     case measure => simp [intOf]; omega
   ·go_wp2_with fail
    go_ret
    exact ⟨ret_int (idx_none (fun j y hy => HP.out j y (by have := (List.getElem?_eq_some_iff.1 hy).1; rw [HN.out] at this; omega) hy)).symm, hbel⟩
set_option maxHeartbeats 2000000 in
theorem ContainsFunc161 (v : Value) (f : Ac → Value) (l : List Ac) (c0 c1 : Value) (p : Ac → Bool) (w : World) (h : Sl w 1 v (l.map fun a => oneL (f a)))
  (hf : ∀ w', Below w.heap.size w w' → ∀ x ∈ l, Calls Tryz.prog 162 #[f x, c0, c1] w' fun e w'' => e = .returned (.bool (p x)) ∧ Below w'.heap.size w' w'') :
  Calls Tryz.prog 161 #[v, .func (.func 162) #[] #[c0, c1]] w fun e w' => e = .returned (.bool (l.any p)) ∧ Below w.heap.size w w' := by
 have hge := idx_ge p l
 have hany : Hid (l.any p = decide (0 ≤ idx p l)) := by
  show _ = _
  rw [Bool.eq_iff_iff, decide_eq_true_eq, idx_nonneg]
 have hidx := Lib.hid (IndexFunc191 v f l c0 c1 p w h hf)
 generalize idx p l = i at hge hany hidx
 clear hf h
 go_enter Tryz.func161, Tryz.ntmps161
 go_wp2_with fail
 refine hidx.out.mono ?_
 rintro e w1 ⟨rfl, hb⟩
 go_wp2_with fail
 go_ret
 refine ⟨?_, hb⟩
 rw [hany.out]; rfl
theorem flat_one (f : Ac → Value) : ∀ l : List Ac, (l.map fun a => oneL (f a)).flatten = l.map f
 | [] => rfl
 | x :: l => by simp [flat_one f l]
@[irreducible] def VOne (f : Ac → Value) (l : List Ac) (v : Value) (W : World) : Prop := Sl W 1 v (l.map fun a => oneL (f a))
theorem VOne.stab {f : Ac → Value} {l : List Ac} (v : Value) (W W' : World) (h : VOne f l v W) (g : Grows W W') : VOne f l v W' := by unfold VOne at *; exact h.mono g
theorem PastAt.deeds {bp : Nat} {blank : Sol} {v av : Value} {l : List Sol} {acts : List Ac} {s : Stn} {W : World} (H : PastAt bp blank v av l acts s W) : ∃ p c, Blk W bp (pastC blank v av (.slice p acts.length c) s.1 s.2) 113 ∧ Sl W 1 (.slice p acts.length c) (acts.map fun y => oneL (deedV (made l y))) ∧ acts.length ≤ c ∧ c ≤ 9223372036854775807 ∧ ∀ x, p = some x → x.spot = none := by
 obtain ⟨dv, h1, h2⟩ := H.past
 obtain ⟨p, c, rfl, hc, hM⟩ := own_shape' h2
 have hsp : ∀ x, p = some x → x.spot = none := by
  rintro x rfl
  rcases h2.2 with ⟨h, _⟩ | ⟨g, cap, cur, h, _⟩
  ·cases h
  ·injection h with h _ _
   injection h with h
   rw [h]
 refine ⟨p, c, h1, ?_, hc, hM, hsp⟩
 exact own_sl (fun r hr => by obtain ⟨i, _, rfl⟩ := List.mem_map.1 hr; rfl) (flat_one (fun y => deedV (made l y)) acts) (by rw [List.length_map]; exact h2)
set_option maxHeartbeats 4000000 in
theorem isLast115 {bp : Nat} {blank : Sol} {v av : Value} {l : List Sol} {acts : List Ac} {s : Stn} (w : World) (HP : PastAt bp blank v av l acts s w) (i : Nat) (hi : i < acts.length) :
  Calls Tryz.prog 115 #[.pointer (some ⟨bp, 0, none⟩), .int .i64 (i : Int)] w fun e w' => e = .returned (.bool (lastU l acts i acts.length)) ∧ Below w.heap.size w w' := by
 have hx : acts[i]? = some acts[i] := by simp [hi]
 generalize acts[i] = x at hx
 obtain ⟨p, c, hpast, hS, hc, hM, hsp⟩ := HP.deeds
 obtain ⟨r, hr⟩ : ∃ r, lastU l acts i acts.length = r := ⟨_, rfl⟩
 have hany : Hid ((acts.drop (i + 1)).any (fun y => !apartB l x y) = !r) := by
  show _ = _
  rw [← hr, lastU_drop hx, List.not_all_eq_any_not]
 have HX := Lib.hid hx
 have HPP := Lib.hid HP
 have HSl := Lib.hid hS
 rw [hr]
 clear hr hx HP hS
 generalize hn : acts.length = n at *
 have hn9 : (i : Int) + 1 ≤ n := by omega
 clear hn
 go_enter Tryz.func115, Tryz.ntmps115
 go_wp2_with fail
 have g2 : Blk ((w.alloc (.cells (#[.pointer (some ⟨bp, 0, none⟩)] : Array Value) 101)).alloc (.cells (#[.int .i64 (i : Int)] : Array Value) 3)) w.heap.size #[.pointer (some ⟨bp, 0, none⟩)] 101 := blk_by
 have g3 : Blk ((w.alloc (.cells (#[.pointer (some ⟨bp, 0, none⟩)] : Array Value) 101)).alloc (.cells (#[.int .i64 (i : Int)] : Array Value) 3)) (w.heap.size + 1) #[.int .i64 (i : Int)] 3 := blk_by
 have hB : Below w.heap.size w ((w.alloc (.cells (#[.pointer (some ⟨bp, 0, none⟩)] : Array Value) 101)).alloc (.cells (#[.int .i64 (i : Int)] : Array Value) 3)) := bel_by
 have hp2 : Blk ((w.alloc (.cells (#[.pointer (some ⟨bp, 0, none⟩)] : Array Value) 101)).alloc (.cells (#[.int .i64 (i : Int)] : Array Value) 3)) bp (pastC blank v av (.slice p n c) s.1 s.2) 113 := blk_by
 have cp := hp2.cell
 have lp := hp2.lt
 simp only [World.size_alloc] at lp
 clear hpast hp2
 refine wp_region_grow 10 [Is (.pointer (some ⟨bp, 0, none⟩)), Is (.pointer (some ⟨bp, 0, none⟩)), Is (.pointer (some ⟨bp, 10, none⟩)), Is (.slice p n c), Is (.int .i64 i), Is (.int .i64 (i + 1 : Int)), VOne (fun y => deedV (made l y)) (acts.drop (i + 1)), Is (.func (.func 162) #[] #[.pointer (some ⟨w.heap.size, 0, none⟩), .pointer (some ⟨w.heap.size + 1, 0, none⟩)]), Is (.bool (!r)), Is (.bool r)] (by kernel_rfl) (by kernel_rfl) rfl ⟨fun _ _ _ h _ => h, fun _ _ _ h _ => h, fun _ _ _ h _ => h, fun _ _ _ h _ => h, fun _ _ _ h _ => h, fun _ _ _ h _ => h, VOne.stab, fun _ _ _ h _ => h, fun _ _ _ h _ => h, fun _ _ _ h _ => h, trivial⟩ ?_
 simp only [List.take_succ_cons, List.take_zero, List.drop_succ_cons, List.drop_zero]
 iterate 5 (refine rel_cons ?_ (fun _ => ?_); · intro w1 hb hF; have hc := (Grows.cells hb).1; have hf := (Grows.cells hb).2; (try simp [facts, Is] at hF); go_simp; exact Grows.refl _)
 refine rel_cons ?_ (fun v5 => ?_)
 ·intro w1 hb hF; have hc := (Grows.cells hb).1; have hf := (Grows.cells hb).2; try simp [facts, Is] at hF
  have hw : IntKind.i64.wrap ((i : Int) + 1) = (i : Int) + 1 := IntWalk.i64_in _ (by omega)
  go_simp
  exact Grows.refl _
 refine rel_cons ?_ (fun v6 => ?_)
 ·intro w1 hb hF; have hc := (Grows.cells hb).1; have hf := (Grows.cells hb).2; try simp [facts, Is] at hF
  have hsl := Lib.hid (sl_dropn (HSl.out.mono (bel_trans hB hb)) (show i + 1 ≤ n by omega))
  have h0 : (0 : Int) ≤ (i : Int) + 1 := by omega
  go_simp
  refine ⟨Grows.refl _, ?_⟩
  unfold VOne
  have h1 := hsl.out
  rw [← List.map_drop] at h1
  unfold sliced at h1
  have e : (c - (i + 1) = 0) = (c = i + 1) := by rw [eq_iff_iff]; omega
  have e2 : (Option.map (fun x => ({ block := x.block, off := x.off + (i + 1) } : Addr)) p) = Option.map (fun x => x.add (i + 1)) p := by
   cases p with
   | none => rfl
   | some a =>
    obtain ⟨ab, ao, asp⟩ := a
    have := hsp _ rfl
    simp only at this
    subst this
    simp [Go.WideShapes.add_plain]
  rw [e2]
  simpa [e, Nat.mul_one] using h1
 refine rel_cons ?_ (fun v7 => ?_)
 ·intro w1 hb hF; have hc := (Grows.cells hb).1; have hf := (Grows.cells hb).2; try simp [facts, Is] at hF
  go_simp
  exact Grows.refl _
 refine rel_cons ?_ (fun v8 => ?_)
 ·intro w1 hb hF; have hc := (Grows.cells hb).1; have hf := (Grows.cells hb).2; try simp [facts, Is] at hF
  have h6 := hF.1
  have h7 := hF.2
  subst h7
  unfold VOne at h6
  have H6 := Lib.hid h6
  clear h6
  have hbw := bel_trans hB hb
  go_simp
  refine (ContainsFunc161 _ (fun y => deedV (made l y)) (acts.drop (i + 1)) _ _ (fun y => !apartB l x y) w1 H6.out (fun w' hw y hy => ?_)).mono ?_
  ·exact last162 w' (HPP.out.grow (bel_trans hbw hw)) _ _ (((g2.grow hb).grow hw).cell 0) i (((g3.grow hb).grow hw).cell 0) x y HX.out
  ·rintro e w4 ⟨rfl, hb4⟩
   exact ⟨by rw [hany.out], hb4⟩
 refine rel_cons ?_ (fun v9 => ?_)
 ·intro w1 hb hF; have hc := (Grows.cells hb).1; have hf := (Grows.cells hb).2; try simp [facts, Is] at hF
  go_simp
  exact Grows.refl _
 refine rel_nil ?_
 intro w1 hb hF
 simp [Is, Nat.forall_lt_succ_right] at hF
 have e0 := hF.1.1.1.1.1.1.1.1.1
 have e1 := hF.1.1.1.1.1.1.1.1.2
 have e2 := hF.1.1.1.1.1.1.1.2
 have e3 := hF.1.1.1.1.1.1.2
 have e4 := hF.1.1.1.1.1.2
 have e5 := hF.1.1.1.1.2
 have e6 := hF.1.1.1.2
 have e7 := hF.1.1.2
 have e8 := hF.1.2
 have e9 := hF.2
 clear hF
 simp only [Act.put, List.setIfInBounds_toArray, List.set_cons_succ, List.set_cons_zero, e0, e1, e2, e3, e4, e5, e7, e8, e9]
 clear e0 e1 e2 e3 e4 e5 e7 e8 e9
 have hbw := bel_trans hB hb
 clear e6 g2 g3 hB hb
 go_wp2_with fail
 refine bodyPost_ret (v := .bool r) (by simp [results, Tryz.results115, go_sem]) rfl ⟨rfl, hbw⟩
set_option maxHeartbeats 4000000 in
theorem DeleteFunc114 (v c0 : Value) (l : List Int) (p : Int → Bool) (base : Nat) (w : World) (h : OwnI w base v l) (hbase : base ≤ w.heap.size)
  (hf : ∀ w', Below base w w' → ∀ x ∈ l, Calls Tryz.prog 114 #[.int .i64 x, c0] w' fun e w'' => e = .returned (.bool (p x)) ∧ Below w'.heap.size w' w'') :
  Calls Tryz.prog 113 #[v, .func (.func 114) #[] #[c0]] w fun e w' => ∃ u, e = .returned u ∧ OwnI w' base u (l.filter fun x => !p x) ∧ Below base w w' := by
 have hidx := Lib.hid (IndexFunc114 v l c0 p w h.sl (fun w' hw => hf w' (hw.mono hbase)))
 rcases idx_cases p l with ⟨hi, hno⟩ | ⟨k0, x0, hi, hx0, hp0, hbefore⟩
 ·rw [hi] at hidx
  obtain ⟨vp, vc, rfl, _, _⟩ := own_shape' h
  have HO := Lib.hid (And.intro h hno); clear h hf hno
  go_enter Tryz.func113, Tryz.ntmps113
  go_wp2_with fail
  refine hidx.out.mono ?_
  rintro e w1 ⟨rfl, hb⟩
  go_wp2_with fail
  go_ret
  refine ⟨_, rfl, ?_, hb.mono hbase⟩
  rw [List.filter_eq_self.2 (fun x hx => by simp [HO.out.2 x hx])]
  exact own_grow HO.out.1 hb
 ·rw [hi] at hidx
  have hk0 : k0 < l.length := (List.getElem?_eq_some_iff.1 hx0).1
  rcases h.2 with ⟨_, h0⟩ | ⟨g, cap, cur, rfl, hbg, hg, hnc, hcm, hcs, htake⟩
  ·omega
  have HF := Lib.hid hf; clear hf
  have hcm' : cap ≤ 9223372036854775807 := by unfold maxLen at hcm; omega
  have hstart : InvDel base g cap l.length l p k0 k0 w w := by
   have e : (l.take k0).filter (fun x => !p x) = l.take k0 := List.filter_eq_self.2 (fun x hx => by
    obtain ⟨t, ht⟩ := List.mem_iff_getElem?.1 hx
    rw [List.getElem?_take] at ht
    split at ht
    ·rename_i htk; simp [hbefore t x htk ht]
    ·cases ht)
   have key : ∀ (t : Nat) (x : Int), l[t]? = some x → cur[t]? = some (.int .i64 x) := by
    intro t x ht
    have h1 : (l.map (Value.int .i64))[t]? = some (.int .i64 x) := by simp [ht]
    rw [← htake, List.getElem?_take] at h1
    split at h1
    ·simpa using h1
    ·cases h1
   refine ⟨⟨cur, hg, by omega, ?_, fun t x _ ht => key t x ht⟩, by rw [e, List.length_take]; omega, Below.refl _ _⟩
   rw [e, List.map_take, ← htake, List.take_take]
   congr 1
   omega
  have hstart2 := hstart.gone hx0 hp0
  have HS := Lib.hid hstart2; clear hstart hstart2 htake hcs hg h hbefore hx0 hp0
  have hlg : g < w.heap.size := (Classical.choose_spec HS.out.blk).1.lt
  generalize hn : l.length = n at *
  have HN := Lib.hid hn; clear hn
  go_enter Tryz.func113, Tryz.ntmps113
  go_wp2_with fail
  refine hidx.out.mono ?_
  rintro e w1 ⟨rfl, hb1⟩
  have hlg1 : g < w1.heap.size := Nat.lt_of_lt_of_le hlg hb1.size
  have HS1 := Lib.hid (HS.out.grow hb1 hbase)
  clear HS hidx
  have hb1' := hb1.mono hbase
  clear hb1
  go_wp2_with fail
  have hk1 : ((k0 : Int) == -1) = false := by simp
  simp only [hk1]
  clear hk1
  go_loopw [5, 6] (fun iv jv wr => ∃ i j : Nat, j ≤ n ∧ iv = .int .i64 i ∧ jv = .int .i64 j ∧ i < j ∧ base ≤ wr.heap.size ∧ InvDel base g cap n l p i j w wr) (fun _ jv _ => n - (intOf jv).toNat)
  case atStart => exact ⟨k0, k0 + 1, by omega, rfl, by go_num, by omega, by have := hb1'.size; omega, HS1.out⟩
  case round =>
   obtain ⟨i, j, hj, rfl, rfl, hij, hbw, hinv⟩ := hrel
   have HI := Lib.hid hinv; clear hinv HS1
   by_cases hlt : j < n
   ·have hx : l[j]? = some (l[j]'(by rw [HN.out]; exact hlt)) := by simp
    generalize l[j]'(by rw [HN.out]; exact hlt) = x at hx
    have hcells := HI.out.cells hx (by rw [HN.out]; exact hnc)
    have c1 := hcells.1
    have lg := hcells.2.2.2.1
    clear hcells
    have HX := Lib.hid (And.intro hx (List.mem_of_getElem? hx)); clear hx
    go_wp2_with fail
    refine (HF.out _ HI.out.bel x HX.out.2).mono ?_
    rintro e w2 ⟨rfl, hb2⟩
    have HI2 := Lib.hid (HI.out.grow hb2 hbw)
    have hs2 := hb2.size
    have hbw2 : base ≤ w2.heap.size := by omega
    clear hb2
    cases hp : p x with
    | true =>
     go_wp2_with fail
     go_roundw
     case rel => exact ⟨i, j + 1, by omega, rfl, by go_num, by omega, hbw2, HI2.out.gone HX.out.1 hp⟩
     case measure => simp [intOf]; omega
    | false =>
     have hcells := HI2.out.cells HX.out.1 (by rw [HN.out]; exact hnc)
     have f1 := hcells.2.1
     have cz := Classical.choose_spec hcells.2.2.1
     generalize Classical.choose hcells.2.2.1 = z at cz
     clear hcells
     have HK := Lib.hid (HI2.out.kept HX.out.1 hp hbg (by rw [HN.out]; exact hnc))
     go_wp2_with fail
     go_roundw
     case rel => exact ⟨i + 1, j + 1, by omega, by go_num, by go_num, by omega, by simpa using hbw2, HK.out⟩
     case measure => simp [intOf]; omega
   ·have hjn : j = n := by omega
    subst hjn
    have hblk := HI.out.blk
    refine Veil.out ?_
    obtain ⟨cur2, q1, q2, q3, q4⟩ := hblk
    refine Veil.on ?_
    have HQ := Lib.hid (And.intro q1 q3); clear q1 q3 q4
    have hr := run_clear_row (P := Tryz.prog) wr 104 3 0 (.int .i64 0) Tryz.underlying104 (fun _ => Tryz.zeroValue3 _) rfl rfl g i (j - i) (cap - i) (by omega) cur2 3 HQ.out.1 (by omega)
    go_wp2_with fail
    go_ret
    refine ⟨_, rfl, ?_, HI.out.bel.trans (blw_row (Below.refl _ _) hbg _)⟩
    have hlen := HI.out.len
    have hq := HQ.out.2
    have htl : l.take j = l := List.take_of_length_le (by rw [HN.out]; exact Nat.le_refl _)
    rw [htl] at hlen hq
    unfold OwnI
    rw [hlen]
    refine ⟨by simp [hlen], .inr ⟨g, cap, _, rfl, hbg, HQ.out.1.rowS _, by omega, hcm, ?_, ?_⟩⟩
    ·simp only [List.size_toArray, List.length_append, List.length_take, List.length_drop, List.length_replicate, Array.length_toList]
     omega
    ·rw [← hq, Nat.mul_one]
     simp only [List.append_assoc]
     rw [List.take_append_of_le_length (by simp; omega), List.take_take, Nat.min_self]
end Go.Proofs.YtccnkebkgegohaaGreatDoor
end
section
namespace Go.Proofs.YtccnkebkgegohaaGreatDoor
open Go.RowKit Go.Rel
set_option maxRecDepth 100000
theorem upto_FI (P : Nat → Bool) (n : Nat) : ((upto n).filter fun x => !(!P x.toNat)) = FI P n := by
 unfold upto FI
 rw [List.filter_map]
 congr 1
 refine List.filter_congr fun x _ => ?_
 simp
set_option maxHeartbeats 2000000 in
theorem last114 {bp : Nat} {blank : Sol} {v av : Value} {l : List Sol} {acts : List Ac} {s : Stn} (w : World) (HP : PastAt bp blank v av l acts s w) (b4 : Nat) (hb4 : w.cell? ⟨b4, 0, none⟩ = some (.pointer (some ⟨bp, 0, none⟩))) (i : Nat) (hi : i < acts.length) :
  Calls Tryz.prog 114 #[.int .i64 (i : Int), .pointer (some ⟨b4, 0, none⟩)] w fun e w' => e = .returned (.bool (!lastU l acts i acts.length)) ∧ Below w.heap.size w w' := by
 have H := Lib.hid (isLast115 w HP i hi)
 clear HP
 generalize lastU l acts i acts.length = r at *
 go_enter Tryz.func114, Tryz.ntmps114
 go_wp2_with fail
 refine H.out.mono ?_
 rintro e w1 ⟨rfl, hb⟩
 go_wp2_with fail
 refine bodyPost_ret (v := .bool (!r)) (by simp [results, Tryz.results114, go_sem]) rfl ⟨rfl, hb⟩
set_option maxHeartbeats 4000000 in
theorem Last_good {b : Sol} {v av : Value} {l : List Sol} {m : List Ac} {s : Stn} (h : begunM b l m = .inr s) (w : World) (Hv : SlS w v l) (Hav : SlA w av m) :
  Calls Tryz.prog 47 #[.agg #[.int .u64 (pl b 0), .int .u64 (pl b 1), .int .u64 (pl b 2), .int .u64 (pl b 3), .int .u64 (pl b 4), .int .u64 (pl b 5), .int .u64 (pl b 6), .int .u64 (pl b 7), v, av]] w fun e w' => ∃ u, e = .returned (.tuple #[u, .int .i64 0]) ∧ SlI w' u (FI (fun i => lastU l m i m.length) m.length) ∧ Below w.heap.size w w' := by
 have H := Lib.hid fun w' (hb : Below w.heap.size w w') => begun_good h w' (Hv.mono hb) (Hav.mono hb)
 have hn := (begunM_good h).2.1
 clear h Hv Hav
 go_enter Tryz.func47, Tryz.ntmps47
 go_wp2_with fail
 refine (H.out _ bel_by).mono ?_
 rintro e w1 ⟨bp, rfl, hbp, hP, hb⟩
 have hB1 : Below w.heap.size w w1 := bel_trans bel_by hb
 have HP := Lib.hid hP; clear hP hb H hbp
 go_wp2_with fail
 have hbe : Below w1.heap.size w1 (w1.alloc (.cells (#[.pointer (some ⟨bp, 0, none⟩)] : Array Value) 101)) := bel_alloc (bel_refl _) _
 have g4 : Blk (w1.alloc (.cells (#[.pointer (some ⟨bp, 0, none⟩)] : Array Value) 101)) w1.heap.size #[.pointer (some ⟨bp, 0, none⟩)] 101 := Blk.new _ _ _
 generalize (w1.alloc (.cells (#[.pointer (some ⟨bp, 0, none⟩)] : Array Value) 101)) = w2 at *
 have HP2 := Lib.hid (HP.out.grow hbe)
 refine (indices_spec w2 HP2.out hn).mono ?_
 rintro e w3 ⟨u3, rfl, o3, hb3⟩
 have hB3 : Below w.heap.size w w3 := bel_trans (bel_trans hB1 hbe) hb3
 have HP3 := Lib.hid (HP2.out.grow hb3)
 have g4' := g4.grow hb3
 have l4 := g4.lt
 have hs3 := hb3.size
 have hs1 : w.heap.size ≤ w2.heap.size := Nat.le_trans hB1.size hbe.size
 have HF : Hid (∀ w', Below w2.heap.size w3 w' → ∀ x ∈ upto m.length, Calls Tryz.prog 114 #[.int .i64 x, .pointer (some ⟨w1.heap.size, 0, none⟩)] w' fun e w'' => e = .returned (.bool (!lastU l m x.toNat m.length)) ∧ Below w'.heap.size w' w'') := Lib.hid fun w' hw x hx => by
  have hr := upto_range x hx
  obtain ⟨i, rfl⟩ : ∃ i : Nat, x = (i : Int) := ⟨x.toNat, by omega⟩
  rw [Int.toNat_natCast]
  exact last114 w' (HP2.out.grow (hb3.trans hw)) _ ((g4'.below hw l4).cell 0) i (by omega)
 have HO3 := Lib.hid o3
 clear o3 hb3 hbe g4 g4' HP HP2 HP3 hB1
 go_wp2_with fail
 refine (DeleteFunc114 u3 _ (upto m.length) (fun x => !lastU l m x.toNat m.length) w2.heap.size w3 HO3.out hs3 HF.out).mono ?_
 rintro e w4 ⟨u4, rfl, o4, hb4⟩
 rw [upto_FI (fun i => lastU l m i m.length)] at o4
 have hB4 : Below w.heap.size w w4 := hB3.trans (hb4.mono hs1)
 have HO4 := Lib.hid (OwnI.sl o4)
 clear o4 hb4
 go_wp2_with fail
 refine bodyPost_ret (v := .tuple #[u4, .int .i64 0]) (by simp [results, Tryz.results47, go_sem]) rfl ⟨u4, rfl, HO4.out, hB4⟩
set_option maxHeartbeats 2000000 in
theorem Last_bad {b : Sol} {v av : Value} {l : List Sol} {m : List Ac} {x : Nat × Int} (h : begunM b l m = .inl x) (w : World) (Hv : SlS w v l) (Hav : SlA w av m) :
  Calls Tryz.prog 47 #[.agg #[.int .u64 (pl b 0), .int .u64 (pl b 1), .int .u64 (pl b 2), .int .u64 (pl b 3), .int .u64 (pl b 4), .int .u64 (pl b 5), .int .u64 (pl b 6), .int .u64 (pl b 7), v, av]] w fun e w' => e = .returned (.tuple #[.slice none 0 0, .int .i64 x.2]) ∧ Below w.heap.size w w' := by
 have H := Lib.hid fun w' (hb : Below w.heap.size w w') => begun_bad h w' (Hv.mono hb) (Hav.mono hb)
 have hne := begunM_bad h
 clear h Hv Hav
 go_enter Tryz.func47, Tryz.ntmps47
 go_wp2_with fail
 refine (H.out _ bel_by).mono ?_
 rintro e w1 ⟨rfl, hb⟩
 have hB1 : Below w.heap.size w w1 := bel_trans bel_by hb
 clear hb
 go_wp2_with fail
 refine bodyPost_ret (by simp [results, Tryz.results47, go_sem]) rfl ⟨rfl, by first | exact bel_trans hB1 (bel_alloc (bel_refl _) _) | exact hB1⟩
end Go.Proofs.YtccnkebkgegohaaGreatDoor
end
section
namespace Go.Proofs.YtccnkebkgegohaaGreatDoor
open Go.RowKit Go.Rel
set_option maxRecDepth 100000
end Go.Proofs.YtccnkebkgegohaaGreatDoor
end
section
namespace Go.Proofs.YtccnkebkgegohaaGreatDoor
open Go.RowKit Go.Rel
set_option maxRecDepth 100000
/-! Needs, of the reference -/
theorem apart_dep' {l : List Sol} {m : List Ac} {q j : Nat} {x y : Ac} (hx : m[q]? = some x) (hy : m[j]? = some y) : apartB l x y = !depN (cellsOf l m) q j := by
 unfold apartB depN cellsOf
 congr 1
 rw [List.getD_eq_getElem?_getD, List.getD_eq_getElem?_getD, List.getElem?_map, List.getElem?_map, hx, hy]; rfl
end Go.Proofs.YtccnkebkgegohaaGreatDoor
end
section
namespace Go.Proofs.YtccnkebkgegohaaGreatDoor
open Go.RowKit Go.Rel
set_option maxRecDepth 100000
end Go.Proofs.YtccnkebkgegohaaGreatDoor
end
section
namespace Go.Proofs.YtccnkebkgegohaaGreatDoor
open Go.RowKit Go.Rel
set_option maxRecDepth 100000
/-! the law of orders -/
/-- a returned list of numbers, and an error -/
def IRes (L : List Int) (E : Int) (w : World) (e : Ending) (w' : World) : Prop := ∃ u, e = .returned (.tuple #[u, .int .i64 E]) ∧ SlI w' u L ∧ SlI w' u L ∧ Below w.heap.size w w'
end Go.Proofs.YtccnkebkgegohaaGreatDoor
end
section
namespace Go.Proofs.YtccnkebkgegohaaGreatDoor
open Go.RowKit Go.Rel
set_option maxRecDepth 100000
/-! drop, of the reference -/
@[irreducible] def VSl (x v : Value) (_ : World) : Prop := v = x
theorem VSl.stab {x : Value} {R : World → World → Prop} (v : Value) (W W' : World) (h : VSl x v W) (_ : R W W') : VSl x v W' := by unfold VSl at *; exact h
def J (G : Nat) (xs ys : List Ac) (a b c e : Bool) (x y z r : Value) (W : World) : Prop := G ≤ W.heap.size ∧ (a = true → b = false → OwnA W G x []) ∧ (b = true → c = false → OwnA W G y xs) ∧ (c = true → OwnA W G z (xs ++ ys)) ∧ (e = true → r = z)
end Go.Proofs.YtccnkebkgegohaaGreatDoor
end
section
namespace Go.Proofs.YtccnkebkgegohaaGreatDoor
open Go.RowKit Go.Rel
set_option maxRecDepth 100000
/-! slices.Delete of one act of a list of one's own -/
def delC (cur : Array Value) (m : List Ac) (i : Nat) : Array Value := spl cur (i * 10) (((m.drop (i + 1)).map acL).flatten)
theorem OwnB.del {W : World} {base g cap : Nat} {m : List Ac} {cur : Array Value} (h : OwnB W base m g cap cur) {i : Nat} (hi : i < m.length) : OwnB (W.setRow g (delC cur m i)) base (dropL m i) g cap (delC cur m i) := by
 have hle := h.le
 have hl : (((m.drop (i + 1)).map acL).flatten).length = (m.length - (i + 1)) * 10 := by rw [acFlat_len, List.length_drop]
 have hf : i * 10 + (((m.drop (i + 1)).map acL).flatten).length ≤ cur.size := by rw [hl, h.size]; omega
 have hdl := dropL_len hi
 refine ⟨h.base, h.blk.rowS _, by rw [hdl]; omega, h.lim, by unfold delC; rw [spl_size hf]; exact h.size, ?_⟩
 have hlo := spl_lo hf
 unfold delC
 rw [show (dropL m i).length * 10 = i * 10 + (((m.drop (i + 1)).map acL).flatten).length by rw [hdl, hl]; omega, hlo]
 unfold dropL
 rw [List.map_append, List.flatten_append]
 congr 1
 have h3 : (m.map acL).flatten = ((m.take i).map acL).flatten ++ ((m.drop i).map acL).flatten := by rw [← List.flatten_append, ← List.map_append, List.take_append_drop]
 have h4 : (((m.take i).map acL).flatten).length = i * 10 := by rw [acFlat_len, List.length_take]; omega
 have h5 : ((m.take i).map acL).flatten = ((m.map acL).flatten).take (i * 10) := by rw [h3, ← h4, List.take_left]
 rw [h5, ← h.rows, List.take_take, Nat.min_eq_left (by omega)]
theorem OwnB.grw {W W' : World} {base g cap : Nat} {m : List Ac} {cur : Array Value} (h : OwnB W base m g cap cur) (hb : Below W.heap.size W W') : OwnB W' base m g cap cur := ⟨h.base, h.blk.grow hb, h.le, h.lim, h.size, h.rows⟩
theorem del_append {W : World} {base g cap n i : Nat} {m : List Ac} {cur : Array Value} (h : OwnB W base m g cap cur) (hn : m.length = n) (hi : i < n) :
  (Builtin.append_ #[28, 28] 28 #[.slice (some ⟨g, 0, none⟩) i cap, sliced (some ⟨g, 0, none⟩) (i + 1) n cap 10]).run Tryz.prog W = .ok (.slice (some ⟨g, 0, none⟩) (i + (n - (i + 1))) cap) (W.setRow g (delC cur m i)) := by
 obtain ⟨i0, hi0, hz0, hz1, hz2⟩ := info_parts info46
 have hle := h.le
 have hl : (((m.drop (i + 1)).map acL).flatten).length = (n - (i + 1)) * 10 := by rw [acFlat_len, List.length_drop, hn]
 have hfit : i * i0.size + (((m.drop (i + 1)).map acL).flatten).length ≤ cur.size := by rw [hl, h.size, hz1]; omega
 have key : ∃ a c', sliced (some ⟨g, 0, none⟩) (i + 1) n cap 10 = .slice (some a) (n - (i + 1)) c' ∧ ∀ j u, (((m.drop (i + 1)).map acL).flatten)[j]? = some u → W.cell? (a.add j) = some u := by
  unfold sliced
  by_cases hc : cap = i + 1
  ·have hz : n - (i + 1) = 0 := by omega
   have hd : m.drop (i + 1) = [] := List.drop_eq_nil_of_le (by omega)
   refine ⟨⟨g, 0, none⟩, cap - (i + 1), by simp [hc], fun j u hu => ?_⟩
   rw [hd] at hu; simp at hu
  ·refine ⟨⟨g, (i + 1) * 10, none⟩, cap - (i + 1), by simp [hc, Go.WideShapes.add_plain, show ¬ (cap - (i + 1) = 0) by omega], fun j u hu => ?_⟩
   rw [Go.WideShapes.add_plain, h.blk.cell]
   have h3 : (m.map acL).flatten = ((m.take (i + 1)).map acL).flatten ++ ((m.drop (i + 1)).map acL).flatten := by rw [← List.flatten_append, ← List.map_append, List.take_append_drop]
   have h4 : (((m.take (i + 1)).map acL).flatten).length = (i + 1) * 10 := by rw [acFlat_len, List.length_take]; omega
   have h5 : ((m.map acL).flatten)[(i + 1) * 10 + j]? = some u := by rw [h3, List.getElem?_append_right (by omega), h4, Nat.add_sub_cancel_left]; exact hu
   rw [← h.rows, List.getElem?_take] at h5
   split at h5
   ·simpa using h5
   ·cases h5
 obtain ⟨a, c', he, hcell⟩ := key
 rw [he]
 have hr := run_append_room (P := Tryz.prog) W 28 28 46 i0 Tryz.underlying28 hi0 g i cap cur h.blk a (n - (i + 1)) c' (((m.drop (i + 1)).map acL).flatten) (by rw [hl, hz1]) hcell one_ac (by omega) hfit
 rw [hr, hz1]
 rfl
theorem OwnB.clear {W : World} {base g cap : Nat} {m : List Ac} {cur : Array Value} (h : OwnB W base m g cap cur) {vs : List Value} (hf : m.length * 10 + vs.length ≤ cur.size) : OwnB (W.setRow g (spl cur (m.length * 10) vs)) base m g cap (spl cur (m.length * 10) vs) :=
 ⟨h.base, h.blk.rowS _, h.le, h.lim, by rw [spl_size hf]; exact h.size, by rw [spl_take_lo (Nat.le_refl _) (by omega)]; exact h.rows⟩
end Go.Proofs.YtccnkebkgegohaaGreatDoor
end
