import Derived.Test.YtkfimbonmnoglaaGreatDoorRPlaces33
import Derived.Deep.Cut
import Derived.Laws.AppendOwn
/-
  Given contracts of functions of the program, and laws for them, one behind the other.
-/
set_option linter.unusedVariables false
set_option linter.unusedSimpArgs false
set_option linter.unusedSectionVars false
section
namespace Go.Proofs.YtkfimbonmnoglaaGreatDoor
open Go.RowKit Go.Rel Go.Draw Go.Solid
set_option maxRecDepth 100000
attribute [local go_sem] Oper.semAt_some
theorem sl_takeW {w : World} {k i n c : Nat} {a : Option Addr} {xs : List (List Value)} (h : Sl w k (.slice a n c) xs) (hi : i ≤ n) : Sl w k (.slice a i c) (xs.take i) := by
 obtain ⟨a', c', he, h1, h2, h3⟩ := h
 cases he
 have hl : (xs.take i).length = i := by rw [List.length_take]; omega
 refine ⟨a, c, by rw [hl], by rw [hl]; omega, h2, ?_⟩
 rcases h3 with rfl | ⟨b, off, rfl, h4⟩
 ·exact .inl (by simp)
 ·refine .inr ⟨b, off, rfl, h4.1, fun j r u hu => h4.2 j r u ?_⟩
  rw [List.getElem?_take] at hu
  split at hu
  ·exact hu
  ·simp at hu
theorem sl_dropW {w : World} {k i n c : Nat} {a : Option Addr} {xs : List (List Value)} (h : Sl w k (.slice a n c) xs) (hi : i ≤ n) : Sl w k (sliced a i n c k) (xs.drop i) := by
 obtain ⟨a', c', he, h1, h2, h3⟩ := h
 cases he
 have hl : (xs.drop i).length = xs.length - i := by rw [List.length_drop]
 unfold sliced
 refine ⟨_, _, by rw [hl], by rw [hl]; omega, by omega, ?_⟩
 rcases h3 with rfl | ⟨b, off, rfl, h4⟩
 ·exact .inl (by simp)
 ·by_cases hx : xs.drop i = []
  ·exact .inl hx
  ·have hlt : i < xs.length := by
    refine Nat.lt_of_not_le fun h => hx (List.drop_eq_nil_of_le h)
   refine .inr ⟨b, off + i * k, ?_, h4.1, fun j r u hu => ?_⟩
   ·rw [if_neg (by omega)]; simp [Go.WideShapes.add_plain]
   ·rw [List.getElem?_drop] at hu
    have := h4.2 (i + j) r u hu
    rw [show off + i * k + j * k + r = off + (i + j) * k + r by rw [Nat.add_mul]; omega]
    exact this
theorem flat_getS {size : Nat} : ∀ (ls : List (List Value)) (m : Nat) (u : Value), (∀ r ∈ ls, r.length = size) → (ls.flatten)[m]? = some u → ∃ i j, m = i * size + j ∧ (ls[i]?).bind (·[j]?) = some u
 | [], m, u, _, h => by simp at h
 | r :: rest, m, u, hr, h => by
  have hrl : r.length = size := hr r (by simp)
  simp only [List.flatten_cons] at h
  by_cases hm : m < r.length
  ·rw [List.getElem?_append_left hm] at h
   exact ⟨0, m, by omega, by simpa using h⟩
  ·rw [List.getElem?_append_right (by omega)] at h
   obtain ⟨i, j, e, h'⟩ := flat_getS rest _ u (fun r' h' => hr r' (by simp [h'])) h
   exact ⟨i + 1, j, by rw [Nat.add_mul]; omega, by simpa using h'⟩
theorem cells_flatS {w : World} {b off size : Nat} {ls : List (List Value)} (h : Cells w b off size ls) (hs : ∀ r ∈ ls, r.length = size) : ∀ m u, (ls.flatten)[m]? = some u → w.cell? ((⟨b, off, none⟩ : Addr).add m) = some u := by
 intro m u hu
 obtain ⟨i, j, rfl, h'⟩ := flat_getS ls m u hs hu
 have hadd : (⟨b, off, none⟩ : Addr).add (i * size + j) = ⟨b, off + i * size + j, none⟩ := by rw [Addr.add_lit, Nat.add_assoc]
 rw [hadd]
 exact h.2 i j u h'
theorem one_solS {l : List Sol} : ∀ u ∈ (l.map solL).flatten, u.oneCell' = true := by
 intro u hu
 obtain ⟨r, hr, hu⟩ := List.mem_flatten.1 hu
 obtain ⟨x, _, rfl⟩ := List.mem_map.1 hr
 simp at hu
 rcases hu with rfl | rfl | rfl | rfl | rfl | rfl | rfl | rfl <;> rfl
theorem solF_lenS (l : List Sol) : ((l.map solL).flatten).length = l.length * 8 := flat_len10 solL (fun _ => rfl) l
theorem own_nilSo (W : World) {base : Nat} (h : base ≤ W.heap.size) : OwnSo (W.alloc (.cells #[] 26)) base (.slice (some ⟨W.heap.size, 0, none⟩) 0 0) [] := World.ownsRow_lit W #[] 0 h (by decide) rfl
theorem app_solsS {W : World} {base : Nat} {v x : Value} {xs ys : List Sol} (hO : OwnSo W base v xs) (hX : SlS W x ys) (hl : xs.length + ys.length ≤ 1000000) (hbase : base ≤ W.heap.size) :
  ∃ v' W', (Builtin.append_ #[41, 41] 41 #[v, x]).run Tryz.prog W = .ok v' W' ∧ OwnSo W' base v' (xs ++ ys) ∧ Below base W W' := by
 obtain ⟨i0, hi, hz0, hz1, hz2⟩ := info_parts infoSol
 have hlt := World.ownsRow.lt hO
 rcases hX.cases with ⟨hy, a, c, rfl, hc⟩ | ⟨b, off, c, rfl, hc, hcm, hpos, hcs⟩
 ·have hy' : ys = [] := List.map_eq_nil_iff.1 hy
  subst hy'
  rw [List.append_nil]
  cases a with
  | none =>
   have hr : (Builtin.append_ #[41, 41] 41 #[v, .slice none 0 c]).run Tryz.prog W = .ok v W := by
    rcases hO.2 with ⟨rfl, hn⟩ | ⟨g, cap, cur, rfl, _, _, hnc, _⟩
    ·simp [Builtin.append_, run_underlying Tryz.underlying41, sizeOf, typeInfo, hi, Builtin.lenOf, Builtin.firstCells]
    ·simp [Builtin.append_, run_underlying Tryz.underlying41, sizeOf, typeInfo, hi, Builtin.lenOf, Builtin.firstCells, hnc, storeCells]
   exact ⟨v, W, hr, hO, Below.refl _ _⟩
  | some ad =>
   obtain ⟨v', w', hr, hO', hgr, _⟩ := run_append_own (P := Tryz.prog) W base 41 41 26 i0 _ 8 64 Tryz.underlying41 hi hz0 hz1 hz2 rfl (by decide) _ xs.length _ hO ad 0 c [] (by simp) (fun j u hu => by simp at hu) (fun x hx => by simp at hx) (by unfold maxLen; simp at hl; omega) (by simp at hl; omega) hbase
   refine ⟨v', w', hr, ?_, (Below.refl _ _).grown hgr hbase (fun k hk => (hlt k hk).1)⟩
   unfold OwnSo
   simpa using hO'
 ·rw [List.length_map] at hc hpos
  obtain ⟨v', w', hr, hO', hgr, _⟩ := run_append_own (P := Tryz.prog) W base 41 41 26 i0 _ 8 64 Tryz.underlying41 hi hz0 hz1 hz2 rfl (by decide) _ xs.length _ hO ⟨b, off, none⟩ ys.length c ((ys.map solL).flatten) (solF_lenS ys) (fun j u hu => cells_flatS hcs (fun r hr => by obtain ⟨s, _, rfl⟩ := List.mem_map.1 hr; rfl) j u hu) one_solS (by unfold maxLen; omega) (by omega) hbase
  refine ⟨v', w', by rw [List.length_map]; exact hr, ?_, (Below.refl _ _).grown hgr hbase (fun k hk => (hlt k hk).1)⟩
  unfold OwnSo
  rw [List.length_append, List.map_append, List.flatten_append]
  exact hO'
/-- append, by what it answers -/
theorem wpList_append_run {P : Program} {w : World} {ops : Array Oper} {rest : List Oper} {o : Oper} {a : Act} {Q : Exit → Act → World → Prop} (hgd : o.guard = none) (s x : Operand) (t u : TypeId)
  (ho : o.op = .call { callee := .builtin .append, args := #[s, x], argTypes := #[t, u] }) (v xv : Value) (hs : a.eval s = v) (hx : a.eval x = xv) {v' : Value} {w' : World}
  (hr : (Builtin.append_ #[t, u] o.type #[v, xv]).run P w = .ok v' w') (h : wpList P ops Q rest (a.put o.dst v') w') : wpList P ops Q (o :: rest) a w := by
 refine wpList_plain hgd fun K hK => ?_
 unfold Oper.wp execOp
 simp only [ho, resolve, invoke, builtin, Sem.run_bind, Sem.run_pure, Result.andThen_ok, List.map_toArray, List.map_cons, List.map_nil, hs, hx, hr]
 exact hK _ _ h
theorem own_wide {W W' : World} {base : Nat} {v : Value} {l : List Sol} (h : OwnSo W base v l) (hb : Below W.heap.size W W') : OwnSo W' base v l := own_gb h hb
theorem sl_one {W : World} {b : Nat} {s : Sol} {T : TypeId} (h : Blk W b #[.int .u64 (pl s 0), .int .u64 (pl s 1), .int .u64 (pl s 2), .int .u64 (pl s 3), .int .u64 (pl s 4), .int .u64 (pl s 5), .int .u64 (pl s 6), .int .u64 (pl s 7)] T) : SlS W (.slice (some ⟨b, 0, none⟩) 1 1) [s] := by
 refine ⟨_, 1, rfl, by simp, by simp, .inr ⟨b, 0, rfl, h.lt, fun i j u hu => ?_⟩⟩
 match i with
 | 0 =>
  rw [h.cell]
  simp only [List.map_cons, List.map_nil, List.getElem?_cons_zero, Option.bind_some] at hu
  simpa using hu
 | i + 1 => simp at hu
set_option maxHeartbeats 8000000 in
theorem refPut_nil (s : Sol) (w : World) : Calls Tryz.prog 105 #[.slice none 0 0, solV s] w fun e w' => ∃ u, e = .returned u ∧ OwnSo w' w.heap.size u [s] ∧ Below w.heap.size w w' := by
 have HLEN := Lib.hid (show (0 : Nat) ≤ 0 from Nat.le_refl _)
 go_enter Tryz.func105, Tryz.ntmps105
 go_wp2_with fail
 obtain ⟨W0, hW0⟩ : ∃ W0, W0 = w.alloc (.cells #[.int .u64 (pl s 0), .int .u64 (pl s 1), .int .u64 (pl s 2), .int .u64 (pl s 3), .int .u64 (pl s 4), .int .u64 (pl s 5), .int .u64 (pl s 6), .int .u64 (pl s 7)] 26) := ⟨_, rfl⟩
 have HB : Hid (Blk W0 w.heap.size #[.int .u64 (pl s 0), .int .u64 (pl s 1), .int .u64 (pl s 2), .int .u64 (pl s 3), .int .u64 (pl s 4), .int .u64 (pl s 5), .int .u64 (pl s 6), .int .u64 (pl s 7)] 26 ∧ Below w.heap.size w W0) := Lib.hid (by rw [hW0]; exact ⟨Blk.new _ _ _, (by repeat (first | with_reducible exact bel_refl _ | with_reducible assumption | with_reducible refine bel_drewN ?_ _ | with_reducible refine bel_drew ?_ | with_reducible refine bel_alloc ?_ _ | with_reducible refine bel_row ?_ ?_ _ | with_reducible refine bel_set ?_ ?_ _ | refine bel_trans ?_ (by with_reducible assumption) | (simp; done) | (simp; omega)))⟩)
 rw [← hW0]
 clear hW0
 go_loopw [5] (fun iv wx => iv = .int .i64 0 ∧ Hid (Blk wx w.heap.size #[.int .u64 (pl s 0), .int .u64 (pl s 1), .int .u64 (pl s 2), .int .u64 (pl s 3), .int .u64 (pl s 4), .int .u64 (pl s 5), .int .u64 (pl s 6), .int .u64 (pl s 7)] 26 ∧ Below w.heap.size w wx)) (fun iv _ => (intOf iv).toNat)
 case atStart => exact ⟨rfl, HB⟩
 case round =>
  clear HB
  obtain ⟨rfl, HM⟩ := hrel
  obtain ⟨wB, hwB⟩ : ∃ wB, wB = wr := ⟨_, rfl⟩
  rw [← hwB] at HM ⊢
  clear hwB
  go_wp2_with fail
  refine wp_region_val Grows (fun _ _ _ => True) [Is (.int .i64 0), Is (.bool false), Is (.bool false), Is undef, Is undef, Is undef, Is undef, Is undef, Is undef, Is undef, Is undef, Is (.bool false)] (by kernel_rfl) (by kernel_rfl) rfl Grows.refl (fun _ _ _ => Grows.trans) (stable_mem ⟨fun _ _ _ h _ => h, fun _ _ _ h _ => h, fun _ _ _ h _ => h, fun _ _ _ h _ => h, fun _ _ _ h _ => h, fun _ _ _ h _ => h, fun _ _ _ h _ => h, fun _ _ _ h _ => h, fun _ _ _ h _ => h, fun _ _ _ h _ => h, fun _ _ _ h _ => h, fun _ _ _ h _ => h, trivial⟩) wB (Below.drew (Below.refl _ _)) trivial ?_
  refine val_cons ?_ (fun v0 => ?_)
  ·intro L vs w1 hvs hat hb hI hF; try simp [factsI, Region.binds, Is] at hF
   have hc := (Grows.cells hb).1
   clear hI
   go_simp
   try simp [upd]
   try first | exact Grows.refl _ | exact trivial | exact ⟨Grows.refl _, trivial⟩
  refine val_cons ?_ (fun v1 => ?_)
  ·intro L vs w1 hvs hat hb hI hF; try simp [factsI, Region.binds, Is] at hF
   have hc := (Grows.cells hb).1
   clear hI
   go_simp
   try simp [upd]
   try first | exact Grows.refl _ | exact trivial | exact ⟨Grows.refl _, trivial⟩
  refine val_cons ?_ (fun v2 => ?_)
  ·intro L vs w1 hvs hat hb hI hF; try simp [factsI, Region.binds, Is] at hF
   have hc := (Grows.cells hb).1
   clear hI
   go_simp
   try simp [upd]
   try first | exact Grows.refl _ | exact trivial | exact ⟨Grows.refl _, trivial⟩
  refine val_cons ?_ (fun v3 => ?_)
  ·intro L vs w1 hvs hat hb hI hF; try simp [factsI, Region.binds, Is] at hF
   have hc := (Grows.cells hb).1
   clear hI
   go_simp
   try simp [upd]
   try first | exact Grows.refl _ | exact trivial | exact ⟨Grows.refl _, trivial⟩
  refine val_cons ?_ (fun v4 => ?_)
  ·intro L vs w1 hvs hat hb hI hF; try simp [factsI, Region.binds, Is] at hF
   have hc := (Grows.cells hb).1
   clear hI
   go_simp
   try simp [upd]
   try first | exact Grows.refl _ | exact trivial | exact ⟨Grows.refl _, trivial⟩
  refine val_cons ?_ (fun v5 => ?_)
  ·intro L vs w1 hvs hat hb hI hF; try simp [factsI, Region.binds, Is] at hF
   have hc := (Grows.cells hb).1
   clear hI
   go_simp
   try simp [upd]
   try first | exact Grows.refl _ | exact trivial | exact ⟨Grows.refl _, trivial⟩
  refine val_cons ?_ (fun v6 => ?_)
  ·intro L vs w1 hvs hat hb hI hF; try simp [factsI, Region.binds, Is] at hF
   have hc := (Grows.cells hb).1
   clear hI
   go_simp
   try simp [upd]
   try first | exact Grows.refl _ | exact trivial | exact ⟨Grows.refl _, trivial⟩
  refine val_cons ?_ (fun v7 => ?_)
  ·intro L vs w1 hvs hat hb hI hF; try simp [factsI, Region.binds, Is] at hF
   have hc := (Grows.cells hb).1
   clear hI
   go_simp
   try simp [upd]
   try first | exact Grows.refl _ | exact trivial | exact ⟨Grows.refl _, trivial⟩
  refine val_cons ?_ (fun v8 => ?_)
  ·intro L vs w1 hvs hat hb hI hF; try simp [factsI, Region.binds, Is] at hF
   have hc := (Grows.cells hb).1
   clear hI
   go_simp
   try simp [upd]
   try first | exact Grows.refl _ | exact trivial | exact ⟨Grows.refl _, trivial⟩
  refine val_cons ?_ (fun v9 => ?_)
  ·intro L vs w1 hvs hat hb hI hF; try simp [factsI, Region.binds, Is] at hF
   have hc := (Grows.cells hb).1
   clear hI
   go_simp
   try simp [upd]
   try first | exact Grows.refl _ | exact trivial | exact ⟨Grows.refl _, trivial⟩
  refine val_cons ?_ (fun v10 => ?_)
  ·intro L vs w1 hvs hat hb hI hF; try simp [factsI, Region.binds, Is] at hF
   have hc := (Grows.cells hb).1
   clear hI
   go_simp
   try simp [upd]
   try first | exact Grows.refl _ | exact trivial | exact ⟨Grows.refl _, trivial⟩
  refine val_cons ?_ (fun v11 => ?_)
  ·intro L vs w1 hvs hat hb hI hF; try simp [factsI, Region.binds, Is] at hF
   have hc := (Grows.cells hb).1
   clear hI
   go_simp
   try simp [upd]
   try first | exact Grows.refl _ | exact trivial | exact ⟨Grows.refl _, trivial⟩
  refine val_nil ?_
  intro vs w1 hvs hb hI hF
  simp [Is, Nat.forall_lt_succ_right] at hF
  simp only [Act.put, List.setIfInBounds_toArray, List.set_cons_succ, List.set_cons_zero, hF]
  clear hF
  have HM1 := Lib.hid (And.intro (HM.out.1.grow (show Below _ _ w1 from hb)) (bel_trans HM.out.2 (show Below _ _ w1 from hb)))
  obtain ⟨wC, hwC⟩ : ∃ wC, wC = w1 := ⟨_, rfl⟩
  rw [← hwC] at HM1 ⊢
  clear hwC hb hvs HM
  go_wp2_with fail
  refine wp_region_val Grows (fun _ _ _ => True) [Is (.int .i64 0), Is (.bool false), Is (.bool false), Is undef, Is undef, Is undef, Is undef, Is undef, Is undef, Is undef, Is (.bool false)] (by kernel_rfl) (by kernel_rfl) rfl Grows.refl (fun _ _ _ => Grows.trans) (stable_mem ⟨fun _ _ _ h _ => h, fun _ _ _ h _ => h, fun _ _ _ h _ => h, fun _ _ _ h _ => h, fun _ _ _ h _ => h, fun _ _ _ h _ => h, fun _ _ _ h _ => h, fun _ _ _ h _ => h, fun _ _ _ h _ => h, fun _ _ _ h _ => h, fun _ _ _ h _ => h, trivial⟩) wC (Below.drew (Below.refl _ _)) trivial ?_
  refine val_cons ?_ (fun v0 => ?_)
  ·intro L vs w1 hvs hat hb hI hF; try simp [factsI, Region.binds, Is] at hF
   have hc := (Grows.cells hb).1
   clear hI
   go_simp
   try simp [upd]
   try first | exact Grows.refl _ | exact trivial | exact ⟨Grows.refl _, trivial⟩
  refine val_cons ?_ (fun v1 => ?_)
  ·intro L vs w1 hvs hat hb hI hF; try simp [factsI, Region.binds, Is] at hF
   have hc := (Grows.cells hb).1
   clear hI
   go_simp
   try simp [upd]
   try first | exact Grows.refl _ | exact trivial | exact ⟨Grows.refl _, trivial⟩
  refine val_cons ?_ (fun v2 => ?_)
  ·intro L vs w1 hvs hat hb hI hF; try simp [factsI, Region.binds, Is] at hF
   have hc := (Grows.cells hb).1
   clear hI
   go_simp
   try simp [upd]
   try first | exact Grows.refl _ | exact trivial | exact ⟨Grows.refl _, trivial⟩
  refine val_cons ?_ (fun v3 => ?_)
  ·intro L vs w1 hvs hat hb hI hF; try simp [factsI, Region.binds, Is] at hF
   have hc := (Grows.cells hb).1
   clear hI
   go_simp
   try simp [upd]
   try first | exact Grows.refl _ | exact trivial | exact ⟨Grows.refl _, trivial⟩
  refine val_cons ?_ (fun v4 => ?_)
  ·intro L vs w1 hvs hat hb hI hF; try simp [factsI, Region.binds, Is] at hF
   have hc := (Grows.cells hb).1
   clear hI
   go_simp
   try simp [upd]
   try first | exact Grows.refl _ | exact trivial | exact ⟨Grows.refl _, trivial⟩
  refine val_cons ?_ (fun v5 => ?_)
  ·intro L vs w1 hvs hat hb hI hF; try simp [factsI, Region.binds, Is] at hF
   have hc := (Grows.cells hb).1
   clear hI
   go_simp
   try simp [upd]
   try first | exact Grows.refl _ | exact trivial | exact ⟨Grows.refl _, trivial⟩
  refine val_cons ?_ (fun v6 => ?_)
  ·intro L vs w1 hvs hat hb hI hF; try simp [factsI, Region.binds, Is] at hF
   have hc := (Grows.cells hb).1
   clear hI
   go_simp
   try simp [upd]
   try first | exact Grows.refl _ | exact trivial | exact ⟨Grows.refl _, trivial⟩
  refine val_cons ?_ (fun v7 => ?_)
  ·intro L vs w1 hvs hat hb hI hF; try simp [factsI, Region.binds, Is] at hF
   have hc := (Grows.cells hb).1
   clear hI
   go_simp
   try simp [upd]
   try first | exact Grows.refl _ | exact trivial | exact ⟨Grows.refl _, trivial⟩
  refine val_cons ?_ (fun v8 => ?_)
  ·intro L vs w1 hvs hat hb hI hF; try simp [factsI, Region.binds, Is] at hF
   have hc := (Grows.cells hb).1
   clear hI
   go_simp
   try simp [upd]
   try first | exact Grows.refl _ | exact trivial | exact ⟨Grows.refl _, trivial⟩
  refine val_cons ?_ (fun v9 => ?_)
  ·intro L vs w1 hvs hat hb hI hF; try simp [factsI, Region.binds, Is] at hF
   have hc := (Grows.cells hb).1
   clear hI
   go_simp
   try simp [upd]
   try first | exact Grows.refl _ | exact trivial | exact ⟨Grows.refl _, trivial⟩
  refine val_cons ?_ (fun v10 => ?_)
  ·intro L vs w1 hvs hat hb hI hF; try simp [factsI, Region.binds, Is] at hF
   have hc := (Grows.cells hb).1
   clear hI
   go_simp
   try simp [upd]
   try first | exact Grows.refl _ | exact trivial | exact ⟨Grows.refl _, trivial⟩
  refine val_nil ?_
  intro vs w1 hvs hb hI hF
  simp [Is, Nat.forall_lt_succ_right] at hF
  simp only [Act.put, List.setIfInBounds_toArray, List.set_cons_succ, List.set_cons_zero, hF]
  clear hF
  have HM2 := Lib.hid (And.intro (HM1.out.1.grow (show Below _ _ w1 from hb)) (bel_trans HM1.out.2 (show Below _ _ w1 from hb)))
  obtain ⟨wD, hwD⟩ : ∃ wD, wD = w1 := ⟨_, rfl⟩
  rw [← hwD] at HM2 ⊢
  clear hwD hb hvs HM1
  have hsz : w.heap.size + 1 ≤ wD.heap.size := HM2.out.1.lt
  have hbX := bel_alloc HM2.out.2 (.cells #[] 26)
  obtain ⟨v1, W1, hr1, hO1, hb1⟩ := app_solsS (x := .slice none 0 0) (ys := []) (own_nilSo wD hsz) ⟨none, 0, rfl, by simp, by simp, .inl rfl⟩ (by have := HLEN.out; simp <;> omega) (by simp; omega)
  have hbX1 := hbX.trans (hb1.mono (Nat.le_succ _))
  have B1 : Blk W1 w.heap.size #[.int .u64 (pl s 0), .int .u64 (pl s 1), .int .u64 (pl s 2), .int .u64 (pl s 3), .int .u64 (pl s 4), .int .u64 (pl s 5), .int .u64 (pl s 6), .int .u64 (pl s 7)] 26 := (HM2.out.1.alloc (.cells #[] 26)).below hb1 (Nat.lt_succ_self _)
  have hs1 : w.heap.size + 1 ≤ W1.heap.size := B1.lt
  clear hbX
  have hbX := bel_alloc hbX1 (.cells #[.int .u64 (pl s 0), .int .u64 (pl s 1), .int .u64 (pl s 2), .int .u64 (pl s 3), .int .u64 (pl s 4), .int .u64 (pl s 5), .int .u64 (pl s 6), .int .u64 (pl s 7)] 26)
  have hS1 := sl_one (Blk.new W1 #[.int .u64 (pl s 0), .int .u64 (pl s 1), .int .u64 (pl s 2), .int .u64 (pl s 3), .int .u64 (pl s 4), .int .u64 (pl s 5), .int .u64 (pl s 6), .int .u64 (pl s 7)] 26)
  obtain ⟨v2, W2, hr2, hO2, hb2⟩ := app_solsS (World.ownsRow.alloc hO1 (.cells #[.int .u64 (pl s 0), .int .u64 (pl s 1), .int .u64 (pl s 2), .int .u64 (pl s 3), .int .u64 (pl s 4), .int .u64 (pl s 5), .int .u64 (pl s 6), .int .u64 (pl s 7)] 26)) hS1 (by have := HLEN.out; simp <;> omega) (by simp; omega)
  have hbX2 := hbX.trans (hb2.mono (Nat.le_succ _))
  have hs2 : w.heap.size + 1 ≤ W2.heap.size := by have := hb2.size; simp at this; omega
  clear hbX
  have hbX := hbX2
  obtain ⟨v3, W3, hr3, hO3, hb3⟩ := app_solsS (x := .slice none 0 0) (ys := []) hO2 ⟨none, 0, rfl, by simp, by simp, .inl rfl⟩ (by have := HLEN.out; simp <;> omega) hs2
  have hbX3 := hbX2.trans (hb3.mono (Nat.le_succ _))
  have HR := Lib.hid (And.intro hr1 (And.intro hr2 hr3))
  have HF := Lib.hid (And.intro (own_weak hO3 (Nat.le_succ _) : OwnSo W3 w.heap.size v3 _) hbX3)
  have c1 := B1.cell; have l1 := B1.lt
  clear hsz hs1 hs2 hbX hbX1 hbX2 hbX3 hO1 hO2 hO3 hb1 hb2 hb3 hr1 hr2 hr3 hS1 B1
  go_upto_region 7 with (first | (at_builtin; refine wpList_append_run rfl _ _ _ _ rfl _ _ rfl rfl HR.out.1 ?_))
  go_upto_region 8 with (first | (at_builtin; refine wpList_append_run rfl _ _ _ _ rfl _ _ rfl rfl HR.out.2.1 ?_))
  clear c1 l1
  go_wp2_with (first | (at_builtin; refine wpList_append_run rfl _ _ _ _ rfl _ _ rfl rfl HR.out.2.2 ?_))
  go_ret
  exact ⟨_, rfl, by have h := HF.out.1; simp only [List.nil_append, List.append_nil] at h; exact h, HF.out.2⟩
theorem put_nil (s : Sol) : putS [] s = [s] := rfl
theorem put_ne (l : List Sol) (s : Sol) : putS l s ≠ [] := by
 cases l with
 | nil => simp [putS]
 | cons x l =>
  unfold putS
  split
  ·simp
  ·split <;> simp
attribute [local irreducible] putS rank
set_option maxHeartbeats 16000000 in
theorem refPut_cons {w : World} {base : Nat} {v : Value} {l : List Sol} {s : Sol} (hO : OwnSo w base v l) (hbase : base ≤ w.heap.size) (hne : l ≠ []) (hlen : l.length ≤ 100000) (ha : Asc l) :
  Calls Tryz.prog 105 #[v, solV s] w fun e w' => ∃ u, e = .returned u ∧ OwnSo w' base u (putS l s) ∧ Below w.heap.size w w' := by
 have HLEN := Lib.hid hlen
 have hsl := hO.sl
 have HASC := Lib.hid ha
 have HOW := Lib.hid (And.intro hO hbase)
 obtain ⟨a, c, hv, hSO⟩ := SlS.opened hsl
 have hpos : 0 < l.length := List.length_pos_iff.2 hne
 obtain ⟨b0, o0, ha0, hC⟩ := hSO.at (List.getElem?_eq_getElem hpos)
 subst ha0
 subst hv
 obtain ⟨n0, hn0⟩ : ∃ n, n = l.length := ⟨_, rfl⟩
 have hcap : n0 ≤ c := by
  obtain ⟨a', n', c', e, e1, e2, e3⟩ := hsl.out
  injection e with _ e4 e5
  omega
 have HSL := Lib.hid (And.intro (show SlS w (.slice (some ⟨b0, o0, none⟩) n0 c) l by rw [hn0]; exact hsl) hC)
 have HPG := Lib.hid fun (x : Sol) W => refCompare_spec s x W
 have HN := Lib.hid hn0
 rw [← hn0] at hpos hlen
 clear hO hbase hne hsl hSO ha hC
 rw [← hn0]
 clear hn0
 go_enter Tryz.func105, Tryz.ntmps105
 go_wp2_with fail
 obtain ⟨W0, hW0⟩ : ∃ W0, W0 = w.alloc (.cells #[.int .u64 (pl s 0), .int .u64 (pl s 1), .int .u64 (pl s 2), .int .u64 (pl s 3), .int .u64 (pl s 4), .int .u64 (pl s 5), .int .u64 (pl s 6), .int .u64 (pl s 7)] 26) := ⟨_, rfl⟩
 have HB : Hid (Blk W0 w.heap.size #[.int .u64 (pl s 0), .int .u64 (pl s 1), .int .u64 (pl s 2), .int .u64 (pl s 3), .int .u64 (pl s 4), .int .u64 (pl s 5), .int .u64 (pl s 6), .int .u64 (pl s 7)] 26 ∧ Below w.heap.size w W0) := Lib.hid (by rw [hW0]; exact ⟨Blk.new _ _ _, (by repeat (first | with_reducible exact bel_refl _ | with_reducible assumption | with_reducible refine bel_drewN ?_ _ | with_reducible refine bel_drew ?_ | with_reducible refine bel_alloc ?_ _ | with_reducible refine bel_row ?_ ?_ _ | with_reducible refine bel_set ?_ ?_ _ | refine bel_trans ?_ (by with_reducible assumption) | (simp; done) | (simp; omega)))⟩)
 rw [← hW0]
 clear hW0
 go_loopw [5] (fun iv wx => ∃ k : Nat, k ≤ n0 ∧ iv = .int .i64 k ∧ Hid ((∀ j x, k ≤ j → l[j]? = some x → rank s < rank x) ∧ Blk wx w.heap.size #[.int .u64 (pl s 0), .int .u64 (pl s 1), .int .u64 (pl s 2), .int .u64 (pl s 3), .int .u64 (pl s 4), .int .u64 (pl s 5), .int .u64 (pl s 6), .int .u64 (pl s 7)] 26 ∧ Below w.heap.size w wx)) (fun iv _ => (intOf iv).toNat)
 case atStart => exact ⟨n0, Nat.le_refl _, rfl, Lib.hid ⟨fun j x hj hx => absurd (List.getElem?_eq_some_iff.1 hx).1 (by rw [← HN.out]; omega), HB.out⟩⟩
 case round =>
  clear HB
  obtain ⟨k, hk, rfl, HM⟩ := hrel
  obtain ⟨wB, hwB⟩ : ∃ wB, wB = wr := ⟨_, rfl⟩
  rw [← hwB] at HM ⊢
  clear hwB
  by_cases hk0 : k = 0
  ·subst hk0
   have HPT : Hid (putS l s = l.take 0 ++ s :: l.drop 0) := Lib.hid (put_at0 HASC.out (fun j x hx => HM.out.1 j x (Nat.zero_le _) hx))
   go_wp2_with fail
   refine wp_region_val Grows (fun _ _ _ => True) [Is (.int .i64 0), Is (.bool false), Is (.bool false), Is undef, Is undef, Is undef, Is undef, Is undef, Is undef, Is undef, Is undef, Is (.bool false)] (by kernel_rfl) (by kernel_rfl) rfl Grows.refl (fun _ _ _ => Grows.trans) (stable_mem ⟨fun _ _ _ h _ => h, fun _ _ _ h _ => h, fun _ _ _ h _ => h, fun _ _ _ h _ => h, fun _ _ _ h _ => h, fun _ _ _ h _ => h, fun _ _ _ h _ => h, fun _ _ _ h _ => h, fun _ _ _ h _ => h, fun _ _ _ h _ => h, fun _ _ _ h _ => h, fun _ _ _ h _ => h, trivial⟩) wB (Below.drew (Below.refl _ _)) trivial ?_
   refine val_cons ?_ (fun v0 => ?_)
   ·intro L vs w1 hvs hat hb hI hF; try simp [factsI, Region.binds, Is] at hF
    have hc := (Grows.cells hb).1
    clear hI
    go_simp
    try simp [upd]
    try first | exact Grows.refl _ | exact trivial | exact ⟨Grows.refl _, trivial⟩
   refine val_cons ?_ (fun v1 => ?_)
   ·intro L vs w1 hvs hat hb hI hF; try simp [factsI, Region.binds, Is] at hF
    have hc := (Grows.cells hb).1
    clear hI
    go_simp
    try simp [upd]
    try first | exact Grows.refl _ | exact trivial | exact ⟨Grows.refl _, trivial⟩
   refine val_cons ?_ (fun v2 => ?_)
   ·intro L vs w1 hvs hat hb hI hF; try simp [factsI, Region.binds, Is] at hF
    have hc := (Grows.cells hb).1
    clear hI
    go_simp
    try simp [upd]
    try first | exact Grows.refl _ | exact trivial | exact ⟨Grows.refl _, trivial⟩
   refine val_cons ?_ (fun v3 => ?_)
   ·intro L vs w1 hvs hat hb hI hF; try simp [factsI, Region.binds, Is] at hF
    have hc := (Grows.cells hb).1
    clear hI
    go_simp
    try simp [upd]
    try first | exact Grows.refl _ | exact trivial | exact ⟨Grows.refl _, trivial⟩
   refine val_cons ?_ (fun v4 => ?_)
   ·intro L vs w1 hvs hat hb hI hF; try simp [factsI, Region.binds, Is] at hF
    have hc := (Grows.cells hb).1
    clear hI
    go_simp
    try simp [upd]
    try first | exact Grows.refl _ | exact trivial | exact ⟨Grows.refl _, trivial⟩
   refine val_cons ?_ (fun v5 => ?_)
   ·intro L vs w1 hvs hat hb hI hF; try simp [factsI, Region.binds, Is] at hF
    have hc := (Grows.cells hb).1
    clear hI
    go_simp
    try simp [upd]
    try first | exact Grows.refl _ | exact trivial | exact ⟨Grows.refl _, trivial⟩
   refine val_cons ?_ (fun v6 => ?_)
   ·intro L vs w1 hvs hat hb hI hF; try simp [factsI, Region.binds, Is] at hF
    have hc := (Grows.cells hb).1
    clear hI
    go_simp
    try simp [upd]
    try first | exact Grows.refl _ | exact trivial | exact ⟨Grows.refl _, trivial⟩
   refine val_cons ?_ (fun v7 => ?_)
   ·intro L vs w1 hvs hat hb hI hF; try simp [factsI, Region.binds, Is] at hF
    have hc := (Grows.cells hb).1
    clear hI
    go_simp
    try simp [upd]
    try first | exact Grows.refl _ | exact trivial | exact ⟨Grows.refl _, trivial⟩
   refine val_cons ?_ (fun v8 => ?_)
   ·intro L vs w1 hvs hat hb hI hF; try simp [factsI, Region.binds, Is] at hF
    have hc := (Grows.cells hb).1
    clear hI
    go_simp
    try simp [upd]
    try first | exact Grows.refl _ | exact trivial | exact ⟨Grows.refl _, trivial⟩
   refine val_cons ?_ (fun v9 => ?_)
   ·intro L vs w1 hvs hat hb hI hF; try simp [factsI, Region.binds, Is] at hF
    have hc := (Grows.cells hb).1
    clear hI
    go_simp
    try simp [upd]
    try first | exact Grows.refl _ | exact trivial | exact ⟨Grows.refl _, trivial⟩
   refine val_cons ?_ (fun v10 => ?_)
   ·intro L vs w1 hvs hat hb hI hF; try simp [factsI, Region.binds, Is] at hF
    have hc := (Grows.cells hb).1
    clear hI
    go_simp
    try simp [upd]
    try first | exact Grows.refl _ | exact trivial | exact ⟨Grows.refl _, trivial⟩
   refine val_cons ?_ (fun v11 => ?_)
   ·intro L vs w1 hvs hat hb hI hF; try simp [factsI, Region.binds, Is] at hF
    have hc := (Grows.cells hb).1
    clear hI
    go_simp
    try simp [upd]
    try first | exact Grows.refl _ | exact trivial | exact ⟨Grows.refl _, trivial⟩
   refine val_nil ?_
   intro vs w1 hvs hb hI hF
   simp [Is, Nat.forall_lt_succ_right] at hF
   simp only [Act.put, List.setIfInBounds_toArray, List.set_cons_succ, List.set_cons_zero, hF]
   clear hF
   have HM1 := Lib.hid (And.intro (HM.out.2.1.grow (show Below _ _ w1 from hb)) (bel_trans HM.out.2.2 (show Below _ _ w1 from hb)))
   obtain ⟨wC, hwC⟩ : ∃ wC, wC = w1 := ⟨_, rfl⟩
   rw [← hwC] at HM1 ⊢
   clear hwC hb hvs HM
   go_wp2_with fail
   refine wp_region_val Grows (fun _ _ _ => True) [Is (.int .i64 0), Is (.bool false), Is (.bool false), Is undef, Is undef, Is undef, Is undef, Is undef, Is undef, Is undef, Is (.bool false)] (by kernel_rfl) (by kernel_rfl) rfl Grows.refl (fun _ _ _ => Grows.trans) (stable_mem ⟨fun _ _ _ h _ => h, fun _ _ _ h _ => h, fun _ _ _ h _ => h, fun _ _ _ h _ => h, fun _ _ _ h _ => h, fun _ _ _ h _ => h, fun _ _ _ h _ => h, fun _ _ _ h _ => h, fun _ _ _ h _ => h, fun _ _ _ h _ => h, fun _ _ _ h _ => h, trivial⟩) wC (Below.drew (Below.refl _ _)) trivial ?_
   refine val_cons ?_ (fun v0 => ?_)
   ·intro L vs w1 hvs hat hb hI hF; try simp [factsI, Region.binds, Is] at hF
    have hc := (Grows.cells hb).1
    clear hI
    go_simp
    try simp [upd]
    try first | exact Grows.refl _ | exact trivial | exact ⟨Grows.refl _, trivial⟩
   refine val_cons ?_ (fun v1 => ?_)
   ·intro L vs w1 hvs hat hb hI hF; try simp [factsI, Region.binds, Is] at hF
    have hc := (Grows.cells hb).1
    clear hI
    go_simp
    try simp [upd]
    try first | exact Grows.refl _ | exact trivial | exact ⟨Grows.refl _, trivial⟩
   refine val_cons ?_ (fun v2 => ?_)
   ·intro L vs w1 hvs hat hb hI hF; try simp [factsI, Region.binds, Is] at hF
    have hc := (Grows.cells hb).1
    clear hI
    go_simp
    try simp [upd]
    try first | exact Grows.refl _ | exact trivial | exact ⟨Grows.refl _, trivial⟩
   refine val_cons ?_ (fun v3 => ?_)
   ·intro L vs w1 hvs hat hb hI hF; try simp [factsI, Region.binds, Is] at hF
    have hc := (Grows.cells hb).1
    clear hI
    go_simp
    try simp [upd]
    try first | exact Grows.refl _ | exact trivial | exact ⟨Grows.refl _, trivial⟩
   refine val_cons ?_ (fun v4 => ?_)
   ·intro L vs w1 hvs hat hb hI hF; try simp [factsI, Region.binds, Is] at hF
    have hc := (Grows.cells hb).1
    clear hI
    go_simp
    try simp [upd]
    try first | exact Grows.refl _ | exact trivial | exact ⟨Grows.refl _, trivial⟩
   refine val_cons ?_ (fun v5 => ?_)
   ·intro L vs w1 hvs hat hb hI hF; try simp [factsI, Region.binds, Is] at hF
    have hc := (Grows.cells hb).1
    clear hI
    go_simp
    try simp [upd]
    try first | exact Grows.refl _ | exact trivial | exact ⟨Grows.refl _, trivial⟩
   refine val_cons ?_ (fun v6 => ?_)
   ·intro L vs w1 hvs hat hb hI hF; try simp [factsI, Region.binds, Is] at hF
    have hc := (Grows.cells hb).1
    clear hI
    go_simp
    try simp [upd]
    try first | exact Grows.refl _ | exact trivial | exact ⟨Grows.refl _, trivial⟩
   refine val_cons ?_ (fun v7 => ?_)
   ·intro L vs w1 hvs hat hb hI hF; try simp [factsI, Region.binds, Is] at hF
    have hc := (Grows.cells hb).1
    clear hI
    go_simp
    try simp [upd]
    try first | exact Grows.refl _ | exact trivial | exact ⟨Grows.refl _, trivial⟩
   refine val_cons ?_ (fun v8 => ?_)
   ·intro L vs w1 hvs hat hb hI hF; try simp [factsI, Region.binds, Is] at hF
    have hc := (Grows.cells hb).1
    clear hI
    go_simp
    try simp [upd]
    try first | exact Grows.refl _ | exact trivial | exact ⟨Grows.refl _, trivial⟩
   refine val_cons ?_ (fun v9 => ?_)
   ·intro L vs w1 hvs hat hb hI hF; try simp [factsI, Region.binds, Is] at hF
    have hc := (Grows.cells hb).1
    clear hI
    go_simp
    try simp [upd]
    try first | exact Grows.refl _ | exact trivial | exact ⟨Grows.refl _, trivial⟩
   refine val_cons ?_ (fun v10 => ?_)
   ·intro L vs w1 hvs hat hb hI hF; try simp [factsI, Region.binds, Is] at hF
    have hc := (Grows.cells hb).1
    clear hI
    go_simp
    try simp [upd]
    try first | exact Grows.refl _ | exact trivial | exact ⟨Grows.refl _, trivial⟩
   refine val_nil ?_
   intro vs w1 hvs hb hI hF
   simp [Is, Nat.forall_lt_succ_right] at hF
   simp only [Act.put, List.setIfInBounds_toArray, List.set_cons_succ, List.set_cons_zero, hF]
   clear hF
   have HM2 := Lib.hid (And.intro (HM1.out.1.grow (show Below _ _ w1 from hb)) (bel_trans HM1.out.2 (show Below _ _ w1 from hb)))
   obtain ⟨wD, hwD⟩ : ∃ wD, wD = w1 := ⟨_, rfl⟩
   rw [← hwD] at HM2 ⊢
   clear hwD hb hvs HM1
   have hkI : (0 : Int) ≤ (c : Int) := by omega
   have hkJ : (0 : Int) ≤ (n0 : Int) := by omega
   have hkN : 0 ≤ c := by omega
   have hkM : 0 ≤ n0 := by omega
   go_upto_region 6 with fail
   have hsz : w.heap.size + 1 ≤ wD.heap.size := HM2.out.1.lt
   have hbX := bel_alloc HM2.out.2 (.cells #[] 26)
   obtain ⟨v1, W1, hr1, hO1, hb1⟩ := app_solsS (x := (.slice (some ⟨b0, o0, none⟩) 0 c)) (ys := (l.take (0))) (own_nilSo wD hsz) (by have h := sl_takeW (HSL.out.1.mono hbX) (show 0 ≤ n0 by omega); rwa [← List.map_take] at h) (by have := HLEN.out; have := HN.out; simp <;> omega) (by simp; omega)
   have hbX1 := hbX.trans (hb1.mono (Nat.le_succ _))
   have B1 : Blk W1 w.heap.size #[.int .u64 (pl s 0), .int .u64 (pl s 1), .int .u64 (pl s 2), .int .u64 (pl s 3), .int .u64 (pl s 4), .int .u64 (pl s 5), .int .u64 (pl s 6), .int .u64 (pl s 7)] 26 := (HM2.out.1.alloc (.cells #[] 26)).below hb1 (Nat.lt_succ_self _)
   have hs1 : w.heap.size + 1 ≤ W1.heap.size := B1.lt
   clear hbX
   have hbX := bel_alloc hbX1 (.cells #[.int .u64 (pl s 0), .int .u64 (pl s 1), .int .u64 (pl s 2), .int .u64 (pl s 3), .int .u64 (pl s 4), .int .u64 (pl s 5), .int .u64 (pl s 6), .int .u64 (pl s 7)] 26)
   have hS1 := sl_one (Blk.new W1 #[.int .u64 (pl s 0), .int .u64 (pl s 1), .int .u64 (pl s 2), .int .u64 (pl s 3), .int .u64 (pl s 4), .int .u64 (pl s 5), .int .u64 (pl s 6), .int .u64 (pl s 7)] 26)
   obtain ⟨v2, W2, hr2, hO2, hb2⟩ := app_solsS (World.ownsRow.alloc hO1 (.cells #[.int .u64 (pl s 0), .int .u64 (pl s 1), .int .u64 (pl s 2), .int .u64 (pl s 3), .int .u64 (pl s 4), .int .u64 (pl s 5), .int .u64 (pl s 6), .int .u64 (pl s 7)] 26)) hS1 (by have := HLEN.out; have := HN.out; simp <;> omega) (by simp; omega)
   have hbX2 := hbX.trans (hb2.mono (Nat.le_succ _))
   have hs2 : w.heap.size + 1 ≤ W2.heap.size := by have := hb2.size; simp at this; omega
   clear hbX
   have hbX := hbX2
   obtain ⟨v3, W3, hr3, hO3, hb3⟩ := app_solsS (x := (.slice (some ⟨b0, o0, none⟩) n0 c)) (ys := l) hO2 (HSL.out.1.mono hbX) (by have := HLEN.out; have := HN.out; simp <;> omega) hs2
   have hbX3 := hbX2.trans (hb3.mono (Nat.le_succ _))
   have HR := Lib.hid (And.intro hr1 (And.intro hr2 hr3))
   have HF := Lib.hid (And.intro (own_weak hO3 (Nat.le_trans HOW.out.2 (Nat.le_succ _)) : OwnSo W3 base v3 _) hbX3)
   have c1 := B1.cell; have l1 := B1.lt
   clear hsz hs1 hs2 hbX hbX1 hbX2 hbX3 hO1 hO2 hO3 hb1 hb2 hb3 hr1 hr2 hr3 hS1 B1
   go_upto_region 7 with (first | (at_builtin; refine wpList_append_run rfl _ _ _ _ rfl _ _ rfl rfl HR.out.1 ?_))
   go_upto_region 8 with (first | (at_builtin; refine wpList_append_run rfl _ _ _ _ rfl _ _ rfl rfl HR.out.2.1 ?_))
   clear c1 l1
   go_wp2_with (first | (at_builtin; refine wpList_append_run rfl _ _ _ _ rfl _ _ rfl rfl HR.out.2.2 ?_))
   go_ret
   exact ⟨_, rfl, by have h := HF.out.1; rw [HPT.out]; rw [List.nil_append, List.append_assoc, List.singleton_append] at h; exact h, HF.out.2⟩
  ·obtain ⟨k, rfl⟩ : ∃ j, k = j + 1 := ⟨k - 1, by omega⟩
   have hkl : k < l.length := by have := HN.out; omega
   obtain ⟨x, hx⟩ : ∃ x, l[k]? = some x := ⟨_, List.getElem?_eq_getElem hkl⟩
   have hCB := HSL.out.2.mono HM.out.2.2 HSL.out.2.1
   have HX := Lib.hid (And.intro hx hCB)
   have hk9 : (k : Int) < (n0 : Int) := by omega
   have hw9 : IntKind.i64.wrap (((k + 1 : Nat) : Int) - 1) = (k : Int) := by rw [show ((k + 1 : Nat) : Int) - 1 = (k : Int) by omega]; exact w64 ⟨by omega, by omega⟩
   have hz9 : (0 : Int) < ((k + 1 : Nat) : Int) := by omega
   have HC1 := Lib.hid fun W => HPG.out x W
   have hsgn : cmpS s x < 0 ↔ rank s < rank x := cmpS_neg
   obtain ⟨cv, hcv⟩ : ∃ cv, cv = cmpS s x := ⟨_, rfl⟩
   rw [← hcv] at HC1 hsgn
   have HSG := Lib.hid hsgn
   obtain ⟨kk, hkk⟩ : ∃ kk : Int, kk = ((k + 1 : Nat) : Int) := ⟨_, rfl⟩
   rw [← hkk] at hw9 hz9 ⊢
   have HKK := Lib.hid hkk
   clear hcv hsgn hx hCB hkk
   by_cases hlt : cv < 0
   ·go_wp2_with fail
    refine wp_region_val Grows (fun _ _ _ => True) [Is (.int .i64 kk), Is (.bool true), Is (.bool true), Is (solV s), Is (.slice (some ⟨b0, o0, none⟩) n0 c), Is (.int .i64 kk), Is (.int .i64 (k : Int)), Is (.pointer (some ⟨b0, o0 + k * 8, none⟩)), Is (solV x), Is (.int .i64 cv), Is (.bool true), Is (.bool true)] (by kernel_rfl) (by kernel_rfl) rfl Grows.refl (fun _ _ _ => Grows.trans) (stable_mem ⟨fun _ _ _ h _ => h, fun _ _ _ h _ => h, fun _ _ _ h _ => h, fun _ _ _ h _ => h, fun _ _ _ h _ => h, fun _ _ _ h _ => h, fun _ _ _ h _ => h, fun _ _ _ h _ => h, fun _ _ _ h _ => h, fun _ _ _ h _ => h, fun _ _ _ h _ => h, fun _ _ _ h _ => h, trivial⟩) wB (Below.drew (Below.refl _ _)) trivial ?_
    refine val_cons ?_ (fun v0 => ?_)
    ·intro L vs w1 hvs hat hb hI hF; try simp [factsI, Region.binds, Is] at hF
     have hc := (Grows.cells hb).1
     clear hI
     go_simp
     try simp [upd]
     try first | exact Grows.refl _ | exact trivial | exact ⟨Grows.refl _, trivial⟩
    refine val_cons ?_ (fun v1 => ?_)
    ·intro L vs w1 hvs hat hb hI hF; try simp [factsI, Region.binds, Is] at hF
     have hc := (Grows.cells hb).1
     clear hI
     go_simp
     try simp [upd]
     try first | exact Grows.refl _ | exact trivial | exact ⟨Grows.refl _, trivial⟩
    refine val_cons ?_ (fun v2 => ?_)
    ·intro L vs w1 hvs hat hb hI hF; try simp [factsI, Region.binds, Is] at hF
     have hc := (Grows.cells hb).1
     clear hI
     go_simp
     try simp [upd]
     try first | exact Grows.refl _ | exact trivial | exact ⟨Grows.refl _, trivial⟩
    refine val_cons ?_ (fun v3 => ?_)
    ·intro L vs w1 hvs hat hb hI hF; try simp [factsI, Region.binds, Is] at hF
     have D := (HM.out.2.1).grow (show Below _ _ _ from hb); have cD := D.cell; have lD := D.lt; clear D
     go_simp
     first | exact Grows.refl _ | exact ⟨Grows.refl _, trivial⟩
    refine val_cons ?_ (fun v4 => ?_)
    ·intro L vs w1 hvs hat hb hI hF; try simp [factsI, Region.binds, Is] at hF
     have hc := (Grows.cells hb).1
     clear hI
     go_simp
     try simp [upd]
     try first | exact Grows.refl _ | exact trivial | exact ⟨Grows.refl _, trivial⟩
    refine val_cons ?_ (fun v5 => ?_)
    ·intro L vs w1 hvs hat hb hI hF; try simp [factsI, Region.binds, Is] at hF
     have hc := (Grows.cells hb).1
     clear hI
     go_simp
     try simp [upd]
     try first | exact Grows.refl _ | exact trivial | exact ⟨Grows.refl _, trivial⟩
    refine val_cons ?_ (fun v6 => ?_)
    ·intro L vs w1 hvs hat hb hI hF; try simp [factsI, Region.binds, Is] at hF
     have hc := (Grows.cells hb).1
     clear hI
     go_simp
     try simp [upd]
     try first | exact Grows.refl _ | exact trivial | exact ⟨Grows.refl _, trivial⟩
    refine val_cons ?_ (fun v7 => ?_)
    ·intro L vs w1 hvs hat hb hI hF; try simp [factsI, Region.binds, Is] at hF
     have hc := (Grows.cells hb).1
     clear hI
     go_simp
     try simp [upd]
     try first | exact Grows.refl _ | exact trivial | exact ⟨Grows.refl _, trivial⟩
    refine val_cons ?_ (fun v8 => ?_)
    ·intro L vs w1 hvs hat hb hI hF; try simp [factsI, Region.binds, Is] at hF
     have hCw := Cells.mono (HX.out.2) (show Below _ _ _ from hb) (HX.out.2).1
     have cz := sol_cells hCw HX.out.1
     obtain ⟨z0, z1, z2, z3, z4, z5, z6, z7⟩ := cz
     have lz := hCw.1
     clear hCw
     go_simp
     first | exact Grows.refl _ | exact ⟨Grows.refl _, trivial⟩
    refine val_cons ?_ (fun v9 => ?_)
    ·intro L vs w1 hvs hat hb hI hF; try simp [factsI, Region.binds, Is] at hF
     have hb0 := hb
     go_simp
     refine (HC1.out _).mono ?_
     rintro e w2 ⟨rfl, hb2⟩
     first | exact ⟨rfl, hb2⟩ | exact ⟨_, rfl, hb2, trivial, rfl⟩ | exact ⟨_, rfl, hb2, rfl⟩
    refine val_cons ?_ (fun v10 => ?_)
    ·intro L vs w1 hvs hat hb hI hF; try simp [factsI, Region.binds, Is] at hF
     have hc := (Grows.cells hb).1
     clear hI
     go_simp
     try simp [upd]
     try first | exact Grows.refl _ | exact trivial | exact ⟨Grows.refl _, trivial⟩
    refine val_cons ?_ (fun v11 => ?_)
    ·intro L vs w1 hvs hat hb hI hF; try simp [factsI, Region.binds, Is] at hF
     have hc := (Grows.cells hb).1
     clear hI
     go_simp
     try simp [upd]
     try first | exact Grows.refl _ | exact trivial | exact ⟨Grows.refl _, trivial⟩
    refine val_nil ?_
    intro vs w1 hvs hb hI hF
    simp [Is, Nat.forall_lt_succ_right] at hF
    simp only [Act.put, List.setIfInBounds_toArray, List.set_cons_succ, List.set_cons_zero, hF]
    clear hF
    have HM1 := Lib.hid (And.intro (HM.out.2.1.grow (show Below _ _ w1 from hb)) (bel_trans HM.out.2.2 (show Below _ _ w1 from hb)))
    clear hb hvs
    go_wp2_with fail
    go_roundw
    case rel =>
     refine ⟨k, by omega, by rfl, Lib.hid ⟨fun j y hj hy => ?_, HM1.out⟩⟩
     by_cases e : j = k
     ·subst e
      have := HX.out.1.symm.trans hy
      injection this with this
      rw [← this]
      exact HSG.out.1 hlt
     ·exact HM.out.1 j y (by omega) hy
    case measure => have := HKK.out; simp [intOf]; omega
   ·have hge : rank x ≤ rank s := Nat.le_of_not_lt fun h => hlt (HSG.out.2 h)
    have HPT : Hid (putS l s = if x = s then l else l.take (k + 1) ++ s :: l.drop (k + 1)) := Lib.hid (put_at HASC.out hkl HX.out.1 (fun j y hj hy => HM.out.1 j y hj hy) hge)
    clear hge
    go_wp2_with fail
    refine wp_region_val Grows (fun _ _ _ => True) [Is (.int .i64 kk), Is (.bool true), Is (.bool true), Is (solV s), Is (.slice (some ⟨b0, o0, none⟩) n0 c), Is (.int .i64 kk), Is (.int .i64 (k : Int)), Is (.pointer (some ⟨b0, o0 + k * 8, none⟩)), Is (solV x), Is (.int .i64 cv), Is (.bool false), Is (.bool false)] (by kernel_rfl) (by kernel_rfl) rfl Grows.refl (fun _ _ _ => Grows.trans) (stable_mem ⟨fun _ _ _ h _ => h, fun _ _ _ h _ => h, fun _ _ _ h _ => h, fun _ _ _ h _ => h, fun _ _ _ h _ => h, fun _ _ _ h _ => h, fun _ _ _ h _ => h, fun _ _ _ h _ => h, fun _ _ _ h _ => h, fun _ _ _ h _ => h, fun _ _ _ h _ => h, fun _ _ _ h _ => h, trivial⟩) wB (Below.drew (Below.refl _ _)) trivial ?_
    refine val_cons ?_ (fun v0 => ?_)
    ·intro L vs w1 hvs hat hb hI hF; try simp [factsI, Region.binds, Is] at hF
     have hc := (Grows.cells hb).1
     clear hI
     go_simp
     try simp [upd]
     try first | exact Grows.refl _ | exact trivial | exact ⟨Grows.refl _, trivial⟩
    refine val_cons ?_ (fun v1 => ?_)
    ·intro L vs w1 hvs hat hb hI hF; try simp [factsI, Region.binds, Is] at hF
     have hc := (Grows.cells hb).1
     clear hI
     go_simp
     try simp [upd]
     try first | exact Grows.refl _ | exact trivial | exact ⟨Grows.refl _, trivial⟩
    refine val_cons ?_ (fun v2 => ?_)
    ·intro L vs w1 hvs hat hb hI hF; try simp [factsI, Region.binds, Is] at hF
     have hc := (Grows.cells hb).1
     clear hI
     go_simp
     try simp [upd]
     try first | exact Grows.refl _ | exact trivial | exact ⟨Grows.refl _, trivial⟩
    refine val_cons ?_ (fun v3 => ?_)
    ·intro L vs w1 hvs hat hb hI hF; try simp [factsI, Region.binds, Is] at hF
     have D := (HM.out.2.1).grow (show Below _ _ _ from hb); have cD := D.cell; have lD := D.lt; clear D
     go_simp
     first | exact Grows.refl _ | exact ⟨Grows.refl _, trivial⟩
    refine val_cons ?_ (fun v4 => ?_)
    ·intro L vs w1 hvs hat hb hI hF; try simp [factsI, Region.binds, Is] at hF
     have hc := (Grows.cells hb).1
     clear hI
     go_simp
     try simp [upd]
     try first | exact Grows.refl _ | exact trivial | exact ⟨Grows.refl _, trivial⟩
    refine val_cons ?_ (fun v5 => ?_)
    ·intro L vs w1 hvs hat hb hI hF; try simp [factsI, Region.binds, Is] at hF
     have hc := (Grows.cells hb).1
     clear hI
     go_simp
     try simp [upd]
     try first | exact Grows.refl _ | exact trivial | exact ⟨Grows.refl _, trivial⟩
    refine val_cons ?_ (fun v6 => ?_)
    ·intro L vs w1 hvs hat hb hI hF; try simp [factsI, Region.binds, Is] at hF
     have hc := (Grows.cells hb).1
     clear hI
     go_simp
     try simp [upd]
     try first | exact Grows.refl _ | exact trivial | exact ⟨Grows.refl _, trivial⟩
    refine val_cons ?_ (fun v7 => ?_)
    ·intro L vs w1 hvs hat hb hI hF; try simp [factsI, Region.binds, Is] at hF
     have hc := (Grows.cells hb).1
     clear hI
     go_simp
     try simp [upd]
     try first | exact Grows.refl _ | exact trivial | exact ⟨Grows.refl _, trivial⟩
    refine val_cons ?_ (fun v8 => ?_)
    ·intro L vs w1 hvs hat hb hI hF; try simp [factsI, Region.binds, Is] at hF
     have hCw := Cells.mono (HX.out.2) (show Below _ _ _ from hb) (HX.out.2).1
     have cz := sol_cells hCw HX.out.1
     obtain ⟨z0, z1, z2, z3, z4, z5, z6, z7⟩ := cz
     have lz := hCw.1
     clear hCw
     go_simp
     first | exact Grows.refl _ | exact ⟨Grows.refl _, trivial⟩
    refine val_cons ?_ (fun v9 => ?_)
    ·intro L vs w1 hvs hat hb hI hF; try simp [factsI, Region.binds, Is] at hF
     have hb0 := hb
     go_simp
     refine (HC1.out _).mono ?_
     rintro e w2 ⟨rfl, hb2⟩
     first | exact ⟨rfl, hb2⟩ | exact ⟨_, rfl, hb2, trivial, rfl⟩ | exact ⟨_, rfl, hb2, rfl⟩
    refine val_cons ?_ (fun v10 => ?_)
    ·intro L vs w1 hvs hat hb hI hF; try simp [factsI, Region.binds, Is] at hF
     have hc := (Grows.cells hb).1
     clear hI
     go_simp
     try simp [upd]
     try first | exact Grows.refl _ | exact trivial | exact ⟨Grows.refl _, trivial⟩
    refine val_cons ?_ (fun v11 => ?_)
    ·intro L vs w1 hvs hat hb hI hF; try simp [factsI, Region.binds, Is] at hF
     have hc := (Grows.cells hb).1
     clear hI
     go_simp
     try simp [upd]
     try first | exact Grows.refl _ | exact trivial | exact ⟨Grows.refl _, trivial⟩
    refine val_nil ?_
    intro vs w1 hvs hb hI hF
    simp [Is, Nat.forall_lt_succ_right] at hF
    simp only [Act.put, List.setIfInBounds_toArray, List.set_cons_succ, List.set_cons_zero, hF]
    clear hF
    have HM1 := Lib.hid (And.intro (HM.out.2.1.grow (show Below _ _ w1 from hb)) (bel_trans HM.out.2.2 (show Below _ _ w1 from hb)))
    have HCC := Lib.hid (HX.out.2.mono (show Below _ _ w1 from hb) HX.out.2.1)
    obtain ⟨wC, hwC⟩ : ∃ wC, wC = w1 := ⟨_, rfl⟩
    rw [← hwC] at HM1 HCC ⊢
    clear hwC hb hvs HM
    obtain ⟨q, hq⟩ : ∃ q, q = (x == s) := ⟨_, rfl⟩
    have HQ := Lib.hid hq
    clear hq
    go_wp2_with fail
    refine wp_region_val Grows (fun _ _ _ => True) [Is (.int .i64 kk), Is (.bool true), Is (.bool true), Is (.slice (some ⟨b0, o0, none⟩) n0 c), Is (.int .i64 kk), Is (.int .i64 (k : Int)), Is (.pointer (some ⟨b0, o0 + k * 8, none⟩)), Is (solV x), Is (solV s), Is (.bool q), Is (.bool q)] (by kernel_rfl) (by kernel_rfl) rfl Grows.refl (fun _ _ _ => Grows.trans) (stable_mem ⟨fun _ _ _ h _ => h, fun _ _ _ h _ => h, fun _ _ _ h _ => h, fun _ _ _ h _ => h, fun _ _ _ h _ => h, fun _ _ _ h _ => h, fun _ _ _ h _ => h, fun _ _ _ h _ => h, fun _ _ _ h _ => h, fun _ _ _ h _ => h, fun _ _ _ h _ => h, trivial⟩) wC (Below.drew (Below.refl _ _)) trivial ?_
    refine val_cons ?_ (fun v0 => ?_)
    ·intro L vs w1 hvs hat hb hI hF; try simp [factsI, Region.binds, Is] at hF
     have hc := (Grows.cells hb).1
     clear hI
     go_simp
     try simp [upd]
     try first | exact Grows.refl _ | exact trivial | exact ⟨Grows.refl _, trivial⟩
    refine val_cons ?_ (fun v1 => ?_)
    ·intro L vs w1 hvs hat hb hI hF; try simp [factsI, Region.binds, Is] at hF
     have hc := (Grows.cells hb).1
     clear hI
     go_simp
     try simp [upd]
     try first | exact Grows.refl _ | exact trivial | exact ⟨Grows.refl _, trivial⟩
    refine val_cons ?_ (fun v2 => ?_)
    ·intro L vs w1 hvs hat hb hI hF; try simp [factsI, Region.binds, Is] at hF
     have hc := (Grows.cells hb).1
     clear hI
     go_simp
     try simp [upd]
     try first | exact Grows.refl _ | exact trivial | exact ⟨Grows.refl _, trivial⟩
    refine val_cons ?_ (fun v3 => ?_)
    ·intro L vs w1 hvs hat hb hI hF; try simp [factsI, Region.binds, Is] at hF
     have hc := (Grows.cells hb).1
     clear hI
     go_simp
     try simp [upd]
     try first | exact Grows.refl _ | exact trivial | exact ⟨Grows.refl _, trivial⟩
    refine val_cons ?_ (fun v4 => ?_)
    ·intro L vs w1 hvs hat hb hI hF; try simp [factsI, Region.binds, Is] at hF
     have hc := (Grows.cells hb).1
     clear hI
     go_simp
     try simp [upd]
     try first | exact Grows.refl _ | exact trivial | exact ⟨Grows.refl _, trivial⟩
    refine val_cons ?_ (fun v5 => ?_)
    ·intro L vs w1 hvs hat hb hI hF; try simp [factsI, Region.binds, Is] at hF
     have hc := (Grows.cells hb).1
     clear hI
     go_simp
     try simp [upd]
     try first | exact Grows.refl _ | exact trivial | exact ⟨Grows.refl _, trivial⟩
    refine val_cons ?_ (fun v6 => ?_)
    ·intro L vs w1 hvs hat hb hI hF; try simp [factsI, Region.binds, Is] at hF
     have hc := (Grows.cells hb).1
     clear hI
     go_simp
     try simp [upd]
     try first | exact Grows.refl _ | exact trivial | exact ⟨Grows.refl _, trivial⟩
    refine val_cons ?_ (fun v7 => ?_)
    ·intro L vs w1 hvs hat hb hI hF; try simp [factsI, Region.binds, Is] at hF
     have hCw := Cells.mono (HCC.out) (show Below _ _ _ from hb) (HCC.out).1
     have cz := sol_cells hCw HX.out.1
     obtain ⟨z0, z1, z2, z3, z4, z5, z6, z7⟩ := cz
     have lz := hCw.1
     clear hCw
     go_simp
     first | exact Grows.refl _ | exact ⟨Grows.refl _, trivial⟩
    refine val_cons ?_ (fun v8 => ?_)
    ·intro L vs w1 hvs hat hb hI hF; try simp [factsI, Region.binds, Is] at hF
     have D := (HM1.out.1).grow (show Below _ _ _ from hb); have cD := D.cell; have lD := D.lt; clear D
     go_simp
     first | exact Grows.refl _ | exact ⟨Grows.refl _, trivial⟩
    refine val_cons ?_ (fun v9 => ?_)
    ·intro L vs w1 hvs hat hb hI hF; try simp [factsI, Region.binds, Is] at hF
     have hq := HQ.out
     go_simp
     try rw [← hq]
     first | exact Grows.refl _ | exact ⟨Grows.refl _, trivial⟩
    refine val_cons ?_ (fun v10 => ?_)
    ·intro L vs w1 hvs hat hb hI hF; try simp [factsI, Region.binds, Is] at hF
     have hc := (Grows.cells hb).1
     clear hI
     go_simp
     try simp [upd]
     try first | exact Grows.refl _ | exact trivial | exact ⟨Grows.refl _, trivial⟩
    refine val_nil ?_
    intro vs w1 hvs hb hI hF
    simp [Is, Nat.forall_lt_succ_right] at hF
    simp only [Act.put, List.setIfInBounds_toArray, List.set_cons_succ, List.set_cons_zero, hF]
    clear hF
    have HM2 := Lib.hid (And.intro (HM1.out.1.grow (show Below _ _ w1 from hb)) (bel_trans HM1.out.2 (show Below _ _ w1 from hb)))
    obtain ⟨wD, hwD⟩ : ∃ wD, wD = w1 := ⟨_, rfl⟩
    rw [← hwD] at HM2 ⊢
    clear hwD hb hvs HM1
    cases hqv : q with
    | true =>
     have he : x = s := by have := HQ.out; rw [hqv] at this; exact eq_of_beq this.symm
     have HE : Hid (putS l s = l) := Lib.hid (by rw [HPT.out, if_pos he])
     clear he
     go_wp2_with fail
     go_ret
     exact ⟨_, rfl, by rw [HE.out, HN.out]; exact own_gb HOW.out.1 (HM2.out.2), HM2.out.2⟩
    | false =>
     have he : x ≠ s := by have := HQ.out; rw [hqv] at this; exact fun e => by rw [e] at this; simp at this
     have HPT2 : Hid (putS l s = l.take (k + 1) ++ s :: l.drop (k + 1)) := Lib.hid (by rw [HPT.out, if_neg he])
     clear he
     by_cases hcc : c = k + 1
     ·have hnk : n0 = k + 1 := by omega
      rw [HKK.out]
      clear hk9 hw9 hz9
      subst hcc
      subst hnk
      have hkI : ((k + 1 : Nat) : Int) ≤ ((k + 1 : Nat) : Int) := by omega
      have hkJ : ((k + 1 : Nat) : Int) ≤ ((k + 1) : Int) := by omega
      have hkN : (k + 1) ≤ (k + 1) := by omega
      have hkM : (k + 1) ≤ (k + 1) := by omega
      go_upto_region 6 with fail
      have hsz : w.heap.size + 1 ≤ wD.heap.size := HM2.out.1.lt
      have hbX := bel_alloc HM2.out.2 (.cells #[] 26)
      obtain ⟨v1, W1, hr1, hO1, hb1⟩ := app_solsS (x := (.slice (some ⟨b0, o0, none⟩) (k + 1) (k + 1))) (ys := (l.take ((k + 1)))) (own_nilSo wD hsz) (by have h := sl_takeW (HSL.out.1.mono hbX) (show (k + 1) ≤ (k + 1) by omega); rwa [← List.map_take] at h) (by have := HLEN.out; have := HN.out; simp <;> omega) (by simp; omega)
      have hbX1 := hbX.trans (hb1.mono (Nat.le_succ _))
      have B1 : Blk W1 w.heap.size #[.int .u64 (pl s 0), .int .u64 (pl s 1), .int .u64 (pl s 2), .int .u64 (pl s 3), .int .u64 (pl s 4), .int .u64 (pl s 5), .int .u64 (pl s 6), .int .u64 (pl s 7)] 26 := (HM2.out.1.alloc (.cells #[] 26)).below hb1 (Nat.lt_succ_self _)
      have hs1 : w.heap.size + 1 ≤ W1.heap.size := B1.lt
      clear hbX
      have hbX := bel_alloc hbX1 (.cells #[.int .u64 (pl s 0), .int .u64 (pl s 1), .int .u64 (pl s 2), .int .u64 (pl s 3), .int .u64 (pl s 4), .int .u64 (pl s 5), .int .u64 (pl s 6), .int .u64 (pl s 7)] 26)
      have hS1 := sl_one (Blk.new W1 #[.int .u64 (pl s 0), .int .u64 (pl s 1), .int .u64 (pl s 2), .int .u64 (pl s 3), .int .u64 (pl s 4), .int .u64 (pl s 5), .int .u64 (pl s 6), .int .u64 (pl s 7)] 26)
      obtain ⟨v2, W2, hr2, hO2, hb2⟩ := app_solsS (World.ownsRow.alloc hO1 (.cells #[.int .u64 (pl s 0), .int .u64 (pl s 1), .int .u64 (pl s 2), .int .u64 (pl s 3), .int .u64 (pl s 4), .int .u64 (pl s 5), .int .u64 (pl s 6), .int .u64 (pl s 7)] 26)) hS1 (by have := HLEN.out; have := HN.out; simp <;> omega) (by simp; omega)
      have hbX2 := hbX.trans (hb2.mono (Nat.le_succ _))
      have hs2 : w.heap.size + 1 ≤ W2.heap.size := by have := hb2.size; simp at this; omega
      clear hbX
      have hbX := hbX2
      obtain ⟨v3, W3, hr3, hO3, hb3⟩ := app_solsS (x := (.slice (some ⟨b0, o0, none⟩) 0 0)) (ys := []) hO2 ⟨_, 0, rfl, by simp, by simp, .inl rfl⟩ (by have := HLEN.out; have := HN.out; simp <;> omega) hs2
      have hbX3 := hbX2.trans (hb3.mono (Nat.le_succ _))
      have HR := Lib.hid (And.intro hr1 (And.intro hr2 hr3))
      have HF := Lib.hid (And.intro (own_weak hO3 (Nat.le_trans HOW.out.2 (Nat.le_succ _)) : OwnSo W3 base v3 _) hbX3)
      have c1 := B1.cell; have l1 := B1.lt
      clear hsz hs1 hs2 hbX hbX1 hbX2 hbX3 hO1 hO2 hO3 hb1 hb2 hb3 hr1 hr2 hr3 hS1 B1
      go_upto_region 7 with (first | (at_builtin; refine wpList_append_run rfl _ _ _ _ rfl _ _ rfl rfl HR.out.1 ?_))
      go_upto_region 8 with (first | (at_builtin; refine wpList_append_run rfl _ _ _ _ rfl _ _ rfl rfl HR.out.2.1 ?_))
      clear c1 l1
      go_wp2_with (first | (at_builtin; refine wpList_append_run rfl _ _ _ _ rfl _ _ rfl rfl HR.out.2.2 ?_))
      go_ret
      exact ⟨_, rfl, by have h := HF.out.1; rw [HPT2.out, List.drop_eq_nil_of_le (by rw [← HN.out]; exact Nat.le_refl _)]; rw [List.nil_append, List.append_assoc, List.singleton_append] at h; exact h, HF.out.2⟩
     ·rw [HKK.out]
      clear hw9 hz9
      have hkI : ((k + 1 : Nat) : Int) ≤ (c : Int) := by omega
      have hkJ : ((k + 1 : Nat) : Int) ≤ (n0 : Int) := by omega
      have hkN : (k + 1) ≤ c := by omega
      have hkM : (k + 1) ≤ n0 := by omega
      go_upto_region 6 with fail
      have hsz : w.heap.size + 1 ≤ wD.heap.size := HM2.out.1.lt
      have hbX := bel_alloc HM2.out.2 (.cells #[] 26)
      obtain ⟨v1, W1, hr1, hO1, hb1⟩ := app_solsS (x := (.slice (some ⟨b0, o0, none⟩) (k + 1) c)) (ys := (l.take ((k + 1)))) (own_nilSo wD hsz) (by have h := sl_takeW (HSL.out.1.mono hbX) (show (k + 1) ≤ n0 by omega); rwa [← List.map_take] at h) (by have := HLEN.out; have := HN.out; simp <;> omega) (by simp; omega)
      have hbX1 := hbX.trans (hb1.mono (Nat.le_succ _))
      have B1 : Blk W1 w.heap.size #[.int .u64 (pl s 0), .int .u64 (pl s 1), .int .u64 (pl s 2), .int .u64 (pl s 3), .int .u64 (pl s 4), .int .u64 (pl s 5), .int .u64 (pl s 6), .int .u64 (pl s 7)] 26 := (HM2.out.1.alloc (.cells #[] 26)).below hb1 (Nat.lt_succ_self _)
      have hs1 : w.heap.size + 1 ≤ W1.heap.size := B1.lt
      clear hbX
      have hbX := bel_alloc hbX1 (.cells #[.int .u64 (pl s 0), .int .u64 (pl s 1), .int .u64 (pl s 2), .int .u64 (pl s 3), .int .u64 (pl s 4), .int .u64 (pl s 5), .int .u64 (pl s 6), .int .u64 (pl s 7)] 26)
      have hS1 := sl_one (Blk.new W1 #[.int .u64 (pl s 0), .int .u64 (pl s 1), .int .u64 (pl s 2), .int .u64 (pl s 3), .int .u64 (pl s 4), .int .u64 (pl s 5), .int .u64 (pl s 6), .int .u64 (pl s 7)] 26)
      obtain ⟨v2, W2, hr2, hO2, hb2⟩ := app_solsS (World.ownsRow.alloc hO1 (.cells #[.int .u64 (pl s 0), .int .u64 (pl s 1), .int .u64 (pl s 2), .int .u64 (pl s 3), .int .u64 (pl s 4), .int .u64 (pl s 5), .int .u64 (pl s 6), .int .u64 (pl s 7)] 26)) hS1 (by have := HLEN.out; have := HN.out; simp <;> omega) (by simp; omega)
      have hbX2 := hbX.trans (hb2.mono (Nat.le_succ _))
      have hs2 : w.heap.size + 1 ≤ W2.heap.size := by have := hb2.size; simp at this; omega
      clear hbX
      have hbX := hbX2
      obtain ⟨v3, W3, hr3, hO3, hb3⟩ := app_solsS (x := (.slice (some ⟨b0, o0 + (k + 1) * 8, none⟩) (n0 - (k + 1)) (c - (k + 1)))) (ys := (l.drop (k + 1))) hO2 (by have h := sl_dropW (HSL.out.1.mono hbX) (show k + 1 ≤ n0 by omega); unfold sliced at h; rw [if_neg hcc] at h; rw [← List.map_drop] at h; rw [Option.map_some, Addr.add_lit] at h; exact h) (by have := HLEN.out; have := HN.out; simp <;> omega) hs2
      have hbX3 := hbX2.trans (hb3.mono (Nat.le_succ _))
      have HR := Lib.hid (And.intro hr1 (And.intro hr2 hr3))
      have HF := Lib.hid (And.intro (own_weak hO3 (Nat.le_trans HOW.out.2 (Nat.le_succ _)) : OwnSo W3 base v3 _) hbX3)
      have c1 := B1.cell; have l1 := B1.lt
      clear hsz hs1 hs2 hbX hbX1 hbX2 hbX3 hO1 hO2 hO3 hb1 hb2 hb3 hr1 hr2 hr3 hS1 B1
      go_upto_region 7 with (first | (at_builtin; refine wpList_append_run rfl _ _ _ _ rfl _ _ rfl rfl HR.out.1 ?_))
      go_upto_region 8 with (first | (at_builtin; refine wpList_append_run rfl _ _ _ _ rfl _ _ rfl rfl HR.out.2.1 ?_))
      clear c1 l1
      go_wp2_with (first | (at_builtin; refine wpList_append_run rfl _ _ _ _ rfl _ _ rfl rfl HR.out.2.2 ?_))
      go_ret
      exact ⟨_, rfl, by have h := HF.out.1; rw [HPT2.out]; rw [List.nil_append, List.append_assoc, List.singleton_append] at h; exact h, HF.out.2⟩
theorem refPut_spec {w : World} {base : Nat} {v : Value} {l : List Sol} {s : Sol} (hO : OwnSo w base v l) (hbase : base ≤ w.heap.size) (hnil : l = [] → v = .slice none 0 0) (hlen : l.length ≤ 100000) (ha : Asc l) :
  Calls Tryz.prog 105 #[v, solV s] w fun e w' => ∃ u, e = .returned u ∧ OwnSo w' base u (putS l s) ∧ Below w.heap.size w w' := by
 by_cases h : l = []
 ·rw [hnil h, h, put_nil]
  refine (refPut_nil s w).mono ?_
  rintro e w' ⟨u, h1, h2, h3⟩
  exact ⟨u, h1, own_weak h2 hbase, h3⟩
 ·exact refPut_cons hO hbase h hlen ha
end Go.Proofs.YtkfimbonmnoglaaGreatDoor
end
