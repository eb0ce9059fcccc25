import Derived.Test.YtkcpnhigekopaaaDoorG08
import Derived.Test.YtkcpnhigekopaaaDoorG09
import Derived.OwnWalk
import Derived.Maps.AppendAt
/-
  Given contracts of functions of the program, and laws for them, one behind the other.
-/
set_option linter.unusedVariables false
set_option linter.unusedSimpArgs false
set_option linter.unusedSectionVars false
section
namespace Go.Proofs.YtkcpnhigekopaaaDoor
open Go.RowKit Go.Rel Go.Draw
set_option maxRecDepth 100000
abbrev intL (i : Int) : List Value := [.int .i64 i]
abbrev SlI (w : World) (v : Value) (l : List Int) : Prop := Sl w 1 v (l.map intL)
theorem int_cell {w : World} {b off : Nat} {l : List Int} (h : Cells w b off 1 (l.map intL)) {k : Nat} {x : Int} (hx : l[k]? = some x) : w.cell? ⟨b, off + k, none⟩ = some (.int .i64 x) := by
 have := h.2 k 0 (.int .i64 x) (by simp [hx])
 simpa using this
theorem infoInt : (Tryd.prog.info? 3).map (fun i => (i.zero, i.size, i.bytes)) = some (some (.int .i64 0), 1, 8) := by kernel_rfl
theorem infoUint : (Tryd.prog.info? 57).map (fun i => (i.zero, i.size, i.bytes)) = some (some (.int .u64 0), 1, 8) := by kernel_rfl
theorem infoMove : (Tryd.prog.info? 50).map (fun i => (i.zero, i.size, i.bytes)) = some (some (.agg #[.int .i64 0, .int .i64 0, .int .i64 0]), 3, 24) := by kernel_rfl
theorem infoBody : (Tryd.prog.info? 72).map (fun i => (i.zero, i.size, i.bytes)) = some (some (.agg #[.int .u64 0, .int .u64 0, .int .u64 0, .int .u64 0, .int .u64 0, .int .u64 0, .int .u64 0, .int .u64 0]), 8, 64) := by kernel_rfl
theorem infoSolid : (Tryd.prog.info? 29).map (fun i => (i.zero, i.size, i.bytes)) = some (some (.agg #[.int .u64 0, .int .u64 0, .int .u64 0, .int .u64 0, .int .u64 0, .int .u64 0, .int .u64 0, .int .u64 0]), 8, 64) := by kernel_rfl
theorem infoInts : (Tryd.prog.info? 34).map (fun i => (i.zero, i.size, i.bytes)) = some (some (.slice none 0 0), 1, 24) := by kernel_rfl
/-- a list of numbers in memory of one's own -/
abbrev OwnI (W : World) (base : Nat) (v : Value) (l : List Int) : Prop := W.ownsRow base 3 1 v l.length (l.map (Value.int .i64))
/-- a list of sets in memory of one's own -/
abbrev OwnU (W : World) (base : Nat) (v : Value) (l : List U) : Prop := W.ownsRow base 57 1 v l.length (l.map fun s => Value.int .u64 (uI s))
abbrev uL (s : U) : List Value := [.int .u64 (uI s)]
abbrev SlU (w : World) (v : Value) (l : List U) : Prop := Sl w 1 v (l.map uL)
/-- moves -/
abbrev Mo := Nat × Nat × Nat
abbrev mvV (x : Mo) : Value := .agg #[.int .i64 (x.1 : Int), .int .i64 (x.2.1 : Int), .int .i64 (x.2.2 : Int)]
abbrev mvL (x : Mo) : List Value := [.int .i64 (x.1 : Int), .int .i64 (x.2.1 : Int), .int .i64 (x.2.2 : Int)]
abbrev SlM (w : World) (v : Value) (l : List Mo) : Prop := Sl w 3 v (l.map mvL)
abbrev OwnM (W : World) (base : Nat) (v : Value) (l : List Mo) : Prop := W.ownsRow base 50 3 v l.length (l.map mvL).flatten
abbrev OwnB (W : World) (base : Nat) (v : Value) (l : List Sol) : Prop := W.ownsRow base 72 8 v l.length (l.map solL).flatten
/-- a list of slices in memory of one's own -/
abbrev OwnL (W : World) (base : Nat) (v : Value) (vs : List Value) : Prop := W.ownsRow base 34 1 v vs.length vs
theorem own_shape' {w : World} {base : Nat} {e : TypeId} {size : Nat} {v : Value} {n : Nat} {xs : List Value} (h : w.ownsRow base e size v n xs) : ∃ p c, v = .slice p n c ∧ n ≤ c ∧ c ≤ 9223372036854775807 := by
 rcases h.2 with ⟨rfl, rfl⟩ | ⟨g, cap, cur, rfl, _, _, h1, h2, _⟩
 ·exact ⟨_, _, rfl, Nat.le_refl _, by omega⟩
 ·exact ⟨_, _, rfl, h1, by unfold maxLen at h2; omega⟩
theorem own_weak {w : World} {base base' : Nat} {e : TypeId} {size : Nat} {v : Value} {n : Nat} {xs : List Value} (h : w.ownsRow base e size v n xs) (hb : base' ≤ base) : w.ownsRow base' e size v n xs := by
 refine ⟨h.1, ?_⟩
 rcases h.2 with h | ⟨g, cap, cur, e, hbg, rest⟩
 ·exact .inl h
 ·exact .inr ⟨g, cap, cur, e, Nat.le_trans hb hbg, rest⟩
theorem own_sl {w : World} {base : Nat} {e : TypeId} {size : Nat} {v : Value} {xs : List Value} {ls : List (List Value)} (hs : ∀ r ∈ ls, r.length = size) (hx : ls.flatten = xs) (h : w.ownsRow base e size v ls.length xs) : Sl w size v ls := by
 rcases h.2 with ⟨rfl, h0⟩ | ⟨g, cap, cur, rfl, hb, hg, hnc, hcm, hcs, htake⟩
 ·have : ls = [] := List.eq_nil_of_length_eq_zero h0
  subst this
  exact ⟨none, 0, rfl, Nat.le_refl _, by omega, .inl rfl⟩
 ·refine ⟨some ⟨g, 0, none⟩, cap, rfl, hnc, by unfold maxLen at hcm; omega, .inr ⟨g, 0, rfl, (Array.getElem?_eq_some_iff.1 hg).1, fun i j u hu => ?_⟩⟩
  rw [Nat.zero_add, cell_of_row w g _ cur e (0, 0) hg]
  have key : ∀ (ls : List (List Value)) (i j : Nat) (u : Value), (∀ r ∈ ls, r.length = size) → (ls[i]?).bind (·[j]?) = some u → (ls.flatten)[i * size + j]? = some u := by
   intro ls
   induction ls with
   | nil => intro i j u _ h; simp at h
   | cons r rest ih =>
    intro i j u hr h
    have hrl : r.length = size := hr r (by simp)
    cases i with
    | zero =>
     have h' : r[j]? = some u := by simpa using h
     have hj : j < r.length := (List.getElem?_eq_some_iff.1 h').1
     simp only [List.flatten_cons, Nat.zero_mul, Nat.zero_add]
     rw [List.getElem?_append_left hj]; exact h'
    | succ i =>
     have h' : (rest[i]?).bind (·[j]?) = some u := by simpa using h
     have := ih i j u (fun r' h' => hr r' (by simp [h'])) h'
     simp only [List.flatten_cons]
     rw [List.getElem?_append_right (by rw [hrl, Nat.add_mul]; omega), hrl, show (i + 1) * size + j - size = i * size + j by rw [Nat.add_mul]; omega]
     exact this
  have h1 := key ls i j u hs hu
  rw [hx, ← htake, List.getElem?_take] at h1
  split at h1
  ·rw [← Array.getElem?_toList]; exact h1
  ·cases h1
theorem flat_int (l : List Int) : (l.map intL).flatten = l.map (Value.int .i64) := by
 induction l with
 | nil => rfl
 | cons a l ih => simp [ih]
theorem OwnI.sl {W : World} {base : Nat} {v : Value} {l : List Int} (h : OwnI W base v l) : SlI W v l :=
 own_sl (fun r hr => by obtain ⟨i, _, rfl⟩ := List.mem_map.1 hr; rfl) (flat_int l) (by rw [List.length_map]; exact h)
theorem flat_u (l : List U) : (l.map uL).flatten = l.map fun s => Value.int .u64 (uI s) := by
 induction l with
 | nil => rfl
 | cons a l ih => simp [ih]
theorem OwnU.sl {W : World} {base : Nat} {v : Value} {l : List U} (h : OwnU W base v l) : SlU W v l :=
 own_sl (fun r hr => by obtain ⟨i, _, rfl⟩ := List.mem_map.1 hr; rfl) (flat_u l) (by rw [List.length_map]; exact h)
theorem OwnM.sl {W : World} {base : Nat} {v : Value} {l : List Mo} (h : OwnM W base v l) : SlM W v l :=
 own_sl (fun r hr => by obtain ⟨i, _, rfl⟩ := List.mem_map.1 hr; rfl) rfl (by rw [List.length_map]; exact h)
theorem OwnB.sl {W : World} {base : Nat} {v : Value} {l : List Sol} (h : OwnB W base v l) : SlS W v l :=
 own_sl (fun r hr => by obtain ⟨i, _, rfl⟩ := List.mem_map.1 hr; rfl) rfl (by rw [List.length_map]; exact h)
theorem flat_sing : ∀ vs : List Value, (vs.map fun x => [x]).flatten = vs
 | [] => rfl
 | v :: vs => by rw [List.map_cons, List.flatten_cons, flat_sing vs]; rfl
theorem OwnL.sl {W : World} {base : Nat} {v : Value} {vs : List Value} (h : OwnL W base v vs) : Sl W 1 v (vs.map fun x => [x]) :=
 own_sl (fun r hr => by obtain ⟨i, _, rfl⟩ := List.mem_map.1 hr; rfl) (flat_sing vs) (by rw [List.length_map]; exact h)
theorem hmf (fn : Fn) (first cap : Array Value) (w : World) : (Instr.makeFunc fn first cap).run Tryd.prog w = .ok (.func fn first cap) w := rfl
theorem u_cell {w : World} {b off : Nat} {l : List U} (h : Cells w b off 1 (l.map uL)) {k : Nat} {x : U} (hx : l[k]? = some x) : w.cell? ⟨b, off + k, none⟩ = some (.int .u64 (uI x)) := by
 have := h.2 k 0 (.int .u64 (uI x)) (by simp [hx])
 simpa using this
theorem mv_cells {w : World} {b off : Nat} {l : List Mo} (h : Cells w b off 3 (l.map mvL)) {k : Nat} {x : Mo} (hx : l[k]? = some x) : w.cell? ⟨b, off + k * 3, none⟩ = some (.int .i64 (x.1 : Int)) ∧ w.cell? ⟨b, off + k * 3 + 1, none⟩ = some (.int .i64 (x.2.1 : Int)) ∧ w.cell? ⟨b, off + k * 3 + 2, none⟩ = some (.int .i64 (x.2.2 : Int)) :=
 ⟨h.2 k 0 _ (by simp [hx]), h.2 k 1 _ (by simp [hx]), h.2 k 2 _ (by simp [hx])⟩
end Go.Proofs.YtkcpnhigekopaaaDoor
end
section
namespace Go.Proofs.YtkcpnhigekopaaaDoor
open Go.RowKit Go.Rel Go.Draw
set_option maxRecDepth 100000
/-! the four sides, up, and whether two bodies meet -/
theorem meets_planes (a b : Sol) : (bits .and .u64 (pl a 0) (pl b 0) != 0 || bits .and .u64 (pl a 1) (pl b 1) != 0 || bits .and .u64 (pl a 2) (pl b 2) != 0 || bits .and .u64 (pl a 3) (pl b 3) != 0 || bits .and .u64 (pl a 4) (pl b 4) != 0 || bits .and .u64 (pl a 5) (pl b 5) != 0 || bits .and .u64 (pl a 6) (pl b 6) != 0 || bits .and .u64 (pl a 7) (pl b 7) != 0) = meets a b := by
 have h := beq_pl (a &&& b) 0
 simp only [pl_zero] at h
 rw [bits_and_pl a b 0, bits_and_pl a b 1, bits_and_pl a b 2, bits_and_pl a b 3, bits_and_pl a b 4, bits_and_pl a b 5, bits_and_pl a b 6, bits_and_pl a b 7]
 unfold meets bne
 rw [← h]
 simp only [Bool.not_and, Bool.or_assoc]
set_option maxHeartbeats 1000000 in
theorem meets_any (a0 a1 a2 a3 a4 a5 a6 a7 b0 b1 b2 b3 b4 b5 b6 b7 : Int) (w : World) :
    Calls Tryd.prog 28 #[.agg #[.int .u64 a0, .int .u64 a1, .int .u64 a2, .int .u64 a3, .int .u64 a4, .int .u64 a5, .int .u64 a6, .int .u64 a7], .agg #[.int .u64 b0, .int .u64 b1, .int .u64 b2, .int .u64 b3, .int .u64 b4, .int .u64 b5, .int .u64 b6, .int .u64 b7]] w fun e w' =>
     e = .returned (.bool (bits .and .u64 a0 b0 != 0 || bits .and .u64 a1 b1 != 0 || bits .and .u64 a2 b2 != 0 || bits .and .u64 a3 b3 != 0 || bits .and .u64 a4 b4 != 0 || bits .and .u64 a5 b5 != 0 || bits .and .u64 a6 b6 != 0 || bits .and .u64 a7 b7 != 0)) ∧ Below w.heap.size w w' := by
  go_enter Tryd.func28, Tryd.ntmps28
  go_wp2
  refine wp_loop_rounds 9 ?_
  iterate 8
    rw [rounds_succ]
    go_wp2
    · refine bodyPost_ret (v := .bool true) (by simp [results, Tryd.results28, go_sem]) rfl ⟨by simp [*], ?_⟩
      repeat first | exact bel_refl _ | refine bel_drew ?_ | refine bel_alloc ?_ _
  rw [rounds_succ]
  go_wp2
  refine bodyPost_ret (v := .bool false) (by simp [results, Tryd.results28, go_sem]) rfl ⟨by simp [*], ?_⟩
  repeat first | exact bel_refl _ | refine bel_drew ?_ | refine bel_alloc ?_ _
theorem meets_spec (a b : Sol) (w : World) : Calls Tryd.prog 28 #[solV a, solV b] w fun e w' => e = .returned (.bool (meets a b)) ∧ Below w.heap.size w w' := by
 refine (meets_any (pl a 0) (pl a 1) (pl a 2) (pl a 3) (pl a 4) (pl a 5) (pl a 6) (pl a 7) (pl b 0) (pl b 1) (pl b 2) (pl b 3) (pl b 4) (pl b 5) (pl b 6) (pl b 7) w).mono ?_
 rintro e w' ⟨rfl, hb⟩
 exact ⟨by rw [meets_planes], hb⟩
end Go.Proofs.YtkcpnhigekopaaaDoor
end
section
namespace Go.Proofs.YtkcpnhigekopaaaDoor
open Go.RowKit Go.Rel Go.Draw
set_option maxRecDepth 100000
theorem or_u0 (p : U) : bits .or .u64 0 (uI p) = uI p := by
 have := bits_or_u 0 p
 rw [uI_zero] at this
 rw [this]; simp
theorem sol_planes (b : Sol) : (.agg #[.int .u64 (pl b 0), .int .u64 (pl b 1), .int .u64 (pl b 2), .int .u64 (pl b 3), .int .u64 (pl b 4), .int .u64 (pl b 5), .int .u64 (pl b 6), .int .u64 (pl b 7)] : Value) = .agg #[.int .u64 (uI (plv b 0)), .int .u64 (uI (plv b 1)), .int .u64 (uI (plv b 2)), .int .u64 (uI (plv b 3)), .int .u64 (uI (plv b 4)), .int .u64 (uI (plv b 5)), .int .u64 (uI (plv b 6)), .int .u64 (uI (plv b 7))] := by
 simp only [pl_uI]
set_option maxHeartbeats 4000000 in
theorem each1 (a0 a1 a2 a3 a4 a5 a6 a7 : U) (w : World) : Calls Tryd.prog 89 #[.agg #[.int .u64 (uI a0), .int .u64 (uI a1), .int .u64 (uI a2), .int .u64 (uI a3), .int .u64 (uI a4), .int .u64 (uI a5), .int .u64 (uI a6), .int .u64 (uI a7)], .func (.func 90) #[] #[]] w fun e w' =>
  e = .returned (.tuple #[.agg #[.int .u64 (uI (onP 1 a0)), .int .u64 (uI (onP 1 a1)), .int .u64 (uI (onP 1 a2)), .int .u64 (uI (onP 1 a3)), .int .u64 (uI (onP 1 a4)), .int .u64 (uI (onP 1 a5)), .int .u64 (uI (onP 1 a6)), .int .u64 (uI (onP 1 a7))], .bool (offP 1 a0 ||| offP 1 a1 ||| offP 1 a2 ||| offP 1 a3 ||| offP 1 a4 ||| offP 1 a5 ||| offP 1 a6 ||| offP 1 a7 == 0)]) ∧ Below w.heap.size w w' := by
 go_enter Tryd.func89, Tryd.ntmps89
 go_wp2
 refine wp_loop_rounds 9 ?_
 iterate 8
  rw [rounds_succ]
  go_wp2_with fail
  refine (east1_spec _ _).mono ?_
  rintro e w1 ⟨rfl, rfl⟩
  go_wp2_with fail
 rw [rounds_succ]
 go_wp2_with fail
 simp only [or_u0, bits_or_u, beq_u0]
 refine bodyPost_ret (v := .tuple #[.agg #[.int .u64 (uI (onP 1 a0)), .int .u64 (uI (onP 1 a1)), .int .u64 (uI (onP 1 a2)), .int .u64 (uI (onP 1 a3)), .int .u64 (uI (onP 1 a4)), .int .u64 (uI (onP 1 a5)), .int .u64 (uI (onP 1 a6)), .int .u64 (uI (onP 1 a7))], .bool (offP 1 a0 ||| offP 1 a1 ||| offP 1 a2 ||| offP 1 a3 ||| offP 1 a4 ||| offP 1 a5 ||| offP 1 a6 ||| offP 1 a7 == 0)]) (by simp [results, Tryd.results89, go_sem]) rfl ⟨rfl, ?_⟩
 exact (by repeat (first | with_reducible exact bel_refl _ | with_reducible assumption | with_reducible refine bel_drewN ?_ _ | with_reducible refine bel_drew ?_ | with_reducible refine bel_alloc ?_ _ | with_reducible refine bel_row ?_ ?_ _ | with_reducible refine bel_set ?_ ?_ _ | refine bel_trans ?_ (by with_reducible assumption) | (simp; done) | (simp; omega)))
set_option maxHeartbeats 4000000 in
theorem each2 (a0 a1 a2 a3 a4 a5 a6 a7 : U) (w : World) : Calls Tryd.prog 89 #[.agg #[.int .u64 (uI a0), .int .u64 (uI a1), .int .u64 (uI a2), .int .u64 (uI a3), .int .u64 (uI a4), .int .u64 (uI a5), .int .u64 (uI a6), .int .u64 (uI a7)], .func (.func 91) #[] #[]] w fun e w' =>
  e = .returned (.tuple #[.agg #[.int .u64 (uI (onP 2 a0)), .int .u64 (uI (onP 2 a1)), .int .u64 (uI (onP 2 a2)), .int .u64 (uI (onP 2 a3)), .int .u64 (uI (onP 2 a4)), .int .u64 (uI (onP 2 a5)), .int .u64 (uI (onP 2 a6)), .int .u64 (uI (onP 2 a7))], .bool (offP 2 a0 ||| offP 2 a1 ||| offP 2 a2 ||| offP 2 a3 ||| offP 2 a4 ||| offP 2 a5 ||| offP 2 a6 ||| offP 2 a7 == 0)]) ∧ Below w.heap.size w w' := by
 go_enter Tryd.func89, Tryd.ntmps89
 go_wp2
 refine wp_loop_rounds 9 ?_
 iterate 8
  rw [rounds_succ]
  go_wp2_with fail
  refine (south1_spec _ _).mono ?_
  rintro e w1 ⟨rfl, rfl⟩
  go_wp2_with fail
 rw [rounds_succ]
 go_wp2_with fail
 simp only [or_u0, bits_or_u, beq_u0]
 refine bodyPost_ret (v := .tuple #[.agg #[.int .u64 (uI (onP 2 a0)), .int .u64 (uI (onP 2 a1)), .int .u64 (uI (onP 2 a2)), .int .u64 (uI (onP 2 a3)), .int .u64 (uI (onP 2 a4)), .int .u64 (uI (onP 2 a5)), .int .u64 (uI (onP 2 a6)), .int .u64 (uI (onP 2 a7))], .bool (offP 2 a0 ||| offP 2 a1 ||| offP 2 a2 ||| offP 2 a3 ||| offP 2 a4 ||| offP 2 a5 ||| offP 2 a6 ||| offP 2 a7 == 0)]) (by simp [results, Tryd.results89, go_sem]) rfl ⟨rfl, ?_⟩
 exact (by repeat (first | with_reducible exact bel_refl _ | with_reducible assumption | with_reducible refine bel_drewN ?_ _ | with_reducible refine bel_drew ?_ | with_reducible refine bel_alloc ?_ _ | with_reducible refine bel_row ?_ ?_ _ | with_reducible refine bel_set ?_ ?_ _ | refine bel_trans ?_ (by with_reducible assumption) | (simp; done) | (simp; omega)))
set_option maxHeartbeats 4000000 in
theorem each3 (a0 a1 a2 a3 a4 a5 a6 a7 : U) (w : World) : Calls Tryd.prog 89 #[.agg #[.int .u64 (uI a0), .int .u64 (uI a1), .int .u64 (uI a2), .int .u64 (uI a3), .int .u64 (uI a4), .int .u64 (uI a5), .int .u64 (uI a6), .int .u64 (uI a7)], .func (.func 92) #[] #[]] w fun e w' =>
  e = .returned (.tuple #[.agg #[.int .u64 (uI (onP 3 a0)), .int .u64 (uI (onP 3 a1)), .int .u64 (uI (onP 3 a2)), .int .u64 (uI (onP 3 a3)), .int .u64 (uI (onP 3 a4)), .int .u64 (uI (onP 3 a5)), .int .u64 (uI (onP 3 a6)), .int .u64 (uI (onP 3 a7))], .bool (offP 3 a0 ||| offP 3 a1 ||| offP 3 a2 ||| offP 3 a3 ||| offP 3 a4 ||| offP 3 a5 ||| offP 3 a6 ||| offP 3 a7 == 0)]) ∧ Below w.heap.size w w' := by
 go_enter Tryd.func89, Tryd.ntmps89
 go_wp2
 refine wp_loop_rounds 9 ?_
 iterate 8
  rw [rounds_succ]
  go_wp2_with fail
  refine (west1_spec _ _).mono ?_
  rintro e w1 ⟨rfl, rfl⟩
  go_wp2_with fail
 rw [rounds_succ]
 go_wp2_with fail
 simp only [or_u0, bits_or_u, beq_u0]
 refine bodyPost_ret (v := .tuple #[.agg #[.int .u64 (uI (onP 3 a0)), .int .u64 (uI (onP 3 a1)), .int .u64 (uI (onP 3 a2)), .int .u64 (uI (onP 3 a3)), .int .u64 (uI (onP 3 a4)), .int .u64 (uI (onP 3 a5)), .int .u64 (uI (onP 3 a6)), .int .u64 (uI (onP 3 a7))], .bool (offP 3 a0 ||| offP 3 a1 ||| offP 3 a2 ||| offP 3 a3 ||| offP 3 a4 ||| offP 3 a5 ||| offP 3 a6 ||| offP 3 a7 == 0)]) (by simp [results, Tryd.results89, go_sem]) rfl ⟨rfl, ?_⟩
 exact (by repeat (first | with_reducible exact bel_refl _ | with_reducible assumption | with_reducible refine bel_drewN ?_ _ | with_reducible refine bel_drew ?_ | with_reducible refine bel_alloc ?_ _ | with_reducible refine bel_row ?_ ?_ _ | with_reducible refine bel_set ?_ ?_ _ | refine bel_trans ?_ (by with_reducible assumption) | (simp; done) | (simp; omega)))
set_option maxHeartbeats 4000000 in
theorem each4 (a0 a1 a2 a3 a4 a5 a6 a7 : U) (w : World) : Calls Tryd.prog 89 #[.agg #[.int .u64 (uI a0), .int .u64 (uI a1), .int .u64 (uI a2), .int .u64 (uI a3), .int .u64 (uI a4), .int .u64 (uI a5), .int .u64 (uI a6), .int .u64 (uI a7)], .func (.func 93) #[] #[]] w fun e w' =>
  e = .returned (.tuple #[.agg #[.int .u64 (uI (onP 4 a0)), .int .u64 (uI (onP 4 a1)), .int .u64 (uI (onP 4 a2)), .int .u64 (uI (onP 4 a3)), .int .u64 (uI (onP 4 a4)), .int .u64 (uI (onP 4 a5)), .int .u64 (uI (onP 4 a6)), .int .u64 (uI (onP 4 a7))], .bool (offP 4 a0 ||| offP 4 a1 ||| offP 4 a2 ||| offP 4 a3 ||| offP 4 a4 ||| offP 4 a5 ||| offP 4 a6 ||| offP 4 a7 == 0)]) ∧ Below w.heap.size w w' := by
 go_enter Tryd.func89, Tryd.ntmps89
 go_wp2
 refine wp_loop_rounds 9 ?_
 iterate 8
  rw [rounds_succ]
  go_wp2_with fail
  refine (north1_spec _ _).mono ?_
  rintro e w1 ⟨rfl, rfl⟩
  go_wp2_with fail
 rw [rounds_succ]
 go_wp2_with fail
 simp only [or_u0, bits_or_u, beq_u0]
 refine bodyPost_ret (v := .tuple #[.agg #[.int .u64 (uI (onP 4 a0)), .int .u64 (uI (onP 4 a1)), .int .u64 (uI (onP 4 a2)), .int .u64 (uI (onP 4 a3)), .int .u64 (uI (onP 4 a4)), .int .u64 (uI (onP 4 a5)), .int .u64 (uI (onP 4 a6)), .int .u64 (uI (onP 4 a7))], .bool (offP 4 a0 ||| offP 4 a1 ||| offP 4 a2 ||| offP 4 a3 ||| offP 4 a4 ||| offP 4 a5 ||| offP 4 a6 ||| offP 4 a7 == 0)]) (by simp [results, Tryd.results89, go_sem]) rfl ⟨rfl, ?_⟩
 exact (by repeat (first | with_reducible exact bel_refl _ | with_reducible assumption | with_reducible refine bel_drewN ?_ _ | with_reducible refine bel_drew ?_ | with_reducible refine bel_alloc ?_ _ | with_reducible refine bel_row ?_ ?_ _ | with_reducible refine bel_set ?_ ?_ _ | refine bel_trans ?_ (by with_reducible assumption) | (simp; done) | (simp; omega)))
end Go.Proofs.YtkcpnhigekopaaaDoor
end
section
namespace Go.Proofs.YtkcpnhigekopaaaDoor
open Go.RowKit Go.Rel Go.Draw
set_option maxRecDepth 100000
set_option maxHeartbeats 1000000 in
theorem east_spec (b : Sol) (w : World) : Calls Tryd.prog 80 #[solV b] w fun e w' => e = .returned (.tuple #[solV (stepS 1 b), .bool (inS 1 b)]) ∧ Below w.heap.size w w' := by
 have HE := fun w => Lib.hid (each1 (plv b 0) (plv b 1) (plv b 2) (plv b 3) (plv b 4) (plv b 5) (plv b 6) (plv b 7) w)
 have e1 : (.agg #[.int .u64 (pl (stepS 1 b) 0), .int .u64 (pl (stepS 1 b) 1), .int .u64 (pl (stepS 1 b) 2), .int .u64 (pl (stepS 1 b) 3), .int .u64 (pl (stepS 1 b) 4), .int .u64 (pl (stepS 1 b) 5), .int .u64 (pl (stepS 1 b) 6), .int .u64 (pl (stepS 1 b) 7)] : Value) = .agg #[.int .u64 (uI (onP 1 (plv b 0))), .int .u64 (uI (onP 1 (plv b 1))), .int .u64 (uI (onP 1 (plv b 2))), .int .u64 (uI (onP 1 (plv b 3))), .int .u64 (uI (onP 1 (plv b 4))), .int .u64 (uI (onP 1 (plv b 5))), .int .u64 (uI (onP 1 (plv b 6))), .int .u64 (uI (onP 1 (plv b 7)))] := by
  rw [sol_planes]
  simp only [stepS, mapS]
  rw [plv_mkS _ 0 (by omega), plv_mkS _ 1 (by omega), plv_mkS _ 2 (by omega), plv_mkS _ 3 (by omega), plv_mkS _ 4 (by omega), plv_mkS _ 5 (by omega), plv_mkS _ 6 (by omega), plv_mkS _ 7 (by omega)]
 rw [show solV (stepS 1 b) = .agg #[.int .u64 (pl (stepS 1 b) 0), .int .u64 (pl (stepS 1 b) 1), .int .u64 (pl (stepS 1 b) 2), .int .u64 (pl (stepS 1 b) 3), .int .u64 (pl (stepS 1 b) 4), .int .u64 (pl (stepS 1 b) 5), .int .u64 (pl (stepS 1 b) 6), .int .u64 (pl (stepS 1 b) 7)] from rfl, e1, show solV b = .agg #[.int .u64 (pl b 0), .int .u64 (pl b 1), .int .u64 (pl b 2), .int .u64 (pl b 3), .int .u64 (pl b 4), .int .u64 (pl b 5), .int .u64 (pl b 6), .int .u64 (pl b 7)] from rfl, sol_planes]
 clear e1
 go_enter Tryd.func80, Tryd.ntmps80
 go_wp2_with fail
 refine (HE _).out.mono ?_
 rintro e w1 ⟨rfl, hb⟩
 have g0 : Blk w1 (w.heap.size + 1) #[.int .u64 0, .int .u64 0, .int .u64 0, .int .u64 0, .int .u64 0, .int .u64 0, .int .u64 0, .int .u64 0] 72 := Blk.grow (by repeat (first | with_reducible assumption | (refine Blk.at _ _ ?_; (simp; done)) | with_reducible refine Blk.alloc ?_ _ | with_reducible refine Blk.drew ?_ | with_reducible refine Blk.rowS ?_ _ | with_reducible refine Blk.rowO ?_ _ (by simp))) hb
 have hB : Below w.heap.size w w1 := bel_trans (by repeat (first | with_reducible exact bel_refl _ | with_reducible assumption | with_reducible refine bel_drewN ?_ _ | with_reducible refine bel_drew ?_ | with_reducible refine bel_alloc ?_ _ | with_reducible refine bel_row ?_ ?_ _ | with_reducible refine bel_set ?_ ?_ _ | refine bel_trans ?_ (by with_reducible assumption) | (simp; done) | (simp; omega))) hb
 have r0 := g0.row
 rw [← g0.rw]
 clear g0 hb HE
 go_wp2_with fail
 refine bodyPost_ret (v := .tuple #[.agg #[.int .u64 (uI (onP 1 (plv b 0))), .int .u64 (uI (onP 1 (plv b 1))), .int .u64 (uI (onP 1 (plv b 2))), .int .u64 (uI (onP 1 (plv b 3))), .int .u64 (uI (onP 1 (plv b 4))), .int .u64 (uI (onP 1 (plv b 5))), .int .u64 (uI (onP 1 (plv b 6))), .int .u64 (uI (onP 1 (plv b 7)))], .bool (inS 1 b)]) (by simp [results, Tryd.results80, go_sem, inS, orP, *]) rfl ⟨rfl, ?_⟩
 exact blw_row hB (by omega) _
set_option maxHeartbeats 1000000 in
theorem south_spec (b : Sol) (w : World) : Calls Tryd.prog 81 #[solV b] w fun e w' => e = .returned (.tuple #[solV (stepS 2 b), .bool (inS 2 b)]) ∧ Below w.heap.size w w' := by
 have HE := fun w => Lib.hid (each2 (plv b 0) (plv b 1) (plv b 2) (plv b 3) (plv b 4) (plv b 5) (plv b 6) (plv b 7) w)
 have e1 : (.agg #[.int .u64 (pl (stepS 2 b) 0), .int .u64 (pl (stepS 2 b) 1), .int .u64 (pl (stepS 2 b) 2), .int .u64 (pl (stepS 2 b) 3), .int .u64 (pl (stepS 2 b) 4), .int .u64 (pl (stepS 2 b) 5), .int .u64 (pl (stepS 2 b) 6), .int .u64 (pl (stepS 2 b) 7)] : Value) = .agg #[.int .u64 (uI (onP 2 (plv b 0))), .int .u64 (uI (onP 2 (plv b 1))), .int .u64 (uI (onP 2 (plv b 2))), .int .u64 (uI (onP 2 (plv b 3))), .int .u64 (uI (onP 2 (plv b 4))), .int .u64 (uI (onP 2 (plv b 5))), .int .u64 (uI (onP 2 (plv b 6))), .int .u64 (uI (onP 2 (plv b 7)))] := by
  rw [sol_planes]
  simp only [stepS, mapS]
  rw [plv_mkS _ 0 (by omega), plv_mkS _ 1 (by omega), plv_mkS _ 2 (by omega), plv_mkS _ 3 (by omega), plv_mkS _ 4 (by omega), plv_mkS _ 5 (by omega), plv_mkS _ 6 (by omega), plv_mkS _ 7 (by omega)]
 rw [show solV (stepS 2 b) = .agg #[.int .u64 (pl (stepS 2 b) 0), .int .u64 (pl (stepS 2 b) 1), .int .u64 (pl (stepS 2 b) 2), .int .u64 (pl (stepS 2 b) 3), .int .u64 (pl (stepS 2 b) 4), .int .u64 (pl (stepS 2 b) 5), .int .u64 (pl (stepS 2 b) 6), .int .u64 (pl (stepS 2 b) 7)] from rfl, e1, show solV b = .agg #[.int .u64 (pl b 0), .int .u64 (pl b 1), .int .u64 (pl b 2), .int .u64 (pl b 3), .int .u64 (pl b 4), .int .u64 (pl b 5), .int .u64 (pl b 6), .int .u64 (pl b 7)] from rfl, sol_planes]
 clear e1
 go_enter Tryd.func81, Tryd.ntmps81
 go_wp2_with fail
 refine (HE _).out.mono ?_
 rintro e w1 ⟨rfl, hb⟩
 have g0 : Blk w1 (w.heap.size + 1) #[.int .u64 0, .int .u64 0, .int .u64 0, .int .u64 0, .int .u64 0, .int .u64 0, .int .u64 0, .int .u64 0] 72 := Blk.grow (by repeat (first | with_reducible assumption | (refine Blk.at _ _ ?_; (simp; done)) | with_reducible refine Blk.alloc ?_ _ | with_reducible refine Blk.drew ?_ | with_reducible refine Blk.rowS ?_ _ | with_reducible refine Blk.rowO ?_ _ (by simp))) hb
 have hB : Below w.heap.size w w1 := bel_trans (by repeat (first | with_reducible exact bel_refl _ | with_reducible assumption | with_reducible refine bel_drewN ?_ _ | with_reducible refine bel_drew ?_ | with_reducible refine bel_alloc ?_ _ | with_reducible refine bel_row ?_ ?_ _ | with_reducible refine bel_set ?_ ?_ _ | refine bel_trans ?_ (by with_reducible assumption) | (simp; done) | (simp; omega))) hb
 have r0 := g0.row
 rw [← g0.rw]
 clear g0 hb HE
 go_wp2_with fail
 refine bodyPost_ret (v := .tuple #[.agg #[.int .u64 (uI (onP 2 (plv b 0))), .int .u64 (uI (onP 2 (plv b 1))), .int .u64 (uI (onP 2 (plv b 2))), .int .u64 (uI (onP 2 (plv b 3))), .int .u64 (uI (onP 2 (plv b 4))), .int .u64 (uI (onP 2 (plv b 5))), .int .u64 (uI (onP 2 (plv b 6))), .int .u64 (uI (onP 2 (plv b 7)))], .bool (inS 2 b)]) (by simp [results, Tryd.results81, go_sem, inS, orP, *]) rfl ⟨rfl, ?_⟩
 exact blw_row hB (by omega) _
set_option maxHeartbeats 1000000 in
theorem west_spec (b : Sol) (w : World) : Calls Tryd.prog 82 #[solV b] w fun e w' => e = .returned (.tuple #[solV (stepS 3 b), .bool (inS 3 b)]) ∧ Below w.heap.size w w' := by
 have HE := fun w => Lib.hid (each3 (plv b 0) (plv b 1) (plv b 2) (plv b 3) (plv b 4) (plv b 5) (plv b 6) (plv b 7) w)
 have e1 : (.agg #[.int .u64 (pl (stepS 3 b) 0), .int .u64 (pl (stepS 3 b) 1), .int .u64 (pl (stepS 3 b) 2), .int .u64 (pl (stepS 3 b) 3), .int .u64 (pl (stepS 3 b) 4), .int .u64 (pl (stepS 3 b) 5), .int .u64 (pl (stepS 3 b) 6), .int .u64 (pl (stepS 3 b) 7)] : Value) = .agg #[.int .u64 (uI (onP 3 (plv b 0))), .int .u64 (uI (onP 3 (plv b 1))), .int .u64 (uI (onP 3 (plv b 2))), .int .u64 (uI (onP 3 (plv b 3))), .int .u64 (uI (onP 3 (plv b 4))), .int .u64 (uI (onP 3 (plv b 5))), .int .u64 (uI (onP 3 (plv b 6))), .int .u64 (uI (onP 3 (plv b 7)))] := by
  rw [sol_planes]
  simp only [stepS, mapS]
  rw [plv_mkS _ 0 (by omega), plv_mkS _ 1 (by omega), plv_mkS _ 2 (by omega), plv_mkS _ 3 (by omega), plv_mkS _ 4 (by omega), plv_mkS _ 5 (by omega), plv_mkS _ 6 (by omega), plv_mkS _ 7 (by omega)]
 rw [show solV (stepS 3 b) = .agg #[.int .u64 (pl (stepS 3 b) 0), .int .u64 (pl (stepS 3 b) 1), .int .u64 (pl (stepS 3 b) 2), .int .u64 (pl (stepS 3 b) 3), .int .u64 (pl (stepS 3 b) 4), .int .u64 (pl (stepS 3 b) 5), .int .u64 (pl (stepS 3 b) 6), .int .u64 (pl (stepS 3 b) 7)] from rfl, e1, show solV b = .agg #[.int .u64 (pl b 0), .int .u64 (pl b 1), .int .u64 (pl b 2), .int .u64 (pl b 3), .int .u64 (pl b 4), .int .u64 (pl b 5), .int .u64 (pl b 6), .int .u64 (pl b 7)] from rfl, sol_planes]
 clear e1
 go_enter Tryd.func82, Tryd.ntmps82
 go_wp2_with fail
 refine (HE _).out.mono ?_
 rintro e w1 ⟨rfl, hb⟩
 have g0 : Blk w1 (w.heap.size + 1) #[.int .u64 0, .int .u64 0, .int .u64 0, .int .u64 0, .int .u64 0, .int .u64 0, .int .u64 0, .int .u64 0] 72 := Blk.grow (by repeat (first | with_reducible assumption | (refine Blk.at _ _ ?_; (simp; done)) | with_reducible refine Blk.alloc ?_ _ | with_reducible refine Blk.drew ?_ | with_reducible refine Blk.rowS ?_ _ | with_reducible refine Blk.rowO ?_ _ (by simp))) hb
 have hB : Below w.heap.size w w1 := bel_trans (by repeat (first | with_reducible exact bel_refl _ | with_reducible assumption | with_reducible refine bel_drewN ?_ _ | with_reducible refine bel_drew ?_ | with_reducible refine bel_alloc ?_ _ | with_reducible refine bel_row ?_ ?_ _ | with_reducible refine bel_set ?_ ?_ _ | refine bel_trans ?_ (by with_reducible assumption) | (simp; done) | (simp; omega))) hb
 have r0 := g0.row
 rw [← g0.rw]
 clear g0 hb HE
 go_wp2_with fail
 refine bodyPost_ret (v := .tuple #[.agg #[.int .u64 (uI (onP 3 (plv b 0))), .int .u64 (uI (onP 3 (plv b 1))), .int .u64 (uI (onP 3 (plv b 2))), .int .u64 (uI (onP 3 (plv b 3))), .int .u64 (uI (onP 3 (plv b 4))), .int .u64 (uI (onP 3 (plv b 5))), .int .u64 (uI (onP 3 (plv b 6))), .int .u64 (uI (onP 3 (plv b 7)))], .bool (inS 3 b)]) (by simp [results, Tryd.results82, go_sem, inS, orP, *]) rfl ⟨rfl, ?_⟩
 exact blw_row hB (by omega) _
set_option maxHeartbeats 1000000 in
theorem north_spec (b : Sol) (w : World) : Calls Tryd.prog 83 #[solV b] w fun e w' => e = .returned (.tuple #[solV (stepS 4 b), .bool (inS 4 b)]) ∧ Below w.heap.size w w' := by
 have HE := fun w => Lib.hid (each4 (plv b 0) (plv b 1) (plv b 2) (plv b 3) (plv b 4) (plv b 5) (plv b 6) (plv b 7) w)
 have e1 : (.agg #[.int .u64 (pl (stepS 4 b) 0), .int .u64 (pl (stepS 4 b) 1), .int .u64 (pl (stepS 4 b) 2), .int .u64 (pl (stepS 4 b) 3), .int .u64 (pl (stepS 4 b) 4), .int .u64 (pl (stepS 4 b) 5), .int .u64 (pl (stepS 4 b) 6), .int .u64 (pl (stepS 4 b) 7)] : Value) = .agg #[.int .u64 (uI (onP 4 (plv b 0))), .int .u64 (uI (onP 4 (plv b 1))), .int .u64 (uI (onP 4 (plv b 2))), .int .u64 (uI (onP 4 (plv b 3))), .int .u64 (uI (onP 4 (plv b 4))), .int .u64 (uI (onP 4 (plv b 5))), .int .u64 (uI (onP 4 (plv b 6))), .int .u64 (uI (onP 4 (plv b 7)))] := by
  rw [sol_planes]
  simp only [stepS, mapS]
  rw [plv_mkS _ 0 (by omega), plv_mkS _ 1 (by omega), plv_mkS _ 2 (by omega), plv_mkS _ 3 (by omega), plv_mkS _ 4 (by omega), plv_mkS _ 5 (by omega), plv_mkS _ 6 (by omega), plv_mkS _ 7 (by omega)]
 rw [show solV (stepS 4 b) = .agg #[.int .u64 (pl (stepS 4 b) 0), .int .u64 (pl (stepS 4 b) 1), .int .u64 (pl (stepS 4 b) 2), .int .u64 (pl (stepS 4 b) 3), .int .u64 (pl (stepS 4 b) 4), .int .u64 (pl (stepS 4 b) 5), .int .u64 (pl (stepS 4 b) 6), .int .u64 (pl (stepS 4 b) 7)] from rfl, e1, show solV b = .agg #[.int .u64 (pl b 0), .int .u64 (pl b 1), .int .u64 (pl b 2), .int .u64 (pl b 3), .int .u64 (pl b 4), .int .u64 (pl b 5), .int .u64 (pl b 6), .int .u64 (pl b 7)] from rfl, sol_planes]
 clear e1
 go_enter Tryd.func83, Tryd.ntmps83
 go_wp2_with fail
 refine (HE _).out.mono ?_
 rintro e w1 ⟨rfl, hb⟩
 have g0 : Blk w1 (w.heap.size + 1) #[.int .u64 0, .int .u64 0, .int .u64 0, .int .u64 0, .int .u64 0, .int .u64 0, .int .u64 0, .int .u64 0] 72 := Blk.grow (by repeat (first | with_reducible assumption | (refine Blk.at _ _ ?_; (simp; done)) | with_reducible refine Blk.alloc ?_ _ | with_reducible refine Blk.drew ?_ | with_reducible refine Blk.rowS ?_ _ | with_reducible refine Blk.rowO ?_ _ (by simp))) hb
 have hB : Below w.heap.size w w1 := bel_trans (by repeat (first | with_reducible exact bel_refl _ | with_reducible assumption | with_reducible refine bel_drewN ?_ _ | with_reducible refine bel_drew ?_ | with_reducible refine bel_alloc ?_ _ | with_reducible refine bel_row ?_ ?_ _ | with_reducible refine bel_set ?_ ?_ _ | refine bel_trans ?_ (by with_reducible assumption) | (simp; done) | (simp; omega))) hb
 have r0 := g0.row
 rw [← g0.rw]
 clear g0 hb HE
 go_wp2_with fail
 refine bodyPost_ret (v := .tuple #[.agg #[.int .u64 (uI (onP 4 (plv b 0))), .int .u64 (uI (onP 4 (plv b 1))), .int .u64 (uI (onP 4 (plv b 2))), .int .u64 (uI (onP 4 (plv b 3))), .int .u64 (uI (onP 4 (plv b 4))), .int .u64 (uI (onP 4 (plv b 5))), .int .u64 (uI (onP 4 (plv b 6))), .int .u64 (uI (onP 4 (plv b 7)))], .bool (inS 4 b)]) (by simp [results, Tryd.results83, go_sem, inS, orP, *]) rfl ⟨rfl, ?_⟩
 exact blw_row hB (by omega) _
end Go.Proofs.YtkcpnhigekopaaaDoor
end
section
namespace Go.Proofs.YtkcpnhigekopaaaDoor
open Go.RowKit Go.Rel Go.Draw
set_option maxRecDepth 100000
/-! the least piece of a set -/
/-- the table of TrailingZeros64 lies where the program laid it -/
def Tab (w : World) : Prop := ∀ k, k < 64 → w.cell? ⟨0, k, none⟩ = some (.int .u8 (tzTab.getD k 0 : Nat))
theorem Tab.lt {w : World} (h : Tab w) : 0 < w.heap.size := block_lt_of_cell (h 0 (by omega))
theorem Tab.mono {w w' : World} (h : Tab w) {B : Nat} (hb : Below B w w') (hB : 0 < B) : Tab w' := fun k hk => (hb.cell (p := ⟨0, k, none⟩) hB).trans (h k hk)
theorem Tab.grow {w w' : World} (h : Tab w) (hb : Below w.heap.size w w') : Tab w' := h.mono hb h.lt
theorem wrap_toNat (x : Nat) : IntKind.u64.wrap (x : Int) = ((x % 2 ^ 64 : Nat) : Int) := by
 unfold IntKind.wrap
 rw [if_neg (by simp [IntKind.signed])]
 rw [Int.natCast_emod]; rfl
theorem neg_u (p : U) : IntKind.u64.wrap (-(uI p)) = uI (-p) := by
 have h : IntKind.u64.wrap (-(uI p)) = (-(uI p)) % 18446744073709551616 := by
  unfold IntKind.wrap
  rw [if_neg (by simp [IntKind.signed])]
  rfl
 rw [h]
 unfold uI
 rw [BitVec.toNat_neg]
 have := p.isLt
 omega
theorem mul_u (a b : U) : IntKind.u64.wrap (uI a * uI b) = uI (a * b) := by
 have : uI a * uI b = ((a.toNat * b.toNat : Nat) : Int) := by unfold uI; rw [Int.natCast_mul]
 rw [this, wrap_toNat]
 unfold uI
 rw [BitVec.toNat_mul]
theorem tz_idx (k : Nat) : IntKind.u64.wrap (uI (bit k) * 285870213051353865) / 288230376151711744 = ((tzAt k : Nat) : Int) := by
 have e : (285870213051353865 : Int) = uI 285870213051353865#64 := by unfold uI; rfl
 rw [e, mul_u]
 have := shr_u (bit k * 285870213051353865#64) 58
 rw [show ((2 ^ 58 : Nat) : Int) = 288230376151711744 from rfl] at this
 rw [this]
 unfold uI tzAt
 rfl
theorem tz64_core (x y z : Int) (t k : Nat) (w : World) (e0 : (x == 0) = false) (e1 : bits .and .u64 x (IntKind.u64.wrap (-x)) = y) (e2 : IntKind.u64.wrap (y * 285870213051353865) = z) (e3 : z / 288230376151711744 = (t : Int)) (ht : t < 64) (hk : k < 64)
  (hc : w.cell? ⟨0, t, none⟩ = some (.int .u8 (k : Int))) : Calls Tryd.prog 48 #[.int .u64 x] w fun e w' => e = .returned (.int .i64 (k : Nat)) ∧ w' = w := by
 go_enter Tryd.func48, Tryd.ntmps48
 go_wp2_with fail
 go_ret
 exact ⟨rfl, rfl⟩
theorem tz64_spec (p : U) (hp : p ≠ 0) (w : World) (hT : Tab w) : Calls Tryd.prog 48 #[.int .u64 (uI p)] w fun e w' => e = .returned (.int .i64 (lowU p : Nat)) ∧ w' = w := by
 obtain ⟨hk, _, _⟩ := lowU_spec p hp
 obtain ⟨ht, htab⟩ := tz_tab (lowU p) hk
 have hc := hT _ ht
 rw [htab] at hc
 have e0 : (uI p == 0) = false := by rw [beq_u0]; simpa using hp
 have e1 : bits .and .u64 (uI p) (IntKind.u64.wrap (-(uI p))) = uI (bit (lowU p)) := by rw [neg_u, bits_and_u, low_and_neg p hp]
 exact tz64_core _ _ _ _ _ w e0 e1 rfl (tz_idx (lowU p)) ht hk hc
theorem tz_spec (p : U) (hp : p ≠ 0) (w : World) (hT : Tab w) : Calls Tryd.prog 36 #[.int .u64 (uI p)] w fun e w' => e = .returned (.int .i64 (lowU p : Nat)) ∧ w' = w := by
 have H := Lib.hid (tz64_spec p hp w hT)
 clear hT
 go_enter Tryd.func36, Tryd.ntmps36
 go_wp2_with fail
 refine H.out.mono ?_
 rintro e w' ⟨rfl, rfl⟩
 go_wp2_with fail
 go_ret
 exact ⟨rfl, rfl⟩
end Go.Proofs.YtkcpnhigekopaaaDoor
end
section
namespace Go.Proofs.YtkcpnhigekopaaaDoor
open Go.RowKit Go.Rel Go.Draw
set_option maxRecDepth 100000
/-! the list of a set -/
theorem sub1_u (p : U) : IntKind.u64.wrap (uI p - 1) = uI (p - 1) := by
 have h : IntKind.u64.wrap (uI p - 1) = (uI p - 1) % 18446744073709551616 := by
  unfold IntKind.wrap
  rw [if_neg (by simp [IntKind.signed])]
  rfl
 rw [h]
 unfold uI
 rw [BitVec.toNat_sub]
 have := p.isLt
 show _ = (((2 ^ 64 - 1 + p.toNat) % 2 ^ 64 : Nat) : Int)
 omega
theorem drop_u (p : U) : bits .and .u64 (uI p) (IntKind.u64.wrap (uI p - 1)) = uI (p &&& (p - 1)) := by rw [sub1_u, bits_and_u]
theorem intsL_length (l : List Nat) : (intsL l).length = l.length := by unfold intsL; simp
set_option maxHeartbeats 2000000 in
theorem list_spec (s : U) (w : World) (hT : Tab w) : Calls Tryd.prog 22 #[.int .u64 (uI s)] w fun e w' => ∃ u, e = .returned u ∧ OwnI w' w.heap.size u (intsL (listU s)) ∧ Below w.heap.size w w' := by
 obtain ⟨i0, hi, hz0, hz1, hz2⟩ := info_parts infoInt
 have HI0 := Lib.hid (And.intro hi (And.intro hz0 (And.intro hz1 hz2))); clear hi hz0 hz1 hz2
 have HT := Lib.hid hT; clear hT
 obtain ⟨L, hL⟩ : ∃ L, L = listU s := ⟨_, rfl⟩
 rw [← hL]
 have HL := Lib.hid hL
 have HLL : Hid (L.length ≤ 64) := Lib.hid (by rw [hL]; exact cardU_le s)
 clear hL
 go_enter Tryd.func22, Tryd.ntmps22
 go_wp2_with fail
 go_loopw [0, 3] (fun sv u wr => ∃ (q : U) (pre : List Nat), sv = .int .u64 (uI q) ∧ Hid (pre ++ listU q = L) ∧ Hid (OwnI wr w.heap.size u (intsL pre)) ∧ Below w.heap.size w wr) (fun sv _ _ => cardU (BitVec.ofInt 64 (intOf sv)))
 case atStart => exact ⟨s, [], rfl, Lib.hid (by rw [HL.out]; rfl), Lib.hid (show OwnI w w.heap.size (.slice none 0 0) (intsL []) from World.ownsRow_nil _ _ _ _), Below.refl _ _⟩
 case round =>
  obtain ⟨q, pre, rfl, HP, hO, hbel⟩ := hrel
  have hsz := hbel.size
  by_cases hq : q = 0
  ·have e0 : (uI q != 0) = false := by rw [bne_u0, hq]; rfl
   have HQ := Lib.hid hq; clear hq
   go_wp2_with fail
   go_ret
   refine ⟨_, rfl, ?_, hbel⟩
   have := HP.out
   rw [HQ.out, listU_zero, List.append_nil] at this
   rw [← this]
   exact hO.out
  ·have e0 : (uI q != 0) = true := by rw [bne_u0]; simpa using hq
   have ed := drop_u q
   have HQ := Lib.hid hq; clear hq
   go_wp2_with fail
   refine (tz_spec q HQ.out _ (HT.out.grow hbel)).mono ?_
   rintro e w1 ⟨rfl, hw1⟩
   have hw2 := hw1.symm
   subst hw2
   clear hw1
   have hpl : pre.length + cardU q ≤ 64 := by
    have := congrArg List.length HP.out
    have h2 := HLL.out
    rw [List.length_append] at this
    unfold cardU; omega
   have hx := hO.out
   unfold OwnI at hx
   rw [intsL_length] at hx
   have HX := Lib.hid hx; clear hx
   go_wp2_with (first
    | (at_builtin; refine wpList_append_own _ rfl _ _ 34 rfl w.heap.size 3 i0 (.int .i64 0) 1 8 Tryd.underlying34 HI0.out.1 HI0.out.2.1 HI0.out.2.2.1 HI0.out.2.2.2 rfl (by decide) _ _ _ rfl (HX.out.alloc _) ⟨wr.heap.size, 0, none⟩ 1 1 [.int .i64 (lowU q : Nat)] rfl rfl (cell_one_new _ _ _) (fun x hx => by simp at hx; subst hx; rfl) (by unfold maxLen; omega) (by omega) (by simp; omega) ?_; intro v' w3 hown' hgrow3 hnil3))
   go_roundw
   case rel => exact ⟨q &&& (q - 1), pre ++ [lowU q], rfl, Lib.hid (by rw [List.append_assoc]; show pre ++ (lowU q :: listU (q &&& (q - 1))) = L; rw [← listU_cons q HQ.out]; exact HP.out), Lib.hid (by unfold OwnI; rw [intsL_length, List.length_append]; unfold intsL at *; rw [List.map_append, List.map_append]; exact hown'), (bel_alloc hbel _).grown hgrow3 (by simp; omega) (fun j hj => (HX.out.lt j hj).1)⟩
   case measure =>
    show cardU (BitVec.ofInt 64 (uI (q &&& (q - 1)))) < cardU (BitVec.ofInt 64 (uI q))
    rw [ofInt_uI, ofInt_uI]
    have := cardU_drop q HQ.out
    omega
end Go.Proofs.YtkcpnhigekopaaaDoor
end
section
namespace Go.Proofs.YtkcpnhigekopaaaDoor
open Go.RowKit Go.Rel Go.Draw
set_option maxRecDepth 100000
theorem pow_u (p : Nat) (hp : p < 64) : IntKind.u64.wrap ((2 : Int) ^ p) = uI (bit p) := by
 have h := shl_u 1#64 p
 rw [show uI 1#64 = 1 from uI_one, Int.one_mul] at h
 rw [show ((2 : Int) ^ p) = ((2 ^ p : Nat) : Int) by rw [Int.natCast_pow]; rfl, h]
 rfl
theorem all_spec (a : Option Addr) (n c : Nat) (hp : n < 64) (w : World) : Calls Tryd.prog 26 #[.slice a n c] w fun e w' => e = .returned (.int .u64 (uI (allU n))) ∧ w' = w := by
 have e1 := pow_u n hp
 have e2 := sub1_u (bit n)
 go_enter Tryd.func26, Tryd.ntmps26
 go_wp2_with fail
 go_ret
 exact ⟨rfl, rfl⟩
set_option maxHeartbeats 1000000 in
theorem isMove_spec (side far : Int) (w : World) : Calls Tryd.prog 33 #[.int .i64 side, .int .i64 far] w fun e w' => e = .returned (.bool (isMoveI side far)) ∧ w' = w := by
 go_enter Tryd.func33, Tryd.ntmps33
 go_wp2_with fail
 all_goals (go_ret; exact ⟨ret_bool (by unfold isMoveI; simp [*] <;> omega), rfl⟩)
theorem sides_spec (w : World) : Calls Tryd.prog 68 #[] w fun e w' => e = .returned (.agg #[.nilFunc, .func (.func 80) #[] #[], .func (.func 81) #[] #[], .func (.func 82) #[] #[], .func (.func 83) #[] #[]]) ∧ Below w.heap.size w w' := by
 go_enter Tryd.func68, Tryd.ntmps68
 go_wp2_with fail
 exact bodyPost_ret (v := .agg #[.nilFunc, .func (.func 80) #[] #[], .func (.func 81) #[] #[], .func (.func 82) #[] #[], .func (.func 83) #[] #[]]) (by simp [results, Tryd.results68, go_sem]) rfl ⟨rfl, (by repeat (first | with_reducible exact bel_refl _ | with_reducible assumption | with_reducible refine bel_drewN ?_ _ | with_reducible refine bel_drew ?_ | with_reducible refine bel_alloc ?_ _ | with_reducible refine bel_row ?_ ?_ _ | with_reducible refine bel_set ?_ ?_ _ | refine bel_trans ?_ (by with_reducible assumption) | (simp; done) | (simp; omega)))⟩
theorem sl_block {w : World} {g : Nat} {t : TypeId} {cur : Array Value} {k : Nat} {ls : List (List Value)} (h : Blk w g cur t) (hs : ∀ r ∈ ls, r.length = k) (hx : ls.flatten = cur.toList) (hl : ls.length ≤ 1000) : Sl w k (.slice (some ⟨g, 0, none⟩) ls.length ls.length) ls := by
 have e : cur.size = ls.length * k := by
  have hl2 : ls.flatten.length = cur.size := by rw [hx, Array.length_toList]
  rw [← hl2, List.length_flatten]
  have : ∀ ls : List (List Value), (∀ r ∈ ls, r.length = k) → (ls.map List.length).sum = ls.length * k := by
   intro ls
   induction ls with
   | nil => intro _; simp
   | cons a l ih =>
    intro H
    rw [List.map_cons, List.sum_cons, ih (fun r hr => H r (by simp [hr])), H a (by simp), List.length_cons, Nat.add_mul]; omega
  exact this ls hs
 refine own_sl (w := w) (base := 0) (e := t) hs hx ⟨by rw [Array.length_toList, e], .inr ⟨g, ls.length, cur, rfl, Nat.zero_le _, h, Nat.le_refl _, by unfold maxLen; omega, e, ?_⟩⟩
 rw [← e, ← Array.length_toList, List.take_length]
end Go.Proofs.YtkcpnhigekopaaaDoor
end
