import Derived.Test.YtccnkebkgegohaaGreatDoorT
import Derived.Test.YtccnkebkgegohaaGreatDoorHA0
/-
  Given contracts of functions of the program, and laws for them, one behind the other.
-/
set_option linter.unusedVariables false
set_option linter.unusedSimpArgs false
set_option linter.unusedSectionVars false
section
namespace Go.Proofs.YtccnkebkgegohaaGreatDoor
open Go.RowKit Go.Rel
set_option maxRecDepth 100000
/-! the exported functions' results, one form for all ways -/
@[go_sem high] theorem eqStn (d : Nat) (s s' : Sol) (o o' : Int) (w : World) : (Op.equalIn (d+3) 37 (.agg #[.int .u64 (pl s 0), .int .u64 (pl s 1), .int .u64 (pl s 2), .int .u64 (pl s 3), .int .u64 (pl s 4), .int .u64 (pl s 5), .int .u64 (pl s 6), .int .u64 (pl s 7), .int .u8 o]) (.agg #[.int .u64 (pl s' 0), .int .u64 (pl s' 1), .int .u64 (pl s' 2), .int .u64 (pl s' 3), .int .u64 (pl s' 4), .int .u64 (pl s' 5), .int .u64 (pl s' 6), .int .u64 (pl s' 7), .int .u8 o'])).run Tryz.prog w = .ok ((s == s') && (o == o')) w := by
  rw [run_equalIn_struct w (d+2) 37 _ _ (by kernel_rfl) (by kernel_rfl)]
  go_simp
  split
  · next h1 =>
    split
    · next h2 => simp [h1, h2]
    · next h2 => simp [h1, h2]
  · next h1 => simp [h1]
/-- a returned history, and an error -/
def HRes (b : Sol) (l : List Sol) (M : List Ac) (E : Int) (w : World) (e : Ending) (w' : World) : Prop :=
  ∃ p n c q k d, e = .returned (.tuple #[.agg #[.int .u64 (pl b 0), .int .u64 (pl b 1), .int .u64 (pl b 2), .int .u64 (pl b 3), .int .u64 (pl b 4), .int .u64 (pl b 5), .int .u64 (pl b 6), .int .u64 (pl b 7), .slice p n c, .slice q k d], .int .i64 E]) ∧ SlS w' (.slice p n c) l ∧ SlA w' (.slice q k d) M ∧ Below w.heap.size w w'
theorem hres_own {b : Sol} {l : List Sol} {M : List Ac} {E : Int} {w w' : World} {base : Nat} {pv bv : Value} (hS : OwnS w' base pv l) (hA : OwnA w' base bv M) (hb : Below w.heap.size w w') : HRes b l M E w (.returned (.tuple #[.agg #[.int .u64 (pl b 0), .int .u64 (pl b 1), .int .u64 (pl b 2), .int .u64 (pl b 3), .int .u64 (pl b 4), .int .u64 (pl b 5), .int .u64 (pl b 6), .int .u64 (pl b 7), pv, bv], .int .i64 E])) w' := by
  obtain ⟨p, c, rfl, _, _⟩ := own_shape' hS
  obtain ⟨q, d, rfl, _, _⟩ := own_shape' hA
  exact ⟨p, _, c, q, _, d, rfl, hS.sl, hA.sl, hb⟩
theorem sl_nil {k : Nat} (w : World) : Sl w k (.slice none 0 0) [] := ⟨none, 0, rfl, Nat.le_refl _, by decide, .inl rfl⟩
theorem zero_hist : (.agg #[.int .u64 0, .int .u64 0, .int .u64 0, .int .u64 0, .int .u64 0, .int .u64 0, .int .u64 0, .int .u64 0, .slice none 0 0, .slice none 0 0] : Value) = .agg #[.int .u64 (pl 0 0), .int .u64 (pl 0 1), .int .u64 (pl 0 2), .int .u64 (pl 0 3), .int .u64 (pl 0 4), .int .u64 (pl 0 5), .int .u64 (pl 0 6), .int .u64 (pl 0 7), .slice none 0 0, .slice none 0 0] := by simp only [pl_zero]
theorem hres_zero {x : Int} {w w' : World} (hb : Below w.heap.size w w') : HRes 0 [] [] x w (.returned (.tuple #[.agg #[.int .u64 0, .int .u64 0, .int .u64 0, .int .u64 0, .int .u64 0, .int .u64 0, .int .u64 0, .int .u64 0, .slice none 0 0, .slice none 0 0], .int .i64 x])) w' := by
  rw [zero_hist]
  exact ⟨none, 0, 0, none, 0, 0, rfl, sl_nil w', sl_nil w', hb⟩
section
variable {b : Sol} {l : List Sol} {m : List Ac} {t : StB} {v av : Value}
theorem Reduced_r (R : Runs b l m t) (w : World) (Hv : SlS w v l) (Hav : SlA w av m) : Calls Tryz.prog 21 #[.agg #[.int .u64 (pl b 0), .int .u64 (pl b 1), .int .u64 (pl b 2), .int .u64 (pl b 3), .int .u64 (pl b 4), .int .u64 (pl b 5), .int .u64 (pl b 6), .int .u64 (pl b 7), v, av]] w (HRes b l (nrm l (redL l m)) 0 w) := by
  refine (Reduced_good R.good w Hv Hav).mono fun e w' ⟨pv, bv, he, h1, h2, h3⟩ => ?_
  subst he
  have e : actsAt m (leastI (depI (cellsOf l m)) (cmpN m) (reducedM l m).length (reducedM l m)) = nrm l (redL l m) := by
    have := reduced_eq R.fine
    unfold leastA at this
    exact this
  rw [e] at h2
  exact hres_own h1 h2 h3
theorem Normal_r (R : Runs b l m t) (w : World) (Hv : SlS w v l) (Hav : SlA w av m) : Calls Tryz.prog 55 #[.agg #[.int .u64 (pl b 0), .int .u64 (pl b 1), .int .u64 (pl b 2), .int .u64 (pl b 3), .int .u64 (pl b 4), .int .u64 (pl b 5), .int .u64 (pl b 6), .int .u64 (pl b 7), v, av]] w (HRes b l (nrm l m) 0 w) := by
  refine (Normal_good R.good w Hv Hav).mono fun e w' ⟨pv, bv, he, h1, h2, h3⟩ => ?_
  subst he
  rw [normalM_eq R.fine] at h2
  exact hres_own h1 h2 h3
theorem Stand_r (R : Runs b l m t) (w : World) (Hv : SlS w v l) (Hav : SlA w av m) : Calls Tryz.prog 22 #[.agg #[.int .u64 (pl b 0), .int .u64 (pl b 1), .int .u64 (pl b 2), .int .u64 (pl b 3), .int .u64 (pl b 4), .int .u64 (pl b 5), .int .u64 (pl b 6), .int .u64 (pl b 7), v, av]] w fun e w' => e = .returned (.tuple #[.agg #[.int .u64 (pl t.1 0), .int .u64 (pl t.1 1), .int .u64 (pl t.1 2), .int .u64 (pl t.1 3), .int .u64 (pl t.1 4), .int .u64 (pl t.1 5), .int .u64 (pl t.1 6), .int .u64 (pl t.1 7), .int .u8 (t.2.toNat : Int)], .int .i64 0]) ∧ Below w.heap.size w w' :=
  Stand_good R.good w Hv Hav
theorem Reduced_again (R : Runs b l m t) (w : World) (Hv : SlS w v l) (Hav : SlA w av (nrm l (redL l m))) : Calls Tryz.prog 21 #[.agg #[.int .u64 (pl b 0), .int .u64 (pl b 1), .int .u64 (pl b 2), .int .u64 (pl b 3), .int .u64 (pl b 4), .int .u64 (pl b 5), .int .u64 (pl b 6), .int .u64 (pl b 7), v, av]] w (HRes b l (nrm l (redL l m)) 0 w) := by
  have h := Reduced_r R.red.nrm w Hv Hav
  rw [redL_again] at h
  exact h
theorem Reduced_any (b : Sol) (l : List Sol) (m : List Ac) (w : World) (Hv : SlS w v l) (Hav : SlA w av m) : Calls Tryz.prog 21 #[.agg #[.int .u64 (pl b 0), .int .u64 (pl b 1), .int .u64 (pl b 2), .int .u64 (pl b 3), .int .u64 (pl b 4), .int .u64 (pl b 5), .int .u64 (pl b 6), .int .u64 (pl b 7), v, av]] w fun e w' => ∃ B L M E, HRes B L M E w e w' ∧ (E = 0 → B = b ∧ L = l ∧ M = nrm l (redL l m)) := by
  cases h : begunM b l m with
  | inl x =>
    refine (Reduced_bad h w Hv Hav).mono fun e w' ⟨he, hb⟩ => ?_
    subst he
    refine ⟨0, [], [], x.2, hres_zero hb, fun h0 => ?_⟩
    have := begunM_bad h
    rw [h0] at this; cases this
  | inr s =>
    obtain ⟨t, R, _⟩ := Runs.of h
    exact (Reduced_r R w Hv Hav).mono fun e w' h => ⟨b, l, _, 0, h, fun _ => ⟨rfl, rfl, rfl⟩⟩
theorem sl_take {w : World} {k i n c : Nat} {a : Option Addr} {xs : List (List Value)} (h : Sl w k (.slice a n c) xs) (hi : i ≤ n) : Sl w k (sliced a 0 i i k) (xs.take i) := by
  obtain ⟨a', c', he, h1, h2, h3⟩ := h
  cases he
  have hl : (xs.take i).length = i := by rw [List.length_take]; omega
  have e : sliced a 0 i i k = .slice a i i := by
    unfold sliced
    by_cases h0 : i = 0
    · simp [h0]
    · rcases h3 with rfl | ⟨b, off, rfl, _⟩
      · simp at hi; omega
      · simp [h0, Go.WideShapes.add_plain]
  rw [e]
  refine ⟨a, i, by rw [hl], by rw [hl]; exact Nat.le_refl _, by omega, ?_⟩
  rcases h3 with rfl | ⟨b, off, rfl, h4⟩
  · exact .inl (by simp)
  · refine .inr ⟨b, off, rfl, h4.1, fun p j u hu => h4.2 p j u ?_⟩
    obtain ⟨r, hr, hj⟩ := Option.bind_eq_some_iff.1 hu
    have hp : p < i := by have := (List.getElem?_eq_some_iff.1 hr).1; rw [hl] at this; exact this
    rw [List.getElem?_take_of_lt hp] at hr
    rw [hr]; exact hj
theorem sl_drop {w : World} {k i n c : Nat} {a : Option Addr} {xs : List (List Value)} (h : Sl w k (.slice a n c) xs) (hi : i ≤ n) : Sl w k (sliced a i n c k) (xs.drop i) := by
  obtain ⟨a', c', he, h1, h2, h3⟩ := h
  cases he
  have hl : (xs.drop i).length = xs.length - i := by rw [List.length_drop]
  unfold sliced
  refine ⟨_, _, by rw [hl], by rw [hl]; omega, by omega, ?_⟩
  rcases h3 with rfl | ⟨b, off, rfl, h4⟩
  · exact .inl (by simp)
  · by_cases hx : xs.drop i = []
    · exact .inl hx
    · have hlt : i < xs.length := by
        rcases Nat.lt_or_ge i xs.length with h | h
        · exact h
        · exact absurd (List.drop_eq_nil_of_le h) hx
      refine .inr ⟨b, off + i * k, ?_, h4.1, fun p j u hu => ?_⟩
      · simp only [Option.map_some]
        rw [if_neg (by omega), Go.WideShapes.add_plain]
      · obtain ⟨r, hr, hj⟩ := Option.bind_eq_some_iff.1 hu
        rw [List.getElem?_drop] at hr
        have := h4.2 (i + p) j u (by rw [hr]; exact hj)
        rw [show off + i * k + p * k + j = off + (i + p) * k + j by rw [Nat.add_mul]; omega]
        exact this
theorem Same_eq {b : Sol} {v av v2 av2 : Value} {l : List Sol} {m : List Ac} (w : World) (hv : SlS w v l) (ha : SlA w av m) (hv2 : SlS w v2 l) (ha2 : SlA w av2 m) :
    Calls Tryz.prog 23 #[.agg #[.int .u64 (pl b 0), .int .u64 (pl b 1), .int .u64 (pl b 2), .int .u64 (pl b 3), .int .u64 (pl b 4), .int .u64 (pl b 5), .int .u64 (pl b 6), .int .u64 (pl b 7), v, av], .agg #[.int .u64 (pl b 0), .int .u64 (pl b 1), .int .u64 (pl b 2), .int .u64 (pl b 3), .int .u64 (pl b 4), .int .u64 (pl b 5), .int .u64 (pl b 6), .int .u64 (pl b 7), v2, av2]] w fun e w' => e = .returned (.bool true) ∧ Below w.heap.size w w' := by
  have := Same_spec b b v av v2 av2 l l m m w hv ha hv2 ha2
  simpa [samePat] using this
/-- few, of one, two, three histories -/
def fewB (h : List (List Sol × List Ac)) : Bool := !h.any fun x => many x.2.length x.1.length
end
theorem hv_sl1 {W : World} {g t : Nat} {b : Sol} {p q : Value} (h : Blk W g #[.int .u64 (pl b 0), .int .u64 (pl b 1), .int .u64 (pl b 2), .int .u64 (pl b 3), .int .u64 (pl b 4), .int .u64 (pl b 5), .int .u64 (pl b 6), .int .u64 (pl b 7), p, q] t) : Sl W 10 (.slice (some ⟨g, 0, none⟩) 1 1) ([((b, p, q) : Hv)].map hvL) :=
  Sl.ofBlk h rfl (by decide) (by simp) (by simp)
theorem hv_sl2 {W : World} {g t : Nat} {b b' : Sol} {p q p' q' : Value} (h : Blk W g #[.int .u64 (pl b 0), .int .u64 (pl b 1), .int .u64 (pl b 2), .int .u64 (pl b 3), .int .u64 (pl b 4), .int .u64 (pl b 5), .int .u64 (pl b 6), .int .u64 (pl b 7), p, q, .int .u64 (pl b' 0), .int .u64 (pl b' 1), .int .u64 (pl b' 2), .int .u64 (pl b' 3), .int .u64 (pl b' 4), .int .u64 (pl b' 5), .int .u64 (pl b' 6), .int .u64 (pl b' 7), p', q'] t) : Sl W 10 (.slice (some ⟨g, 0, none⟩) 2 2) ([((b, p, q) : Hv), (b', p', q')].map hvL) :=
  Sl.ofBlk h rfl (by decide) (by simp) (by simp)
theorem hv_sl3 {W : World} {g t : Nat} {b b' b2 : Sol} {p q p' q' p2 q2 : Value} (h : Blk W g #[.int .u64 (pl b 0), .int .u64 (pl b 1), .int .u64 (pl b 2), .int .u64 (pl b 3), .int .u64 (pl b 4), .int .u64 (pl b 5), .int .u64 (pl b 6), .int .u64 (pl b 7), p, q, .int .u64 (pl b' 0), .int .u64 (pl b' 1), .int .u64 (pl b' 2), .int .u64 (pl b' 3), .int .u64 (pl b' 4), .int .u64 (pl b' 5), .int .u64 (pl b' 6), .int .u64 (pl b' 7), p', q', .int .u64 (pl b2 0), .int .u64 (pl b2 1), .int .u64 (pl b2 2), .int .u64 (pl b2 3), .int .u64 (pl b2 4), .int .u64 (pl b2 5), .int .u64 (pl b2 6), .int .u64 (pl b2 7), p2, q2] t) : Sl W 10 (.slice (some ⟨g, 0, none⟩) 3 3) ([((b, p, q) : Hv), (b', p', q'), (b2, p2, q2)].map hvL) :=
  Sl.ofBlk h rfl (by decide) (by simp) (by simp)
theorem few1 {g t : Nat} {b : Sol} {p q : Option Addr} {n c k d : Nat} (w : World) (h : Blk w g #[.int .u64 (pl b 0), .int .u64 (pl b 1), .int .u64 (pl b 2), .int .u64 (pl b 3), .int .u64 (pl b 4), .int .u64 (pl b 5), .int .u64 (pl b 6), .int .u64 (pl b 7), .slice p n c, .slice q k d] t) : Calls Tryz.prog 19 #[.slice (some ⟨g, 0, none⟩) 1 1] w fun e w' => e = .returned (.bool (!many k n)) ∧ Below w.heap.size w w' := by
  have := few_spec _ _ w (hv_sl1 h) (by simp)
  simpa [manyH] using this
theorem few2 {g t : Nat} {b b' : Sol} {p q p' q' : Option Addr} {n c k d n' c' k' d' : Nat} (w : World) (h : Blk w g #[.int .u64 (pl b 0), .int .u64 (pl b 1), .int .u64 (pl b 2), .int .u64 (pl b 3), .int .u64 (pl b 4), .int .u64 (pl b 5), .int .u64 (pl b 6), .int .u64 (pl b 7), .slice p n c, .slice q k d, .int .u64 (pl b' 0), .int .u64 (pl b' 1), .int .u64 (pl b' 2), .int .u64 (pl b' 3), .int .u64 (pl b' 4), .int .u64 (pl b' 5), .int .u64 (pl b' 6), .int .u64 (pl b' 7), .slice p' n' c', .slice q' k' d'] t) : Calls Tryz.prog 19 #[.slice (some ⟨g, 0, none⟩) 2 2] w fun e w' => e = .returned (.bool (!(many k n || many k' n'))) ∧ Below w.heap.size w w' := by
  have := few_spec _ _ w (hv_sl2 h) (by simp)
  simpa [manyH] using this
theorem few3 {g t : Nat} {b b' b2 : Sol} {p q p' q' p2 q2 : Option Addr} {n c k d n' c' k' d' n2 c2 k2 d2 : Nat} (w : World) (h : Blk w g #[.int .u64 (pl b 0), .int .u64 (pl b 1), .int .u64 (pl b 2), .int .u64 (pl b 3), .int .u64 (pl b 4), .int .u64 (pl b 5), .int .u64 (pl b 6), .int .u64 (pl b 7), .slice p n c, .slice q k d, .int .u64 (pl b' 0), .int .u64 (pl b' 1), .int .u64 (pl b' 2), .int .u64 (pl b' 3), .int .u64 (pl b' 4), .int .u64 (pl b' 5), .int .u64 (pl b' 6), .int .u64 (pl b' 7), .slice p' n' c', .slice q' k' d', .int .u64 (pl b2 0), .int .u64 (pl b2 1), .int .u64 (pl b2 2), .int .u64 (pl b2 3), .int .u64 (pl b2 4), .int .u64 (pl b2 5), .int .u64 (pl b2 6), .int .u64 (pl b2 7), .slice p2 n2 c2, .slice q2 k2 d2] t) : Calls Tryz.prog 19 #[.slice (some ⟨g, 0, none⟩) 3 3] w fun e w' => e = .returned (.bool (!(many k n || (many k' n' || many k2 n2)))) ∧ Below w.heap.size w w' := by
  have := few_spec _ _ w (hv_sl3 h) (by simp)
  simpa [manyH] using this
end Go.Proofs.YtccnkebkgegohaaGreatDoor
end
section
namespace Go.Proofs.YtccnkebkgegohaaGreatDoor
open Go.RowKit Go.Rel
set_option maxRecDepth 100000
abbrev AliveH (w : World) : Prop := Hid (∀ w', Below w.heap.size w w' → Calls Tryz.prog 20 #[] w' fun e w'' => e = .returned (.bool true) ∧ Below w'.heap.size w' w'')
theorem alive_h (w : World) (hT : w.cell? ⟨5, 15, none⟩ = some (.int .u8 4)) : AliveH w :=
  Lib.hid fun w' hb => alive_spec w' ((hb.cell (p := ⟨5, 15, none⟩) (block_lt_of_cell hT)).trans hT)
end Go.Proofs.YtccnkebkgegohaaGreatDoor
end
section
namespace Go.Proofs.YtccnkebkgegohaaGreatDoor
open Go.RowKit Go.Rel
set_option maxRecDepth 100000
/-! TraceReduced: an act pair is put into a history -/
@[go_sem] theorem kinds0 (W : World) : (Instr.index 43 (.agg #[.int .u8 2, .int .u8 3, .int .u8 3, .int .u8 2]) (.int .i64 0)).run Tryz.prog W = .ok (.agg #[.int .u8 2, .int .u8 3]) W := by kernel_rfl
@[go_sem] theorem kinds1 (W : World) : (Instr.index 43 (.agg #[.int .u8 2, .int .u8 3, .int .u8 3, .int .u8 2]) (.int .i64 1)).run Tryz.prog W = .ok (.agg #[.int .u8 3, .int .u8 2]) W := by kernel_rfl
theorem SlN.shapeN {w : World} {v : Value} {xs : List Ac} (h : SlN w v xs) : ∃ a n c, v = .slice a n c := by
  obtain ⟨a, c, h1, _⟩ := h.1
  exact ⟨a, _, c, h1⟩
abbrev pairC (k1 k2 : Int) (n : Int) : Array Value := #[.int .u8 k1, .int .i64 n, .int .u64 0, .int .u64 0, .int .u64 0, .int .u64 0, .int .u64 0, .int .u64 0, .int .u64 0, .int .u64 0, .int .u8 k2, .int .i64 n, .int .u64 0, .int .u64 0, .int .u64 0, .int .u64 0, .int .u64 0, .int .u64 0, .int .u64 0, .int .u64 0]
@[irreducible] def VSN (xs : List Ac) (v : Value) (W : World) : Prop := SlN W v xs
@[irreducible] def VPair (k1 k2 n : Int) (v : Value) (W : World) : Prop := ∃ g, v = .slice (some ⟨g, 0, none⟩) 2 2 ∧ Blk W g (pairC k1 k2 n) 46
@[irreducible] def VTri (a b c : List Ac) (v : Value) (W : World) : Prop := ∃ g x y z, v = .slice (some ⟨g, 0, none⟩) 3 3 ∧ Blk W g #[x, y, z] 28 ∧ SlN W x a ∧ SlN W y b ∧ SlN W z c
theorem VSN.stabY {xs : List Ac} (v : Value) (W W' : World) (h : VSN xs v W) (g : Grows W W') : VSN xs v W' := by unfold VSN at *; exact h.mono g
theorem VPair.stabY {k1 k2 n : Int} (v : Value) (W W' : World) (h : VPair k1 k2 n v W) (g : Grows W W') : VPair k1 k2 n v W' := by
  unfold VPair at *; obtain ⟨b, h1, h2⟩ := h; exact ⟨b, h1, h2.grow g⟩
theorem VTri.stabY {a b c : List Ac} (v : Value) (W W' : World) (h : VTri a b c v W) (g : Grows W W') : VTri a b c v W' := by
  unfold VTri at *; obtain ⟨p, x, y, z, h1, h2, h3, h4, h5⟩ := h; exact ⟨p, x, y, z, h1, h2.grow g, h3.mono g, h4.mono g, h5.mono g⟩
def pairL (k1 k2 : Nat) (n : Int) : List Ac := [(k1, n, 0), (k2, n, 0)]
@[irreducible] def insL (k1 k2 : Nat) (n : Int) (K : Nat) (m : List Ac) : List Ac := m.take K ++ (pairL k1 k2 n ++ m.drop K)
@[irreducible] def VSA (xs : List Ac) (v : Value) (W : World) : Prop := SlA W v xs
theorem VSA.stabY {xs : List Ac} (v : Value) (W W' : World) (h : VSA xs v W) (g : Grows W W') : VSA xs v W' := by unfold VSA at *; exact h.mono g
theorem pair_sl {k1 k2 : Nat} {n : Int} {W : World} {g : Nat} (h : Blk W g (pairC k1 k2 n) 46) : SlN W (.slice (some ⟨g, 0, none⟩) 2 2) (pairL k1 k2 n) :=
  ⟨Sl.ofBlk h rfl (by decide) (by simp [pairL]) (by simp [pairL, show ∀ k, pl (0#512) k = 0 from pl_zero]), fun n c e => by cases e⟩
theorem sln_take {w : World} {i n c : Nat} {a : Option Addr} {xs : List Ac} (h : SlA w (.slice a n c) xs) (hi : i ≤ n) : SlN w (.slice a i i) (xs.take i) := by
  have h1 := sl_take h hi
  rw [← List.map_take] at h1
  have e : sliced a 0 i i 10 = .slice a i i ∧ (a = none → i = 0) := by
    obtain ⟨a', c', he, h2, h3, h4⟩ := h
    cases he
    unfold sliced
    by_cases h0 : i = 0
    · simp [h0]
    · rcases h4 with h4 | ⟨b, off, rfl, _⟩
      · rw [h4] at hi; simp at hi; omega
      · simp [h0, Go.WideShapes.add_plain]
  rw [e.1] at h1
  exact ⟨h1, fun m d he => by cases he; exact e.2 rfl⟩
theorem sln_drop {w : World} {i n c : Nat} {a : Option Addr} {xs : List Ac} (h : SlN w (.slice a n c) xs) (hi : i ≤ n) : SlN w (sliced a i n c 10) (xs.drop i) := by
  have h1 := sl_drop h.1 hi
  rw [← List.map_drop] at h1
  refine ⟨h1, fun m d e => ?_⟩
  unfold sliced at e
  simp only [Value.slice.injEq] at e
  have hc : a = none → c = 0 := fun ha => by subst ha; exact h.2 _ _ rfl
  have ha : a = none := by
    have := e.1
    split at this
    · exact this
    · simpa using this
  have := hc ha
  omega
theorem concat_ins {k1 k2 : Nat} {n : Int} {K : Nat} {m : List Ac} {v : Value} (w : World) (h : VTri (m.take K) (pairL k1 k2 n) (m.drop K) v w) (hm : m.length ≤ 60) :
    Calls Tryz.prog 24 #[v] w fun e w' => ∃ u, e = .returned u ∧ Grows w w' ∧ VSA (insL k1 k2 n K m) u w' := by
  unfold VTri at h
  obtain ⟨g, x, y, z, rfl, hb, h1, h2, h3⟩ := h
  have hl : (catM [(x, m.take K), (y, pairL k1 k2 n), (z, m.drop K)]) = insL k1 k2 n K m := by
    unfold insL; simp [catM]
  have hlen : (insL k1 k2 n K m).length ≤ 1048576 := by unfold insL pairL; simp; omega
  have := Concat_spec _ [(x, m.take K), (y, pairL k1 k2 n), (z, m.drop K)] w (three_sl hb _ _ _) (fun p hp => by
    simp only [List.mem_cons, List.not_mem_nil, or_false] at hp
    rcases hp with rfl | rfl | rfl
    · exact h1
    · exact h2
    · exact h3) (by rw [hl]; exact hlen)
  rw [hl] at this
  exact this.mono fun e w' ⟨u, he, hO, hg⟩ => ⟨u, he, hg, by unfold VSA; exact hO.sl⟩
theorem ins_red (l : List Sol) (n : Int) (K : Nat) (m : List Ac) (k1 k2 : Nat) (hk : (k1 = 2 ∧ k2 = 3) ∨ (k1 = 3 ∧ k2 = 2)) : nrm l (redL l (insL k1 k2 n K m)) = nrm l (redL l m) := by
  unfold insL pairL
  have h : ivA (k1, n, 0) = some (k2, n, 0) := by
    rcases hk with ⟨rfl, rfl⟩ | ⟨rfl, rfl⟩ <;> rfl
  have := redL_turn (l := l) (m.take K) (m.drop K) h
  rw [List.take_append_drop] at this
  exact this
theorem sla_shape {W : World} {v : Value} {xs : List Ac} (h : SlA W v xs) : ∃ a n c, v = .slice a n c := by
  obtain ⟨a, c, h1, _⟩ := h
  exact ⟨a, _, c, h1⟩
end Go.Proofs.YtccnkebkgegohaaGreatDoor
end
section
namespace Go.Proofs.YtccnkebkgegohaaGreatDoor
open Go.RowKit Go.Rel
set_option maxRecDepth 100000
/-! Common, Begins, Conflict, Equal, Merge, one form for all ways -/
section
variable {b b2 : Sol} {l l2 : List Sol} {g h : List Ac} {t u : StB} {v av v2 av2 : Value}
def Bad (b : Sol) (l : List Sol) (g : List Ac) : Prop := ∃ x, begunM b l g = .inl x
theorem together_bad (hb : Bad b l g ∨ Bad b2 l2 h) : ∃ y : Int, (y != 0) = true ∧ ∀ w, SlS w v l → SlA w av g → SlS w v2 l2 → SlA w av2 h →
    Calls Tryz.prog 96 #[.agg #[.int .u64 (pl b 0), .int .u64 (pl b 1), .int .u64 (pl b 2), .int .u64 (pl b 3), .int .u64 (pl b 4), .int .u64 (pl b 5), .int .u64 (pl b 6), .int .u64 (pl b 7), v, av], .agg #[.int .u64 (pl b2 0), .int .u64 (pl b2 1), .int .u64 (pl b2 2), .int .u64 (pl b2 3), .int .u64 (pl b2 4), .int .u64 (pl b2 5), .int .u64 (pl b2 6), .int .u64 (pl b2 7), v2, av2]] w fun e w' => e = .returned (.tuple #[.pointer none, .pointer none, .int .i64 y]) ∧ Below w.heap.size w w' := by
  cases hg : begunM b l g with
  | inl x => exact ⟨x.2, begunM_bad hg, fun w h1 h2 h3 h4 => together_bad1 hg b2 v2 av2 w h1 h2⟩
  | inr s =>
    rcases hb with ⟨x, hx⟩ | ⟨x, hx⟩
    · rw [hx] at hg; cases hg
    · exact ⟨x.2, begunM_bad hx, fun w h1 h2 h3 h4 => together_bad2 hg hx w h1 h2 h3 h4⟩
theorem both_bad (hb : Bad b l g ∨ Bad b2 l2 h) : ∃ y : Int, (y != 0) = true ∧ ∀ w, SlS w v l → SlA w av g → SlS w v2 l2 → SlA w av2 h →
    Calls Tryz.prog 107 #[.agg #[.int .u64 (pl b 0), .int .u64 (pl b 1), .int .u64 (pl b 2), .int .u64 (pl b 3), .int .u64 (pl b 4), .int .u64 (pl b 5), .int .u64 (pl b 6), .int .u64 (pl b 7), v, av], .agg #[.int .u64 (pl b2 0), .int .u64 (pl b2 1), .int .u64 (pl b2 2), .int .u64 (pl b2 3), .int .u64 (pl b2 4), .int .u64 (pl b2 5), .int .u64 (pl b2 6), .int .u64 (pl b2 7), v2, av2]] w fun e w' => e = .returned (.tuple #[.pointer none, .pointer none, .bool false, .int .i64 y]) ∧ Below w.heap.size w w' := by
  cases hg : begunM b l g with
  | inl x => exact ⟨x.2, begunM_bad hg, fun w h1 h2 h3 h4 => both_bad1 hg b2 v2 av2 w h1 h2⟩
  | inr s =>
    rcases hb with ⟨x, hx⟩ | ⟨x, hx⟩
    · rw [hx] at hg; cases hg
    · exact ⟨x.2, begunM_bad hx, fun w h1 h2 h3 h4 => both_bad2 hg hx w h1 h2 h3 h4⟩
end
set_option maxHeartbeats 4000000 in
theorem Common_err (b b2 : Sol) (v av v2 av2 : Value) (y : Int) (hne : (y != 0) = true) (w : World)
    (H : Hid (∀ w', Below w.heap.size w w' → Calls Tryz.prog 96 #[.agg #[.int .u64 (pl b 0), .int .u64 (pl b 1), .int .u64 (pl b 2), .int .u64 (pl b 3), .int .u64 (pl b 4), .int .u64 (pl b 5), .int .u64 (pl b 6), .int .u64 (pl b 7), v, av], .agg #[.int .u64 (pl b2 0), .int .u64 (pl b2 1), .int .u64 (pl b2 2), .int .u64 (pl b2 3), .int .u64 (pl b2 4), .int .u64 (pl b2 5), .int .u64 (pl b2 6), .int .u64 (pl b2 7), v2, av2]] w' fun e w'' => e = .returned (.tuple #[.pointer none, .pointer none, .int .i64 y]) ∧ Below w'.heap.size w' w'')) :
    Calls Tryz.prog 29 #[.agg #[.int .u64 (pl b 0), .int .u64 (pl b 1), .int .u64 (pl b 2), .int .u64 (pl b 3), .int .u64 (pl b 4), .int .u64 (pl b 5), .int .u64 (pl b 6), .int .u64 (pl b 7), v, av], .agg #[.int .u64 (pl b2 0), .int .u64 (pl b2 1), .int .u64 (pl b2 2), .int .u64 (pl b2 3), .int .u64 (pl b2 4), .int .u64 (pl b2 5), .int .u64 (pl b2 6), .int .u64 (pl b2 7), v2, av2]] w fun e w' => e = .returned (.tuple #[.agg #[.int .u64 0, .int .u64 0, .int .u64 0, .int .u64 0, .int .u64 0, .int .u64 0, .int .u64 0, .int .u64 0, .slice none 0 0, .slice none 0 0], .int .i64 y]) ∧ Below w.heap.size w w' := by
  go_enter Tryz.func29, Tryz.ntmps29
  go_wp2_with fail
  refine (H.out _ bel_by).mono ?_
  rintro e w1 ⟨rfl, hb⟩
  have b1 : Blk w1 (w.heap.size + 1 + 1) #[.int .u64 0, .int .u64 0, .int .u64 0, .int .u64 0, .int .u64 0, .int .u64 0, .int .u64 0, .int .u64 0, .slice none 0 0, .slice none 0 0] 30 := Blk.grow blk_by hb
  have r1 := b1.row
  have hB1 : Below w.heap.size w w1 := bel_trans bel_by hb
  rw [← b1.rw]
  clear b1 hb
  go_wp2_with fail
  refine bodyPost_ret (by simp [results, Tryz.results29, go_sem, *]) rfl ⟨rfl, blw_row hB1 (by omega) _⟩
set_option maxHeartbeats 4000000 in
theorem Begins_err (b b2 : Sol) (v av v2 av2 : Value) (y : Int) (hne : (y != 0) = true) (w : World)
    (H : Hid (∀ w', Below w.heap.size w w' → Calls Tryz.prog 107 #[.agg #[.int .u64 (pl b 0), .int .u64 (pl b 1), .int .u64 (pl b 2), .int .u64 (pl b 3), .int .u64 (pl b 4), .int .u64 (pl b 5), .int .u64 (pl b 6), .int .u64 (pl b 7), v, av], .agg #[.int .u64 (pl b2 0), .int .u64 (pl b2 1), .int .u64 (pl b2 2), .int .u64 (pl b2 3), .int .u64 (pl b2 4), .int .u64 (pl b2 5), .int .u64 (pl b2 6), .int .u64 (pl b2 7), v2, av2]] w' fun e w'' => e = .returned (.tuple #[.pointer none, .pointer none, .bool false, .int .i64 y]) ∧ Below w'.heap.size w' w'')) :
    Calls Tryz.prog 61 #[.agg #[.int .u64 (pl b 0), .int .u64 (pl b 1), .int .u64 (pl b 2), .int .u64 (pl b 3), .int .u64 (pl b 4), .int .u64 (pl b 5), .int .u64 (pl b 6), .int .u64 (pl b 7), v, av], .agg #[.int .u64 (pl b2 0), .int .u64 (pl b2 1), .int .u64 (pl b2 2), .int .u64 (pl b2 3), .int .u64 (pl b2 4), .int .u64 (pl b2 5), .int .u64 (pl b2 6), .int .u64 (pl b2 7), v2, av2]] w fun e w' => e = .returned (.tuple #[.bool false, .int .i64 y]) ∧ Below w.heap.size w w' := by
  go_enter Tryz.func61, Tryz.ntmps61
  go_wp2_with fail
  refine (H.out _ bel_by).mono ?_
  rintro e w1 ⟨rfl, hb⟩
  have hB1 : Below w.heap.size w w1 := bel_trans bel_by hb
  clear hb
  go_wp2_with fail
  refine bodyPost_ret (by simp [results, Tryz.results61, go_sem, *]) rfl ⟨rfl, hB1⟩
set_option maxHeartbeats 4000000 in
theorem Equal_err (b b2 : Sol) (v av v2 av2 : Value) (y : Int) (hne : (y != 0) = true) (w : World)
    (H : Hid (∀ w', Below w.heap.size w w' → Calls Tryz.prog 107 #[.agg #[.int .u64 (pl b 0), .int .u64 (pl b 1), .int .u64 (pl b 2), .int .u64 (pl b 3), .int .u64 (pl b 4), .int .u64 (pl b 5), .int .u64 (pl b 6), .int .u64 (pl b 7), v, av], .agg #[.int .u64 (pl b2 0), .int .u64 (pl b2 1), .int .u64 (pl b2 2), .int .u64 (pl b2 3), .int .u64 (pl b2 4), .int .u64 (pl b2 5), .int .u64 (pl b2 6), .int .u64 (pl b2 7), v2, av2]] w' fun e w'' => e = .returned (.tuple #[.pointer none, .pointer none, .bool false, .int .i64 y]) ∧ Below w'.heap.size w' w'')) :
    Calls Tryz.prog 42 #[.agg #[.int .u64 (pl b 0), .int .u64 (pl b 1), .int .u64 (pl b 2), .int .u64 (pl b 3), .int .u64 (pl b 4), .int .u64 (pl b 5), .int .u64 (pl b 6), .int .u64 (pl b 7), v, av], .agg #[.int .u64 (pl b2 0), .int .u64 (pl b2 1), .int .u64 (pl b2 2), .int .u64 (pl b2 3), .int .u64 (pl b2 4), .int .u64 (pl b2 5), .int .u64 (pl b2 6), .int .u64 (pl b2 7), v2, av2]] w fun e w' => e = .returned (.tuple #[.bool false, .int .i64 y]) ∧ Below w.heap.size w w' := by
  go_enter Tryz.func42, Tryz.ntmps42
  go_wp2_with fail
  refine (H.out _ bel_by).mono ?_
  rintro e w1 ⟨rfl, hb⟩
  have hB1 : Below w.heap.size w w1 := bel_trans bel_by hb
  clear hb
  go_wp2_with fail
  refine bodyPost_ret (by simp [results, Tryz.results42, go_sem, *]) rfl ⟨rfl, hB1⟩
set_option maxHeartbeats 4000000 in
theorem Conflict_err (b b2 : Sol) (v av v2 av2 : Value) (y : Int) (hne : (y != 0) = true) (w : World)
    (H : Hid (∀ w', Below w.heap.size w w' → Calls Tryz.prog 96 #[.agg #[.int .u64 (pl b 0), .int .u64 (pl b 1), .int .u64 (pl b 2), .int .u64 (pl b 3), .int .u64 (pl b 4), .int .u64 (pl b 5), .int .u64 (pl b 6), .int .u64 (pl b 7), v, av], .agg #[.int .u64 (pl b2 0), .int .u64 (pl b2 1), .int .u64 (pl b2 2), .int .u64 (pl b2 3), .int .u64 (pl b2 4), .int .u64 (pl b2 5), .int .u64 (pl b2 6), .int .u64 (pl b2 7), v2, av2]] w' fun e w'' => e = .returned (.tuple #[.pointer none, .pointer none, .int .i64 y]) ∧ Below w'.heap.size w' w'')) :
    Calls Tryz.prog 60 #[.agg #[.int .u64 (pl b 0), .int .u64 (pl b 1), .int .u64 (pl b 2), .int .u64 (pl b 3), .int .u64 (pl b 4), .int .u64 (pl b 5), .int .u64 (pl b 6), .int .u64 (pl b 7), v, av], .agg #[.int .u64 (pl b2 0), .int .u64 (pl b2 1), .int .u64 (pl b2 2), .int .u64 (pl b2 3), .int .u64 (pl b2 4), .int .u64 (pl b2 5), .int .u64 (pl b2 6), .int .u64 (pl b2 7), v2, av2]] w fun e w' => e = .returned (.tuple #[.agg zeroA, .agg zeroA, .bool false, .int .i64 y]) ∧ Below w.heap.size w w' := by
  go_enter Tryz.func60, Tryz.ntmps60
  go_wp2_with fail
  refine (H.out _ bel_by).mono ?_
  rintro e w1 ⟨rfl, hb⟩
  have b1 : Blk w1 (w.heap.size + 1 + 1) zeroA 46 := Blk.grow blk_by hb
  have b2 : Blk w1 (w.heap.size + 1 + 1 + 1) zeroA 46 := Blk.grow blk_by hb
  have r1 := b1.row
  have r2 := b2.row
  have hB1 : Below w.heap.size w w1 := bel_trans bel_by hb
  rw [← b1.rw, ← b2.rw]
  clear b1 b2 hb
  go_wp2_with fail
  refine bodyPost_ret (by simp [results, Tryz.results60, go_sem, *]) rfl ⟨rfl, blw_row (blw_row hB1 (by omega) _) (by omega) _⟩
end Go.Proofs.YtccnkebkgegohaaGreatDoor
end
