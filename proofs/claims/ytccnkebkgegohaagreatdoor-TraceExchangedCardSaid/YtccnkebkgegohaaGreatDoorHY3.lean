import Derived.Test.YtccnkebkgegohaaGreatDoorT
import Derived.Test.YtccnkebkgegohaaGreatDoorHA0
/-
  Given contracts of functions of the program, and laws for them, one behind the other.
-/
set_option linter.unusedVariables false
set_option linter.unusedSimpArgs false
set_option linter.unusedSectionVars false
section
namespace Go.Proofs.YtccnkebkgegohaaGreatDoor
open Go.RowKit Go.Rel
set_option maxRecDepth 100000
/-! the exported functions' results, one form for all ways -/
@[go_sem high] theorem eqStn (d : Nat) (s s' : Sol) (o o' : Int) (w : World) : (Op.equalIn (d+3) 37 (.agg #[.int .u64 (pl s 0), .int .u64 (pl s 1), .int .u64 (pl s 2), .int .u64 (pl s 3), .int .u64 (pl s 4), .int .u64 (pl s 5), .int .u64 (pl s 6), .int .u64 (pl s 7), .int .u8 o]) (.agg #[.int .u64 (pl s' 0), .int .u64 (pl s' 1), .int .u64 (pl s' 2), .int .u64 (pl s' 3), .int .u64 (pl s' 4), .int .u64 (pl s' 5), .int .u64 (pl s' 6), .int .u64 (pl s' 7), .int .u8 o'])).run Tryz.prog w = .ok ((s == s') && (o == o')) w := by
  rw [run_equalIn_struct w (d+2) 37 _ _ (by kernel_rfl) (by kernel_rfl)]
  go_simp
  split
  · next h1 =>
    split
    · next h2 => simp [h1, h2]
    · next h2 => simp [h1, h2]
  · next h1 => simp [h1]
/-- a returned history, and an error -/
def HRes (b : Sol) (l : List Sol) (M : List Ac) (E : Int) (w : World) (e : Ending) (w' : World) : Prop :=
  ∃ p n c q k d, e = .returned (.tuple #[.agg #[.int .u64 (pl b 0), .int .u64 (pl b 1), .int .u64 (pl b 2), .int .u64 (pl b 3), .int .u64 (pl b 4), .int .u64 (pl b 5), .int .u64 (pl b 6), .int .u64 (pl b 7), .slice p n c, .slice q k d], .int .i64 E]) ∧ SlS w' (.slice p n c) l ∧ SlA w' (.slice q k d) M ∧ Below w.heap.size w w'
theorem hres_own {b : Sol} {l : List Sol} {M : List Ac} {E : Int} {w w' : World} {base : Nat} {pv bv : Value} (hS : OwnS w' base pv l) (hA : OwnA w' base bv M) (hb : Below w.heap.size w w') : HRes b l M E w (.returned (.tuple #[.agg #[.int .u64 (pl b 0), .int .u64 (pl b 1), .int .u64 (pl b 2), .int .u64 (pl b 3), .int .u64 (pl b 4), .int .u64 (pl b 5), .int .u64 (pl b 6), .int .u64 (pl b 7), pv, bv], .int .i64 E])) w' := by
  obtain ⟨p, c, rfl, _, _⟩ := own_shape' hS
  obtain ⟨q, d, rfl, _, _⟩ := own_shape' hA
  exact ⟨p, _, c, q, _, d, rfl, hS.sl, hA.sl, hb⟩
theorem sl_nil {k : Nat} (w : World) : Sl w k (.slice none 0 0) [] := ⟨none, 0, rfl, Nat.le_refl _, by decide, .inl rfl⟩
theorem zero_hist : (.agg #[.int .u64 0, .int .u64 0, .int .u64 0, .int .u64 0, .int .u64 0, .int .u64 0, .int .u64 0, .int .u64 0, .slice none 0 0, .slice none 0 0] : Value) = .agg #[.int .u64 (pl 0 0), .int .u64 (pl 0 1), .int .u64 (pl 0 2), .int .u64 (pl 0 3), .int .u64 (pl 0 4), .int .u64 (pl 0 5), .int .u64 (pl 0 6), .int .u64 (pl 0 7), .slice none 0 0, .slice none 0 0] := by simp only [pl_zero]
theorem hres_zero {x : Int} {w w' : World} (hb : Below w.heap.size w w') : HRes 0 [] [] x w (.returned (.tuple #[.agg #[.int .u64 0, .int .u64 0, .int .u64 0, .int .u64 0, .int .u64 0, .int .u64 0, .int .u64 0, .int .u64 0, .slice none 0 0, .slice none 0 0], .int .i64 x])) w' := by
  rw [zero_hist]
  exact ⟨none, 0, 0, none, 0, 0, rfl, sl_nil w', sl_nil w', hb⟩
section
variable {b : Sol} {l : List Sol} {m : List Ac} {t : StB} {v av : Value}
theorem Reduced_r (R : Runs b l m t) (w : World) (Hv : SlS w v l) (Hav : SlA w av m) : Calls Tryz.prog 21 #[.agg #[.int .u64 (pl b 0), .int .u64 (pl b 1), .int .u64 (pl b 2), .int .u64 (pl b 3), .int .u64 (pl b 4), .int .u64 (pl b 5), .int .u64 (pl b 6), .int .u64 (pl b 7), v, av]] w (HRes b l (nrm l (redL l m)) 0 w) := by
  refine (Reduced_good R.good w Hv Hav).mono fun e w' ⟨pv, bv, he, h1, h2, h3⟩ => ?_
  subst he
  have e : actsAt m (leastI (depI (cellsOf l m)) (cmpN m) (reducedM l m).length (reducedM l m)) = nrm l (redL l m) := by
    have := reduced_eq R.fine
    unfold leastA at this
    exact this
  rw [e] at h2
  exact hres_own h1 h2 h3
theorem Normal_r (R : Runs b l m t) (w : World) (Hv : SlS w v l) (Hav : SlA w av m) : Calls Tryz.prog 55 #[.agg #[.int .u64 (pl b 0), .int .u64 (pl b 1), .int .u64 (pl b 2), .int .u64 (pl b 3), .int .u64 (pl b 4), .int .u64 (pl b 5), .int .u64 (pl b 6), .int .u64 (pl b 7), v, av]] w (HRes b l (nrm l m) 0 w) := by
  refine (Normal_good R.good w Hv Hav).mono fun e w' ⟨pv, bv, he, h1, h2, h3⟩ => ?_
  subst he
  rw [normalM_eq R.fine] at h2
  exact hres_own h1 h2 h3
theorem Stand_r (R : Runs b l m t) (w : World) (Hv : SlS w v l) (Hav : SlA w av m) : Calls Tryz.prog 22 #[.agg #[.int .u64 (pl b 0), .int .u64 (pl b 1), .int .u64 (pl b 2), .int .u64 (pl b 3), .int .u64 (pl b 4), .int .u64 (pl b 5), .int .u64 (pl b 6), .int .u64 (pl b 7), v, av]] w fun e w' => e = .returned (.tuple #[.agg #[.int .u64 (pl t.1 0), .int .u64 (pl t.1 1), .int .u64 (pl t.1 2), .int .u64 (pl t.1 3), .int .u64 (pl t.1 4), .int .u64 (pl t.1 5), .int .u64 (pl t.1 6), .int .u64 (pl t.1 7), .int .u8 (t.2.toNat : Int)], .int .i64 0]) ∧ Below w.heap.size w w' :=
  Stand_good R.good w Hv Hav
theorem Reduced_again (R : Runs b l m t) (w : World) (Hv : SlS w v l) (Hav : SlA w av (nrm l (redL l m))) : Calls Tryz.prog 21 #[.agg #[.int .u64 (pl b 0), .int .u64 (pl b 1), .int .u64 (pl b 2), .int .u64 (pl b 3), .int .u64 (pl b 4), .int .u64 (pl b 5), .int .u64 (pl b 6), .int .u64 (pl b 7), v, av]] w (HRes b l (nrm l (redL l m)) 0 w) := by
  have h := Reduced_r R.red.nrm w Hv Hav
  rw [redL_again] at h
  exact h
theorem Reduced_any (b : Sol) (l : List Sol) (m : List Ac) (w : World) (Hv : SlS w v l) (Hav : SlA w av m) : Calls Tryz.prog 21 #[.agg #[.int .u64 (pl b 0), .int .u64 (pl b 1), .int .u64 (pl b 2), .int .u64 (pl b 3), .int .u64 (pl b 4), .int .u64 (pl b 5), .int .u64 (pl b 6), .int .u64 (pl b 7), v, av]] w fun e w' => ∃ B L M E, HRes B L M E w e w' ∧ (E = 0 → B = b ∧ L = l ∧ M = nrm l (redL l m)) := by
  cases h : begunM b l m with
  | inl x =>
    refine (Reduced_bad h w Hv Hav).mono fun e w' ⟨he, hb⟩ => ?_
    subst he
    refine ⟨0, [], [], x.2, hres_zero hb, fun h0 => ?_⟩
    have := begunM_bad h
    rw [h0] at this; cases this
  | inr s =>
    obtain ⟨t, R, _⟩ := Runs.of h
    exact (Reduced_r R w Hv Hav).mono fun e w' h => ⟨b, l, _, 0, h, fun _ => ⟨rfl, rfl, rfl⟩⟩
theorem sl_take {w : World} {k i n c : Nat} {a : Option Addr} {xs : List (List Value)} (h : Sl w k (.slice a n c) xs) (hi : i ≤ n) : Sl w k (sliced a 0 i i k) (xs.take i) := by
  obtain ⟨a', c', he, h1, h2, h3⟩ := h
  cases he
  have hl : (xs.take i).length = i := by rw [List.length_take]; omega
  have e : sliced a 0 i i k = .slice a i i := by
    unfold sliced
    by_cases h0 : i = 0
    · simp [h0]
    · rcases h3 with rfl | ⟨b, off, rfl, _⟩
      · simp at hi; omega
      · simp [h0, Go.WideShapes.add_plain]
  rw [e]
  refine ⟨a, i, by rw [hl], by rw [hl]; exact Nat.le_refl _, by omega, ?_⟩
  rcases h3 with rfl | ⟨b, off, rfl, h4⟩
  · exact .inl (by simp)
  · refine .inr ⟨b, off, rfl, h4.1, fun p j u hu => h4.2 p j u ?_⟩
    obtain ⟨r, hr, hj⟩ := Option.bind_eq_some_iff.1 hu
    have hp : p < i := by have := (List.getElem?_eq_some_iff.1 hr).1; rw [hl] at this; exact this
    rw [List.getElem?_take_of_lt hp] at hr
    rw [hr]; exact hj
theorem sl_drop {w : World} {k i n c : Nat} {a : Option Addr} {xs : List (List Value)} (h : Sl w k (.slice a n c) xs) (hi : i ≤ n) : Sl w k (sliced a i n c k) (xs.drop i) := by
  obtain ⟨a', c', he, h1, h2, h3⟩ := h
  cases he
  have hl : (xs.drop i).length = xs.length - i := by rw [List.length_drop]
  unfold sliced
  refine ⟨_, _, by rw [hl], by rw [hl]; omega, by omega, ?_⟩
  rcases h3 with rfl | ⟨b, off, rfl, h4⟩
  · exact .inl (by simp)
  · by_cases hx : xs.drop i = []
    · exact .inl hx
    · have hlt : i < xs.length := by
        rcases Nat.lt_or_ge i xs.length with h | h
        · exact h
        · exact absurd (List.drop_eq_nil_of_le h) hx
      refine .inr ⟨b, off + i * k, ?_, h4.1, fun p j u hu => ?_⟩
      · simp only [Option.map_some]
        rw [if_neg (by omega), Go.WideShapes.add_plain]
      · obtain ⟨r, hr, hj⟩ := Option.bind_eq_some_iff.1 hu
        rw [List.getElem?_drop] at hr
        have := h4.2 (i + p) j u (by rw [hr]; exact hj)
        rw [show off + i * k + p * k + j = off + (i + p) * k + j by rw [Nat.add_mul]; omega]
        exact this
theorem Same_eq {b : Sol} {v av v2 av2 : Value} {l : List Sol} {m : List Ac} (w : World) (hv : SlS w v l) (ha : SlA w av m) (hv2 : SlS w v2 l) (ha2 : SlA w av2 m) :
    Calls Tryz.prog 23 #[.agg #[.int .u64 (pl b 0), .int .u64 (pl b 1), .int .u64 (pl b 2), .int .u64 (pl b 3), .int .u64 (pl b 4), .int .u64 (pl b 5), .int .u64 (pl b 6), .int .u64 (pl b 7), v, av], .agg #[.int .u64 (pl b 0), .int .u64 (pl b 1), .int .u64 (pl b 2), .int .u64 (pl b 3), .int .u64 (pl b 4), .int .u64 (pl b 5), .int .u64 (pl b 6), .int .u64 (pl b 7), v2, av2]] w fun e w' => e = .returned (.bool true) ∧ Below w.heap.size w w' := by
  have := Same_spec b b v av v2 av2 l l m m w hv ha hv2 ha2
  simpa [samePat] using this
/-- few, of one, two, three histories -/
def fewB (h : List (List Sol × List Ac)) : Bool := !h.any fun x => many x.2.length x.1.length
end
theorem hv_sl1 {W : World} {g t : Nat} {b : Sol} {p q : Value} (h : Blk W g #[.int .u64 (pl b 0), .int .u64 (pl b 1), .int .u64 (pl b 2), .int .u64 (pl b 3), .int .u64 (pl b 4), .int .u64 (pl b 5), .int .u64 (pl b 6), .int .u64 (pl b 7), p, q] t) : Sl W 10 (.slice (some ⟨g, 0, none⟩) 1 1) ([((b, p, q) : Hv)].map hvL) :=
  Sl.ofBlk h rfl (by decide) (by simp) (by simp)
theorem hv_sl2 {W : World} {g t : Nat} {b b' : Sol} {p q p' q' : Value} (h : Blk W g #[.int .u64 (pl b 0), .int .u64 (pl b 1), .int .u64 (pl b 2), .int .u64 (pl b 3), .int .u64 (pl b 4), .int .u64 (pl b 5), .int .u64 (pl b 6), .int .u64 (pl b 7), p, q, .int .u64 (pl b' 0), .int .u64 (pl b' 1), .int .u64 (pl b' 2), .int .u64 (pl b' 3), .int .u64 (pl b' 4), .int .u64 (pl b' 5), .int .u64 (pl b' 6), .int .u64 (pl b' 7), p', q'] t) : Sl W 10 (.slice (some ⟨g, 0, none⟩) 2 2) ([((b, p, q) : Hv), (b', p', q')].map hvL) :=
  Sl.ofBlk h rfl (by decide) (by simp) (by simp)
theorem hv_sl3 {W : World} {g t : Nat} {b b' b2 : Sol} {p q p' q' p2 q2 : Value} (h : Blk W g #[.int .u64 (pl b 0), .int .u64 (pl b 1), .int .u64 (pl b 2), .int .u64 (pl b 3), .int .u64 (pl b 4), .int .u64 (pl b 5), .int .u64 (pl b 6), .int .u64 (pl b 7), p, q, .int .u64 (pl b' 0), .int .u64 (pl b' 1), .int .u64 (pl b' 2), .int .u64 (pl b' 3), .int .u64 (pl b' 4), .int .u64 (pl b' 5), .int .u64 (pl b' 6), .int .u64 (pl b' 7), p', q', .int .u64 (pl b2 0), .int .u64 (pl b2 1), .int .u64 (pl b2 2), .int .u64 (pl b2 3), .int .u64 (pl b2 4), .int .u64 (pl b2 5), .int .u64 (pl b2 6), .int .u64 (pl b2 7), p2, q2] t) : Sl W 10 (.slice (some ⟨g, 0, none⟩) 3 3) ([((b, p, q) : Hv), (b', p', q'), (b2, p2, q2)].map hvL) :=
  Sl.ofBlk h rfl (by decide) (by simp) (by simp)
theorem few1 {g t : Nat} {b : Sol} {p q : Option Addr} {n c k d : Nat} (w : World) (h : Blk w g #[.int .u64 (pl b 0), .int .u64 (pl b 1), .int .u64 (pl b 2), .int .u64 (pl b 3), .int .u64 (pl b 4), .int .u64 (pl b 5), .int .u64 (pl b 6), .int .u64 (pl b 7), .slice p n c, .slice q k d] t) : Calls Tryz.prog 19 #[.slice (some ⟨g, 0, none⟩) 1 1] w fun e w' => e = .returned (.bool (!many k n)) ∧ Below w.heap.size w w' := by
  have := few_spec _ _ w (hv_sl1 h) (by simp)
  simpa [manyH] using this
theorem few2 {g t : Nat} {b b' : Sol} {p q p' q' : Option Addr} {n c k d n' c' k' d' : Nat} (w : World) (h : Blk w g #[.int .u64 (pl b 0), .int .u64 (pl b 1), .int .u64 (pl b 2), .int .u64 (pl b 3), .int .u64 (pl b 4), .int .u64 (pl b 5), .int .u64 (pl b 6), .int .u64 (pl b 7), .slice p n c, .slice q k d, .int .u64 (pl b' 0), .int .u64 (pl b' 1), .int .u64 (pl b' 2), .int .u64 (pl b' 3), .int .u64 (pl b' 4), .int .u64 (pl b' 5), .int .u64 (pl b' 6), .int .u64 (pl b' 7), .slice p' n' c', .slice q' k' d'] t) : Calls Tryz.prog 19 #[.slice (some ⟨g, 0, none⟩) 2 2] w fun e w' => e = .returned (.bool (!(many k n || many k' n'))) ∧ Below w.heap.size w w' := by
  have := few_spec _ _ w (hv_sl2 h) (by simp)
  simpa [manyH] using this
theorem few3 {g t : Nat} {b b' b2 : Sol} {p q p' q' p2 q2 : Option Addr} {n c k d n' c' k' d' n2 c2 k2 d2 : Nat} (w : World) (h : Blk w g #[.int .u64 (pl b 0), .int .u64 (pl b 1), .int .u64 (pl b 2), .int .u64 (pl b 3), .int .u64 (pl b 4), .int .u64 (pl b 5), .int .u64 (pl b 6), .int .u64 (pl b 7), .slice p n c, .slice q k d, .int .u64 (pl b' 0), .int .u64 (pl b' 1), .int .u64 (pl b' 2), .int .u64 (pl b' 3), .int .u64 (pl b' 4), .int .u64 (pl b' 5), .int .u64 (pl b' 6), .int .u64 (pl b' 7), .slice p' n' c', .slice q' k' d', .int .u64 (pl b2 0), .int .u64 (pl b2 1), .int .u64 (pl b2 2), .int .u64 (pl b2 3), .int .u64 (pl b2 4), .int .u64 (pl b2 5), .int .u64 (pl b2 6), .int .u64 (pl b2 7), .slice p2 n2 c2, .slice q2 k2 d2] t) : Calls Tryz.prog 19 #[.slice (some ⟨g, 0, none⟩) 3 3] w fun e w' => e = .returned (.bool (!(many k n || (many k' n' || many k2 n2)))) ∧ Below w.heap.size w w' := by
  have := few_spec _ _ w (hv_sl3 h) (by simp)
  simpa [manyH] using this
end Go.Proofs.YtccnkebkgegohaaGreatDoor
end
section
namespace Go.Proofs.YtccnkebkgegohaaGreatDoor
open Go.RowKit Go.Rel
set_option maxRecDepth 100000
abbrev AliveH (w : World) : Prop := Hid (∀ w', Below w.heap.size w w' → Calls Tryz.prog 20 #[] w' fun e w'' => e = .returned (.bool true) ∧ Below w'.heap.size w' w'')
theorem alive_h (w : World) (hT : w.cell? ⟨5, 15, none⟩ = some (.int .u8 4)) : AliveH w :=
  Lib.hid fun w' hb => alive_spec w' ((hb.cell (p := ⟨5, 15, none⟩) (block_lt_of_cell hT)).trans hT)
end Go.Proofs.YtccnkebkgegohaaGreatDoor
end
section
namespace Go.Proofs.YtccnkebkgegohaaGreatDoor
open Go.RowKit Go.Rel
set_option maxRecDepth 100000
/-! Common, Begins, Conflict, Equal, Merge, one form for all ways -/
section
variable {b b2 : Sol} {l l2 : List Sol} {g h : List Ac} {t u : StB} {v av v2 av2 : Value}
def Bad (b : Sol) (l : List Sol) (g : List Ac) : Prop := ∃ x, begunM b l g = .inl x
theorem together_bad (hb : Bad b l g ∨ Bad b2 l2 h) : ∃ y : Int, (y != 0) = true ∧ ∀ w, SlS w v l → SlA w av g → SlS w v2 l2 → SlA w av2 h →
    Calls Tryz.prog 96 #[.agg #[.int .u64 (pl b 0), .int .u64 (pl b 1), .int .u64 (pl b 2), .int .u64 (pl b 3), .int .u64 (pl b 4), .int .u64 (pl b 5), .int .u64 (pl b 6), .int .u64 (pl b 7), v, av], .agg #[.int .u64 (pl b2 0), .int .u64 (pl b2 1), .int .u64 (pl b2 2), .int .u64 (pl b2 3), .int .u64 (pl b2 4), .int .u64 (pl b2 5), .int .u64 (pl b2 6), .int .u64 (pl b2 7), v2, av2]] w fun e w' => e = .returned (.tuple #[.pointer none, .pointer none, .int .i64 y]) ∧ Below w.heap.size w w' := by
  cases hg : begunM b l g with
  | inl x => exact ⟨x.2, begunM_bad hg, fun w h1 h2 h3 h4 => together_bad1 hg b2 v2 av2 w h1 h2⟩
  | inr s =>
    rcases hb with ⟨x, hx⟩ | ⟨x, hx⟩
    · rw [hx] at hg; cases hg
    · exact ⟨x.2, begunM_bad hx, fun w h1 h2 h3 h4 => together_bad2 hg hx w h1 h2 h3 h4⟩
theorem both_bad (hb : Bad b l g ∨ Bad b2 l2 h) : ∃ y : Int, (y != 0) = true ∧ ∀ w, SlS w v l → SlA w av g → SlS w v2 l2 → SlA w av2 h →
    Calls Tryz.prog 107 #[.agg #[.int .u64 (pl b 0), .int .u64 (pl b 1), .int .u64 (pl b 2), .int .u64 (pl b 3), .int .u64 (pl b 4), .int .u64 (pl b 5), .int .u64 (pl b 6), .int .u64 (pl b 7), v, av], .agg #[.int .u64 (pl b2 0), .int .u64 (pl b2 1), .int .u64 (pl b2 2), .int .u64 (pl b2 3), .int .u64 (pl b2 4), .int .u64 (pl b2 5), .int .u64 (pl b2 6), .int .u64 (pl b2 7), v2, av2]] w fun e w' => e = .returned (.tuple #[.pointer none, .pointer none, .bool false, .int .i64 y]) ∧ Below w.heap.size w w' := by
  cases hg : begunM b l g with
  | inl x => exact ⟨x.2, begunM_bad hg, fun w h1 h2 h3 h4 => both_bad1 hg b2 v2 av2 w h1 h2⟩
  | inr s =>
    rcases hb with ⟨x, hx⟩ | ⟨x, hx⟩
    · rw [hx] at hg; cases hg
    · exact ⟨x.2, begunM_bad hx, fun w h1 h2 h3 h4 => both_bad2 hg hx w h1 h2 h3 h4⟩
end
set_option maxHeartbeats 4000000 in
theorem Common_err (b b2 : Sol) (v av v2 av2 : Value) (y : Int) (hne : (y != 0) = true) (w : World)
    (H : Hid (∀ w', Below w.heap.size w w' → Calls Tryz.prog 96 #[.agg #[.int .u64 (pl b 0), .int .u64 (pl b 1), .int .u64 (pl b 2), .int .u64 (pl b 3), .int .u64 (pl b 4), .int .u64 (pl b 5), .int .u64 (pl b 6), .int .u64 (pl b 7), v, av], .agg #[.int .u64 (pl b2 0), .int .u64 (pl b2 1), .int .u64 (pl b2 2), .int .u64 (pl b2 3), .int .u64 (pl b2 4), .int .u64 (pl b2 5), .int .u64 (pl b2 6), .int .u64 (pl b2 7), v2, av2]] w' fun e w'' => e = .returned (.tuple #[.pointer none, .pointer none, .int .i64 y]) ∧ Below w'.heap.size w' w'')) :
    Calls Tryz.prog 29 #[.agg #[.int .u64 (pl b 0), .int .u64 (pl b 1), .int .u64 (pl b 2), .int .u64 (pl b 3), .int .u64 (pl b 4), .int .u64 (pl b 5), .int .u64 (pl b 6), .int .u64 (pl b 7), v, av], .agg #[.int .u64 (pl b2 0), .int .u64 (pl b2 1), .int .u64 (pl b2 2), .int .u64 (pl b2 3), .int .u64 (pl b2 4), .int .u64 (pl b2 5), .int .u64 (pl b2 6), .int .u64 (pl b2 7), v2, av2]] w fun e w' => e = .returned (.tuple #[.agg #[.int .u64 0, .int .u64 0, .int .u64 0, .int .u64 0, .int .u64 0, .int .u64 0, .int .u64 0, .int .u64 0, .slice none 0 0, .slice none 0 0], .int .i64 y]) ∧ Below w.heap.size w w' := by
  go_enter Tryz.func29, Tryz.ntmps29
  go_wp2_with fail
  refine (H.out _ bel_by).mono ?_
  rintro e w1 ⟨rfl, hb⟩
  have b1 : Blk w1 (w.heap.size + 1 + 1) #[.int .u64 0, .int .u64 0, .int .u64 0, .int .u64 0, .int .u64 0, .int .u64 0, .int .u64 0, .int .u64 0, .slice none 0 0, .slice none 0 0] 30 := Blk.grow blk_by hb
  have r1 := b1.row
  have hB1 : Below w.heap.size w w1 := bel_trans bel_by hb
  rw [← b1.rw]
  clear b1 hb
  go_wp2_with fail
  refine bodyPost_ret (by simp [results, Tryz.results29, go_sem, *]) rfl ⟨rfl, blw_row hB1 (by omega) _⟩
set_option maxHeartbeats 4000000 in
theorem Begins_err (b b2 : Sol) (v av v2 av2 : Value) (y : Int) (hne : (y != 0) = true) (w : World)
    (H : Hid (∀ w', Below w.heap.size w w' → Calls Tryz.prog 107 #[.agg #[.int .u64 (pl b 0), .int .u64 (pl b 1), .int .u64 (pl b 2), .int .u64 (pl b 3), .int .u64 (pl b 4), .int .u64 (pl b 5), .int .u64 (pl b 6), .int .u64 (pl b 7), v, av], .agg #[.int .u64 (pl b2 0), .int .u64 (pl b2 1), .int .u64 (pl b2 2), .int .u64 (pl b2 3), .int .u64 (pl b2 4), .int .u64 (pl b2 5), .int .u64 (pl b2 6), .int .u64 (pl b2 7), v2, av2]] w' fun e w'' => e = .returned (.tuple #[.pointer none, .pointer none, .bool false, .int .i64 y]) ∧ Below w'.heap.size w' w'')) :
    Calls Tryz.prog 61 #[.agg #[.int .u64 (pl b 0), .int .u64 (pl b 1), .int .u64 (pl b 2), .int .u64 (pl b 3), .int .u64 (pl b 4), .int .u64 (pl b 5), .int .u64 (pl b 6), .int .u64 (pl b 7), v, av], .agg #[.int .u64 (pl b2 0), .int .u64 (pl b2 1), .int .u64 (pl b2 2), .int .u64 (pl b2 3), .int .u64 (pl b2 4), .int .u64 (pl b2 5), .int .u64 (pl b2 6), .int .u64 (pl b2 7), v2, av2]] w fun e w' => e = .returned (.tuple #[.bool false, .int .i64 y]) ∧ Below w.heap.size w w' := by
  go_enter Tryz.func61, Tryz.ntmps61
  go_wp2_with fail
  refine (H.out _ bel_by).mono ?_
  rintro e w1 ⟨rfl, hb⟩
  have hB1 : Below w.heap.size w w1 := bel_trans bel_by hb
  clear hb
  go_wp2_with fail
  refine bodyPost_ret (by simp [results, Tryz.results61, go_sem, *]) rfl ⟨rfl, hB1⟩
set_option maxHeartbeats 4000000 in
theorem Equal_err (b b2 : Sol) (v av v2 av2 : Value) (y : Int) (hne : (y != 0) = true) (w : World)
    (H : Hid (∀ w', Below w.heap.size w w' → Calls Tryz.prog 107 #[.agg #[.int .u64 (pl b 0), .int .u64 (pl b 1), .int .u64 (pl b 2), .int .u64 (pl b 3), .int .u64 (pl b 4), .int .u64 (pl b 5), .int .u64 (pl b 6), .int .u64 (pl b 7), v, av], .agg #[.int .u64 (pl b2 0), .int .u64 (pl b2 1), .int .u64 (pl b2 2), .int .u64 (pl b2 3), .int .u64 (pl b2 4), .int .u64 (pl b2 5), .int .u64 (pl b2 6), .int .u64 (pl b2 7), v2, av2]] w' fun e w'' => e = .returned (.tuple #[.pointer none, .pointer none, .bool false, .int .i64 y]) ∧ Below w'.heap.size w' w'')) :
    Calls Tryz.prog 42 #[.agg #[.int .u64 (pl b 0), .int .u64 (pl b 1), .int .u64 (pl b 2), .int .u64 (pl b 3), .int .u64 (pl b 4), .int .u64 (pl b 5), .int .u64 (pl b 6), .int .u64 (pl b 7), v, av], .agg #[.int .u64 (pl b2 0), .int .u64 (pl b2 1), .int .u64 (pl b2 2), .int .u64 (pl b2 3), .int .u64 (pl b2 4), .int .u64 (pl b2 5), .int .u64 (pl b2 6), .int .u64 (pl b2 7), v2, av2]] w fun e w' => e = .returned (.tuple #[.bool false, .int .i64 y]) ∧ Below w.heap.size w w' := by
  go_enter Tryz.func42, Tryz.ntmps42
  go_wp2_with fail
  refine (H.out _ bel_by).mono ?_
  rintro e w1 ⟨rfl, hb⟩
  have hB1 : Below w.heap.size w w1 := bel_trans bel_by hb
  clear hb
  go_wp2_with fail
  refine bodyPost_ret (by simp [results, Tryz.results42, go_sem, *]) rfl ⟨rfl, hB1⟩
set_option maxHeartbeats 4000000 in
theorem Conflict_err (b b2 : Sol) (v av v2 av2 : Value) (y : Int) (hne : (y != 0) = true) (w : World)
    (H : Hid (∀ w', Below w.heap.size w w' → Calls Tryz.prog 96 #[.agg #[.int .u64 (pl b 0), .int .u64 (pl b 1), .int .u64 (pl b 2), .int .u64 (pl b 3), .int .u64 (pl b 4), .int .u64 (pl b 5), .int .u64 (pl b 6), .int .u64 (pl b 7), v, av], .agg #[.int .u64 (pl b2 0), .int .u64 (pl b2 1), .int .u64 (pl b2 2), .int .u64 (pl b2 3), .int .u64 (pl b2 4), .int .u64 (pl b2 5), .int .u64 (pl b2 6), .int .u64 (pl b2 7), v2, av2]] w' fun e w'' => e = .returned (.tuple #[.pointer none, .pointer none, .int .i64 y]) ∧ Below w'.heap.size w' w'')) :
    Calls Tryz.prog 60 #[.agg #[.int .u64 (pl b 0), .int .u64 (pl b 1), .int .u64 (pl b 2), .int .u64 (pl b 3), .int .u64 (pl b 4), .int .u64 (pl b 5), .int .u64 (pl b 6), .int .u64 (pl b 7), v, av], .agg #[.int .u64 (pl b2 0), .int .u64 (pl b2 1), .int .u64 (pl b2 2), .int .u64 (pl b2 3), .int .u64 (pl b2 4), .int .u64 (pl b2 5), .int .u64 (pl b2 6), .int .u64 (pl b2 7), v2, av2]] w fun e w' => e = .returned (.tuple #[.agg zeroA, .agg zeroA, .bool false, .int .i64 y]) ∧ Below w.heap.size w w' := by
  go_enter Tryz.func60, Tryz.ntmps60
  go_wp2_with fail
  refine (H.out _ bel_by).mono ?_
  rintro e w1 ⟨rfl, hb⟩
  have b1 : Blk w1 (w.heap.size + 1 + 1) zeroA 46 := Blk.grow blk_by hb
  have b2 : Blk w1 (w.heap.size + 1 + 1 + 1) zeroA 46 := Blk.grow blk_by hb
  have r1 := b1.row
  have r2 := b2.row
  have hB1 : Below w.heap.size w w1 := bel_trans bel_by hb
  rw [← b1.rw, ← b2.rw]
  clear b1 b2 hb
  go_wp2_with fail
  refine bodyPost_ret (by simp [results, Tryz.results60, go_sem, *]) rfl ⟨rfl, blw_row (blw_row hB1 (by omega) _) (by omega) _⟩
end Go.Proofs.YtccnkebkgegohaaGreatDoor
end
section
namespace Go.Proofs.YtccnkebkgegohaaGreatDoor
open Go.RowKit Go.Rel
set_option maxRecDepth 100000
section
variable {b : Sol} {l : List Sol} {g h : List Ac} {t u : StB} {v av v2 av2 : Value}
set_option maxHeartbeats 8000000 in
theorem Common_o (R : Runs b l g t) (R2 : Runs b l h u) (w : World) (Hv : SlS w v l) (Hav : SlA w av g) (Hv2 : SlS w v2 l) (Hav2 : SlA w av2 h) :
    Calls Tryz.prog 29 #[.agg #[.int .u64 (pl b 0), .int .u64 (pl b 1), .int .u64 (pl b 2), .int .u64 (pl b 3), .int .u64 (pl b 4), .int .u64 (pl b 5), .int .u64 (pl b 6), .int .u64 (pl b 7), v, av], .agg #[.int .u64 (pl b 0), .int .u64 (pl b 1), .int .u64 (pl b 2), .int .u64 (pl b 3), .int .u64 (pl b 4), .int .u64 (pl b 5), .int .u64 (pl b 6), .int .u64 (pl b 7), v2, av2]] w fun e w' => ∃ p n c q k d, e = .returned (.tuple #[.agg #[.int .u64 (pl b 0), .int .u64 (pl b 1), .int .u64 (pl b 2), .int .u64 (pl b 3), .int .u64 (pl b 4), .int .u64 (pl b 5), .int .u64 (pl b 6), .int .u64 (pl b 7), .slice p n c, .slice q k d], .int .i64 0]) ∧ OwnS w' w.heap.size (.slice p n c) l ∧ OwnA w' w.heap.size (.slice q k d) (nrm l (beyA l g h).1) ∧ Below w.heap.size w w' := by
  obtain ⟨tc, RC⟩ := R.pre (bey_A l g h).pre1
  have HC : Hid ((beyondM l g l h).1 = (beyA l g h).1) := Lib.hid (beyondM_is R.fine R2.fine).c
  have HRC := Lib.hid RC; clear RC
  have H := Lib.hid fun w' (hb : Below w.heap.size w w') => together_good R.good R2.good w' (Hv.mono hb) (Hav.mono hb) (Hv2.mono hb) (Hav2.mono hb) true (by simp [samePat])
  rw [if_pos rfl] at H
  have h8 := pat_len R.pat
  have hn := R.len
  have hn2 := R2.len
  have HBK := Lib.hid (beyondM_ok l g l h)
  have HV := Lib.hid (And.intro Hv (And.intro Hav (And.intro Hv2 Hav2)))
  clear R R2 Hv Hav Hv2 Hav2
  go_enter Tryz.func29, Tryz.ntmps29
  go_wp2_with fail
  refine (H.out _ bel_by).mono ?_
  rintro e w1 ⟨bp, bq, rfl, hP, hQ, hb⟩
  have b1 : Blk w1 (w.heap.size + 1 + 1) #[.int .u64 0, .int .u64 0, .int .u64 0, .int .u64 0, .int .u64 0, .int .u64 0, .int .u64 0, .int .u64 0, .slice none 0 0, .slice none 0 0] 30 := Blk.grow blk_by hb
  have hB1 : Below w.heap.size w w1 := bel_trans bel_by hb
  have HPQ := Lib.hid (And.intro hP hQ); clear hP hQ hb H
  have hs1 := b1.lt
  go_wp2_with fail
  refine (beyond_spec w1 HPQ.out.1 HPQ.out.2 (HV.out.2.1.mono hB1) (HV.out.2.2.2.mono hB1) hn hn2).mono ?_
  rintro e w2 ⟨uc, ua, ub, rfl, oc, oa, ob, hb2⟩
  have hB2 : Below w.heap.size w w2 := bel_trans hB1 hb2
  have b2 := b1.grow hb2
  have HO2 : Hid (OwnA w2 w1.heap.size uc (beyondM l g l h).1) := Lib.hid oc
  have HP2 := Lib.hid (HPQ.out.1.grow hb2)
  have hs2 := hb2.size
  clear oc oa ob hb2 b1
  go_wp2_with fail
  refine (with_spec w2 HP2.out (HV.out.1.mono hB2) h8 uc (beyondM l g l h).1 HO2.out.sl (Nat.le_trans HBK.out.lc (by omega))).mono ?_
  rintro e w8 ⟨pv8, bv8, rfl, hS8, hA8, hb8⟩
  have hB8 : Below w.heap.size w w8 := bel_trans hB2 hb8
  have b8 := b2.grow hb8
  have hs8 := hb8.size
  have HN8 := Lib.hid (And.intro hS8 hA8)
  rw [HC.out] at HN8
  clear hS8 hA8 hb8 b2
  go_wp2_with fail
  refine (Normal_good HRC.out.good w8 HN8.out.1.sl HN8.out.2.sl).mono ?_
  rintro e w9 ⟨pv9, bv9, rfl, hS9, hA9, hb9⟩
  have hB9 : Below w.heap.size w w9 := bel_trans hB8 hb9
  have b9 := b8.grow hb9
  have hs9 := hb9.size
  have HS9 := Lib.hid (And.intro hS9 hA9)
  rw [normalM_eq HRC.out.fine] at HS9
  refine Veil.out ?_
  obtain ⟨p, c, hp, _, _⟩ := own_shape' hS9
  obtain ⟨p', c', hp', _, _⟩ := own_shape' hA9
  subst hp
  subst hp'
  refine Veil.on ?_
  clear hS9 hA9 hb9 b8
  have r1 := b9.row
  rw [← b9.rw]
  clear b9
  go_wp2_with fail
  refine bodyPost_ret (by simp [results, Tryz.results29, go_sem, *]) rfl ⟨_, _, _, _, _, _, rfl, own_weak (own_row (bp := w.heap.size + 1 + 1) HS9.out.1 (by omega) _) (by omega), own_weak (own_row (bp := w.heap.size + 1 + 1) HS9.out.2 (by omega) _) (by omega), blw_row hB9 (by omega) _⟩
theorem Common_r (R : Runs b l g t) (R2 : Runs b l h u) (w : World) (Hv : SlS w v l) (Hav : SlA w av g) (Hv2 : SlS w v2 l) (Hav2 : SlA w av2 h) :
    Calls Tryz.prog 29 #[.agg #[.int .u64 (pl b 0), .int .u64 (pl b 1), .int .u64 (pl b 2), .int .u64 (pl b 3), .int .u64 (pl b 4), .int .u64 (pl b 5), .int .u64 (pl b 6), .int .u64 (pl b 7), v, av], .agg #[.int .u64 (pl b 0), .int .u64 (pl b 1), .int .u64 (pl b 2), .int .u64 (pl b 3), .int .u64 (pl b 4), .int .u64 (pl b 5), .int .u64 (pl b 6), .int .u64 (pl b 7), v2, av2]] w (HRes b l (nrm l (beyA l g h).1) 0 w) :=
  (Common_o R R2 w Hv Hav Hv2 Hav2).mono fun e w' ⟨p, n, c, q, k, d, he, h1, h2, h3⟩ => ⟨p, n, c, q, k, d, he, h1.sl, h2.sl, h3⟩
set_option maxHeartbeats 8000000 in
theorem Begins_r (R : Runs b l g t) (R2 : Runs b l h u) (w : World) (Hv : SlS w v l) (Hav : SlA w av g) (Hv2 : SlS w v2 l) (Hav2 : SlA w av2 h) :
    Calls Tryz.prog 61 #[.agg #[.int .u64 (pl b 0), .int .u64 (pl b 1), .int .u64 (pl b 2), .int .u64 (pl b 3), .int .u64 (pl b 4), .int .u64 (pl b 5), .int .u64 (pl b 6), .int .u64 (pl b 7), v, av], .agg #[.int .u64 (pl b 0), .int .u64 (pl b 1), .int .u64 (pl b 2), .int .u64 (pl b 3), .int .u64 (pl b 4), .int .u64 (pl b 5), .int .u64 (pl b 6), .int .u64 (pl b 7), v2, av2]] w fun e w' => e = .returned (.tuple #[.bool (beyA l g h).2.1.isEmpty, .int .i64 0]) ∧ Below w.heap.size w w' := by
  have HE : Hid ((beyA l g h).2.1.isEmpty = decide ((beyondM l g l h).2.1.length = 0)) := Lib.hid (by
    rw [← (beyondM_is R.fine R2.fine).a, List.isEmpty_map]
    cases (beyondM l g l h).2.1 <;> simp)
  have H := Lib.hid fun w' (hb : Below w.heap.size w w') => both_good R.good R2.good w' (Hv.mono hb) (Hav.mono hb) (Hv2.mono hb) (Hav2.mono hb)
  have hs : samePat b l b l = true := by simp [samePat]
  rw [hs] at H
  have hn := R.len
  have hn2 := R2.len
  have HV := Lib.hid (And.intro Hv (And.intro Hav (And.intro Hv2 Hav2)))
  clear R R2 Hv Hav Hv2 Hav2 hs
  rw [HE.out]
  clear HE
  generalize hnn : (beyondM l g l h).2.1.length = nn
  have HNN := Lib.hid hnn; clear hnn
  go_enter Tryz.func61, Tryz.ntmps61
  go_wp2_with fail
  refine (H.out _ bel_by).mono ?_
  rintro e w1 ⟨bp, bq, rfl, hP, hQ, hb⟩
  have hB1 : Below w.heap.size w w1 := bel_trans bel_by hb
  have HPQ := Lib.hid (And.intro hP hQ); clear hP hQ hb H
  go_wp2_with fail
  refine (beyond_spec w1 HPQ.out.1 HPQ.out.2 (HV.out.2.1.mono hB1) (HV.out.2.2.2.mono hB1) hn hn2).mono ?_
  rintro e w2 ⟨uc, ua, ub, rfl, oc, oa, ob, hb2⟩
  have hB2 : Below w.heap.size w w2 := bel_trans hB1 hb2
  have HA2 : Hid (∃ p c, ua = .slice p nn c) := Lib.hid (by obtain ⟨p, c, e, _⟩ := own_shape' oa; have e2 := HNN.out; unfold beyondM at e2; exact ⟨p, c, by rw [e, e2]⟩)
  clear oc oa ob hb2
  refine Veil.out ?_
  obtain ⟨pa, ca, hpa⟩ := HA2.out
  subst hpa
  refine Veil.on ?_
  clear HA2
  go_wp2_with fail
  have e : ((nn : Int) == 0) = decide (nn = 0) := by
    rw [Bool.eq_iff_iff, beq_iff_eq, decide_eq_true_iff]; omega
  refine bodyPost_ret (v := .tuple #[.bool ((nn : Int) == 0), .int .i64 0]) (by simp [results, Tryz.results61, go_sem]) rfl ⟨by rw [e], hB2⟩
set_option maxHeartbeats 8000000 in
theorem Equal_r (R : Runs b l g t) (R2 : Runs b l h u) (w : World) (Hv : SlS w v l) (Hav : SlA w av g) (Hv2 : SlS w v2 l) (Hav2 : SlA w av2 h) :
    Calls Tryz.prog 42 #[.agg #[.int .u64 (pl b 0), .int .u64 (pl b 1), .int .u64 (pl b 2), .int .u64 (pl b 3), .int .u64 (pl b 4), .int .u64 (pl b 5), .int .u64 (pl b 6), .int .u64 (pl b 7), v, av], .agg #[.int .u64 (pl b 0), .int .u64 (pl b 1), .int .u64 (pl b 2), .int .u64 (pl b 3), .int .u64 (pl b 4), .int .u64 (pl b 5), .int .u64 (pl b 6), .int .u64 (pl b 7), v2, av2]] w fun e w' => e = .returned (.tuple #[.bool (nrm l g == nrm l h), .int .i64 0]) ∧ Below w.heap.size w w' := by
  have H := Lib.hid fun w' (hb : Below w.heap.size w w') => both_good R.good R2.good w' (Hv.mono hb) (Hav.mono hb) (Hv2.mono hb) (Hav2.mono hb)
  have hs : samePat b l b l = true := by simp [samePat]
  rw [hs] at H
  have hn := R.len
  have hn2 := R2.len
  have HN1 : Hid (actsAt g (leastI (depI (cellsOf l g)) (cmpN g) (upto g.length).length (upto g.length)) = nrm l g) := Lib.hid (normalM_eq R.fine)
  have HN2 : Hid (actsAt h (leastI (depI (cellsOf l h)) (cmpN h) (upto h.length).length (upto h.length)) = nrm l h) := Lib.hid (normalM_eq R2.fine)
  have HV := Lib.hid (And.intro Hv (And.intro Hav (And.intro Hv2 Hav2)))
  clear R R2 Hv Hav Hv2 Hav2 hs
  go_enter Tryz.func42, Tryz.ntmps42
  go_wp2_with fail
  refine (H.out _ bel_by).mono ?_
  rintro e w1 ⟨bp, bq, rfl, hP, hQ, hb⟩
  have hB1 : Below w.heap.size w w1 := bel_trans bel_by hb
  have HPQ := Lib.hid (And.intro hP hQ); clear hP hQ hb H
  go_wp2_with fail
  refine (indices_spec w1 HPQ.out.1 hn).mono ?_
  rintro e w2 ⟨u2, rfl, o2, hb2⟩
  have hB2 : Below w.heap.size w w2 := bel_trans hB1 hb2
  have HP2 := Lib.hid (And.intro (HPQ.out.1.grow hb2) (HPQ.out.2.grow hb2))
  have HO2 := Lib.hid o2.sl
  clear o2 hb2
  go_wp2_with fail
  refine (least_spec w2 HP2.out.1 (HV.out.2.1.mono hB2) hn u2 (upto g.length) HO2.out upto_range (by rw [upto_length]; exact hn)).mono ?_
  rintro e w3 ⟨u3, rfl, o3, hb3⟩
  have hB3 : Below w.heap.size w w3 := bel_trans hB2 hb3
  have HP3 := Lib.hid (And.intro (HP2.out.1.grow hb3) (HP2.out.2.grow hb3))
  rw [HN1.out] at o3
  have HO3 := Lib.hid o3.sl
  clear o3 hb3 HO2
  go_wp2_with fail
  refine (indices_spec w3 HP3.out.2 hn2).mono ?_
  rintro e w4 ⟨u4, rfl, o4, hb4⟩
  have hB4 : Below w.heap.size w w4 := bel_trans hB3 hb4
  have HP4 := Lib.hid (HP3.out.2.grow hb4)
  have HO4 := Lib.hid (And.intro (HO3.out.mono hb4) o4.sl)
  clear o4 hb4 HO3
  go_wp2_with fail
  refine (least_spec w4 HP4.out (HV.out.2.2.2.mono hB4) hn2 u4 (upto h.length) HO4.out.2 upto_range (by rw [upto_length]; exact hn2)).mono ?_
  rintro e w5 ⟨u5, rfl, o5, hb5⟩
  have hB5 : Below w.heap.size w w5 := bel_trans hB4 hb5
  rw [HN2.out] at o5
  have HO5 := Lib.hid (And.intro (HO4.out.1.mono hb5) o5.sl)
  clear o5 hb5 HO4
  go_wp2_with fail
  refine (EqualAc_spec _ _ _ _ w5 HO5.out.1 HO5.out.2).mono ?_
  rintro e w6 ⟨rfl, hb6⟩
  have hB6 : Below w.heap.size w w6 := bel_trans hB5 hb6
  go_wp2_with fail
  refine bodyPost_ret (by simp [results, Tryz.results42, go_sem]) rfl ⟨rfl, hB6⟩
theorem pre_iff {l : List Sol} {g h : List Ac} : (beyA l g h).2.1.isEmpty = true ↔ Tra.Pre (depA l) g h := by
  rw [List.isEmpty_iff]; exact (bey_A l g h).begins (depA_refl l) (depA_symm l)
/-- whether a history begins another one -/
def preB (l : List Sol) (g h : List Ac) : Bool := (beyA l g h).2.1.isEmpty
set_option maxHeartbeats 8000000 in
theorem begins_r (R : Runs b l g t) (R2 : Runs b l h u) (w : World) (Hv : SlS w v l) (Hav : SlA w av g) (Hv2 : SlS w v2 l) (Hav2 : SlA w av2 h) :
    Calls Tryz.prog 56 #[.agg #[.int .u64 (pl b 0), .int .u64 (pl b 1), .int .u64 (pl b 2), .int .u64 (pl b 3), .int .u64 (pl b 4), .int .u64 (pl b 5), .int .u64 (pl b 6), .int .u64 (pl b 7), v, av], .agg #[.int .u64 (pl b 0), .int .u64 (pl b 1), .int .u64 (pl b 2), .int .u64 (pl b 3), .int .u64 (pl b 4), .int .u64 (pl b 5), .int .u64 (pl b 6), .int .u64 (pl b 7), v2, av2]] w fun e w' => e = .returned (.bool (preB l g h)) ∧ Below w.heap.size w w' := by
  have H := Lib.hid fun w' (hb : Below w.heap.size w w') => Begins_r R R2 w' (Hv.mono hb) (Hav.mono hb) (Hv2.mono hb) (Hav2.mono hb)
  unfold preB
  clear R R2 Hv Hav Hv2 Hav2
  generalize (beyA l g h).2.1.isEmpty = r at *
  go_enter Tryz.func56, Tryz.ntmps56
  go_wp2_with fail
  refine (H.out _ bel_by).mono ?_
  rintro e w1 ⟨rfl, hb⟩
  have hB1 : Below w.heap.size w w1 := bel_trans bel_by hb
  clear hb
  go_wp2_with fail
  refine bodyPost_ret (by simp [results, Tryz.results56, go_sem]) rfl ⟨rfl, hB1⟩
theorem begins_is (x : Bool) (hx : preB l g h = x) (R : Runs b l g t) (R2 : Runs b l h u) (w : World) (Hv : SlS w v l) (Hav : SlA w av g) (Hv2 : SlS w v2 l) (Hav2 : SlA w av2 h) :
    Calls Tryz.prog 56 #[.agg #[.int .u64 (pl b 0), .int .u64 (pl b 1), .int .u64 (pl b 2), .int .u64 (pl b 3), .int .u64 (pl b 4), .int .u64 (pl b 5), .int .u64 (pl b 6), .int .u64 (pl b 7), v, av], .agg #[.int .u64 (pl b 0), .int .u64 (pl b 1), .int .u64 (pl b 2), .int .u64 (pl b 3), .int .u64 (pl b 4), .int .u64 (pl b 5), .int .u64 (pl b 6), .int .u64 (pl b 7), v2, av2]] w fun e w' => e = .returned (.bool x) ∧ Below w.heap.size w w' := by
  subst hx; exact begins_r R R2 w Hv Hav Hv2 Hav2
end
end Go.Proofs.YtccnkebkgegohaaGreatDoor
end
