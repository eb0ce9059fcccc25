import Derived.Test.YtccnkebkgegohaaGreatDoorHY1
import Derived.Test.YtccnkebkgegohaaGreatDoorHY2
/-
  Given contracts of functions of the program, and laws for them, one behind the other.
-/
set_option linter.unusedVariables false
set_option linter.unusedSimpArgs false
set_option linter.unusedSectionVars false
section
namespace Go.Proofs.YtccnkebkgegohaaGreatDoor
open Go.RowKit Go.Rel
set_option maxRecDepth 100000
/-! the exported functions' results, one form for all ways -/
@[go_sem high] theorem eqStn (d : Nat) (s s' : Sol) (o o' : Int) (w : World) : (Op.equalIn (d+3) 37 (.agg #[.int .u64 (pl s 0), .int .u64 (pl s 1), .int .u64 (pl s 2), .int .u64 (pl s 3), .int .u64 (pl s 4), .int .u64 (pl s 5), .int .u64 (pl s 6), .int .u64 (pl s 7), .int .u8 o]) (.agg #[.int .u64 (pl s' 0), .int .u64 (pl s' 1), .int .u64 (pl s' 2), .int .u64 (pl s' 3), .int .u64 (pl s' 4), .int .u64 (pl s' 5), .int .u64 (pl s' 6), .int .u64 (pl s' 7), .int .u8 o'])).run Tryz.prog w = .ok ((s == s') && (o == o')) w := by
  rw [run_equalIn_struct w (d+2) 37 _ _ (by kernel_rfl) (by kernel_rfl)]
  go_simp
  split
  · next h1 =>
    split
    · next h2 => simp [h1, h2]
    · next h2 => simp [h1, h2]
  · next h1 => simp [h1]
/-- a returned history, and an error -/
def HRes (b : Sol) (l : List Sol) (M : List Ac) (E : Int) (w : World) (e : Ending) (w' : World) : Prop :=
  ∃ p n c q k d, e = .returned (.tuple #[.agg #[.int .u64 (pl b 0), .int .u64 (pl b 1), .int .u64 (pl b 2), .int .u64 (pl b 3), .int .u64 (pl b 4), .int .u64 (pl b 5), .int .u64 (pl b 6), .int .u64 (pl b 7), .slice p n c, .slice q k d], .int .i64 E]) ∧ SlS w' (.slice p n c) l ∧ SlA w' (.slice q k d) M ∧ Below w.heap.size w w'
theorem hres_own {b : Sol} {l : List Sol} {M : List Ac} {E : Int} {w w' : World} {base : Nat} {pv bv : Value} (hS : OwnS w' base pv l) (hA : OwnA w' base bv M) (hb : Below w.heap.size w w') : HRes b l M E w (.returned (.tuple #[.agg #[.int .u64 (pl b 0), .int .u64 (pl b 1), .int .u64 (pl b 2), .int .u64 (pl b 3), .int .u64 (pl b 4), .int .u64 (pl b 5), .int .u64 (pl b 6), .int .u64 (pl b 7), pv, bv], .int .i64 E])) w' := by
  obtain ⟨p, c, rfl, _, _⟩ := own_shape' hS
  obtain ⟨q, d, rfl, _, _⟩ := own_shape' hA
  exact ⟨p, _, c, q, _, d, rfl, hS.sl, hA.sl, hb⟩
theorem sl_nil {k : Nat} (w : World) : Sl w k (.slice none 0 0) [] := ⟨none, 0, rfl, Nat.le_refl _, by decide, .inl rfl⟩
theorem zero_hist : (.agg #[.int .u64 0, .int .u64 0, .int .u64 0, .int .u64 0, .int .u64 0, .int .u64 0, .int .u64 0, .int .u64 0, .slice none 0 0, .slice none 0 0] : Value) = .agg #[.int .u64 (pl 0 0), .int .u64 (pl 0 1), .int .u64 (pl 0 2), .int .u64 (pl 0 3), .int .u64 (pl 0 4), .int .u64 (pl 0 5), .int .u64 (pl 0 6), .int .u64 (pl 0 7), .slice none 0 0, .slice none 0 0] := by simp only [pl_zero]
theorem hres_zero {x : Int} {w w' : World} (hb : Below w.heap.size w w') : HRes 0 [] [] x w (.returned (.tuple #[.agg #[.int .u64 0, .int .u64 0, .int .u64 0, .int .u64 0, .int .u64 0, .int .u64 0, .int .u64 0, .int .u64 0, .slice none 0 0, .slice none 0 0], .int .i64 x])) w' := by
  rw [zero_hist]
  exact ⟨none, 0, 0, none, 0, 0, rfl, sl_nil w', sl_nil w', hb⟩
section
variable {b : Sol} {l : List Sol} {m : List Ac} {t : StB} {v av : Value}
theorem Reduced_r (R : Runs b l m t) (w : World) (Hv : SlS w v l) (Hav : SlA w av m) : Calls Tryz.prog 21 #[.agg #[.int .u64 (pl b 0), .int .u64 (pl b 1), .int .u64 (pl b 2), .int .u64 (pl b 3), .int .u64 (pl b 4), .int .u64 (pl b 5), .int .u64 (pl b 6), .int .u64 (pl b 7), v, av]] w (HRes b l (nrm l (redL l m)) 0 w) := by
  refine (Reduced_good R.good w Hv Hav).mono fun e w' ⟨pv, bv, he, h1, h2, h3⟩ => ?_
  subst he
  have e : actsAt m (leastI (depI (cellsOf l m)) (cmpN m) (reducedM l m).length (reducedM l m)) = nrm l (redL l m) := by
    have := reduced_eq R.fine
    unfold leastA at this
    exact this
  rw [e] at h2
  exact hres_own h1 h2 h3
theorem Normal_r (R : Runs b l m t) (w : World) (Hv : SlS w v l) (Hav : SlA w av m) : Calls Tryz.prog 55 #[.agg #[.int .u64 (pl b 0), .int .u64 (pl b 1), .int .u64 (pl b 2), .int .u64 (pl b 3), .int .u64 (pl b 4), .int .u64 (pl b 5), .int .u64 (pl b 6), .int .u64 (pl b 7), v, av]] w (HRes b l (nrm l m) 0 w) := by
  refine (Normal_good R.good w Hv Hav).mono fun e w' ⟨pv, bv, he, h1, h2, h3⟩ => ?_
  subst he
  rw [normalM_eq R.fine] at h2
  exact hres_own h1 h2 h3
theorem Stand_r (R : Runs b l m t) (w : World) (Hv : SlS w v l) (Hav : SlA w av m) : Calls Tryz.prog 22 #[.agg #[.int .u64 (pl b 0), .int .u64 (pl b 1), .int .u64 (pl b 2), .int .u64 (pl b 3), .int .u64 (pl b 4), .int .u64 (pl b 5), .int .u64 (pl b 6), .int .u64 (pl b 7), v, av]] w fun e w' => e = .returned (.tuple #[.agg #[.int .u64 (pl t.1 0), .int .u64 (pl t.1 1), .int .u64 (pl t.1 2), .int .u64 (pl t.1 3), .int .u64 (pl t.1 4), .int .u64 (pl t.1 5), .int .u64 (pl t.1 6), .int .u64 (pl t.1 7), .int .u8 (t.2.toNat : Int)], .int .i64 0]) ∧ Below w.heap.size w w' :=
  Stand_good R.good w Hv Hav
theorem Reduced_again (R : Runs b l m t) (w : World) (Hv : SlS w v l) (Hav : SlA w av (nrm l (redL l m))) : Calls Tryz.prog 21 #[.agg #[.int .u64 (pl b 0), .int .u64 (pl b 1), .int .u64 (pl b 2), .int .u64 (pl b 3), .int .u64 (pl b 4), .int .u64 (pl b 5), .int .u64 (pl b 6), .int .u64 (pl b 7), v, av]] w (HRes b l (nrm l (redL l m)) 0 w) := by
  have h := Reduced_r R.red.nrm w Hv Hav
  rw [redL_again] at h
  exact h
theorem Reduced_any (b : Sol) (l : List Sol) (m : List Ac) (w : World) (Hv : SlS w v l) (Hav : SlA w av m) : Calls Tryz.prog 21 #[.agg #[.int .u64 (pl b 0), .int .u64 (pl b 1), .int .u64 (pl b 2), .int .u64 (pl b 3), .int .u64 (pl b 4), .int .u64 (pl b 5), .int .u64 (pl b 6), .int .u64 (pl b 7), v, av]] w fun e w' => ∃ B L M E, HRes B L M E w e w' ∧ (E = 0 → B = b ∧ L = l ∧ M = nrm l (redL l m)) := by
  cases h : begunM b l m with
  | inl x =>
    refine (Reduced_bad h w Hv Hav).mono fun e w' ⟨he, hb⟩ => ?_
    subst he
    refine ⟨0, [], [], x.2, hres_zero hb, fun h0 => ?_⟩
    have := begunM_bad h
    rw [h0] at this; cases this
  | inr s =>
    obtain ⟨t, R, _⟩ := Runs.of h
    exact (Reduced_r R w Hv Hav).mono fun e w' h => ⟨b, l, _, 0, h, fun _ => ⟨rfl, rfl, rfl⟩⟩
theorem sl_take {w : World} {k i n c : Nat} {a : Option Addr} {xs : List (List Value)} (h : Sl w k (.slice a n c) xs) (hi : i ≤ n) : Sl w k (sliced a 0 i i k) (xs.take i) := by
  obtain ⟨a', c', he, h1, h2, h3⟩ := h
  cases he
  have hl : (xs.take i).length = i := by rw [List.length_take]; omega
  have e : sliced a 0 i i k = .slice a i i := by
    unfold sliced
    by_cases h0 : i = 0
    · simp [h0]
    · rcases h3 with rfl | ⟨b, off, rfl, _⟩
      · simp at hi; omega
      · simp [h0, Go.WideShapes.add_plain]
  rw [e]
  refine ⟨a, i, by rw [hl], by rw [hl]; exact Nat.le_refl _, by omega, ?_⟩
  rcases h3 with rfl | ⟨b, off, rfl, h4⟩
  · exact .inl (by simp)
  · refine .inr ⟨b, off, rfl, h4.1, fun p j u hu => h4.2 p j u ?_⟩
    obtain ⟨r, hr, hj⟩ := Option.bind_eq_some_iff.1 hu
    have hp : p < i := by have := (List.getElem?_eq_some_iff.1 hr).1; rw [hl] at this; exact this
    rw [List.getElem?_take_of_lt hp] at hr
    rw [hr]; exact hj
theorem sl_drop {w : World} {k i n c : Nat} {a : Option Addr} {xs : List (List Value)} (h : Sl w k (.slice a n c) xs) (hi : i ≤ n) : Sl w k (sliced a i n c k) (xs.drop i) := by
  obtain ⟨a', c', he, h1, h2, h3⟩ := h
  cases he
  have hl : (xs.drop i).length = xs.length - i := by rw [List.length_drop]
  unfold sliced
  refine ⟨_, _, by rw [hl], by rw [hl]; omega, by omega, ?_⟩
  rcases h3 with rfl | ⟨b, off, rfl, h4⟩
  · exact .inl (by simp)
  · by_cases hx : xs.drop i = []
    · exact .inl hx
    · have hlt : i < xs.length := by
        rcases Nat.lt_or_ge i xs.length with h | h
        · exact h
        · exact absurd (List.drop_eq_nil_of_le h) hx
      refine .inr ⟨b, off + i * k, ?_, h4.1, fun p j u hu => ?_⟩
      · simp only [Option.map_some]
        rw [if_neg (by omega), Go.WideShapes.add_plain]
      · obtain ⟨r, hr, hj⟩ := Option.bind_eq_some_iff.1 hu
        rw [List.getElem?_drop] at hr
        have := h4.2 (i + p) j u (by rw [hr]; exact hj)
        rw [show off + i * k + p * k + j = off + (i + p) * k + j by rw [Nat.add_mul]; omega]
        exact this
theorem Same_eq {b : Sol} {v av v2 av2 : Value} {l : List Sol} {m : List Ac} (w : World) (hv : SlS w v l) (ha : SlA w av m) (hv2 : SlS w v2 l) (ha2 : SlA w av2 m) :
    Calls Tryz.prog 23 #[.agg #[.int .u64 (pl b 0), .int .u64 (pl b 1), .int .u64 (pl b 2), .int .u64 (pl b 3), .int .u64 (pl b 4), .int .u64 (pl b 5), .int .u64 (pl b 6), .int .u64 (pl b 7), v, av], .agg #[.int .u64 (pl b 0), .int .u64 (pl b 1), .int .u64 (pl b 2), .int .u64 (pl b 3), .int .u64 (pl b 4), .int .u64 (pl b 5), .int .u64 (pl b 6), .int .u64 (pl b 7), v2, av2]] w fun e w' => e = .returned (.bool true) ∧ Below w.heap.size w w' := by
  have := Same_spec b b v av v2 av2 l l m m w hv ha hv2 ha2
  simpa [samePat] using this
/-- few, of one, two, three histories -/
def fewB (h : List (List Sol × List Ac)) : Bool := !h.any fun x => many x.2.length x.1.length
end
theorem hv_sl1 {W : World} {g t : Nat} {b : Sol} {p q : Value} (h : Blk W g #[.int .u64 (pl b 0), .int .u64 (pl b 1), .int .u64 (pl b 2), .int .u64 (pl b 3), .int .u64 (pl b 4), .int .u64 (pl b 5), .int .u64 (pl b 6), .int .u64 (pl b 7), p, q] t) : Sl W 10 (.slice (some ⟨g, 0, none⟩) 1 1) ([((b, p, q) : Hv)].map hvL) :=
  Sl.ofBlk h rfl (by decide) (by simp) (by simp)
theorem hv_sl2 {W : World} {g t : Nat} {b b' : Sol} {p q p' q' : Value} (h : Blk W g #[.int .u64 (pl b 0), .int .u64 (pl b 1), .int .u64 (pl b 2), .int .u64 (pl b 3), .int .u64 (pl b 4), .int .u64 (pl b 5), .int .u64 (pl b 6), .int .u64 (pl b 7), p, q, .int .u64 (pl b' 0), .int .u64 (pl b' 1), .int .u64 (pl b' 2), .int .u64 (pl b' 3), .int .u64 (pl b' 4), .int .u64 (pl b' 5), .int .u64 (pl b' 6), .int .u64 (pl b' 7), p', q'] t) : Sl W 10 (.slice (some ⟨g, 0, none⟩) 2 2) ([((b, p, q) : Hv), (b', p', q')].map hvL) :=
  Sl.ofBlk h rfl (by decide) (by simp) (by simp)
theorem hv_sl3 {W : World} {g t : Nat} {b b' b2 : Sol} {p q p' q' p2 q2 : Value} (h : Blk W g #[.int .u64 (pl b 0), .int .u64 (pl b 1), .int .u64 (pl b 2), .int .u64 (pl b 3), .int .u64 (pl b 4), .int .u64 (pl b 5), .int .u64 (pl b 6), .int .u64 (pl b 7), p, q, .int .u64 (pl b' 0), .int .u64 (pl b' 1), .int .u64 (pl b' 2), .int .u64 (pl b' 3), .int .u64 (pl b' 4), .int .u64 (pl b' 5), .int .u64 (pl b' 6), .int .u64 (pl b' 7), p', q', .int .u64 (pl b2 0), .int .u64 (pl b2 1), .int .u64 (pl b2 2), .int .u64 (pl b2 3), .int .u64 (pl b2 4), .int .u64 (pl b2 5), .int .u64 (pl b2 6), .int .u64 (pl b2 7), p2, q2] t) : Sl W 10 (.slice (some ⟨g, 0, none⟩) 3 3) ([((b, p, q) : Hv), (b', p', q'), (b2, p2, q2)].map hvL) :=
  Sl.ofBlk h rfl (by decide) (by simp) (by simp)
theorem few1 {g t : Nat} {b : Sol} {p q : Option Addr} {n c k d : Nat} (w : World) (h : Blk w g #[.int .u64 (pl b 0), .int .u64 (pl b 1), .int .u64 (pl b 2), .int .u64 (pl b 3), .int .u64 (pl b 4), .int .u64 (pl b 5), .int .u64 (pl b 6), .int .u64 (pl b 7), .slice p n c, .slice q k d] t) : Calls Tryz.prog 19 #[.slice (some ⟨g, 0, none⟩) 1 1] w fun e w' => e = .returned (.bool (!many k n)) ∧ Below w.heap.size w w' := by
  have := few_spec _ _ w (hv_sl1 h) (by simp)
  simpa [manyH] using this
theorem few2 {g t : Nat} {b b' : Sol} {p q p' q' : Option Addr} {n c k d n' c' k' d' : Nat} (w : World) (h : Blk w g #[.int .u64 (pl b 0), .int .u64 (pl b 1), .int .u64 (pl b 2), .int .u64 (pl b 3), .int .u64 (pl b 4), .int .u64 (pl b 5), .int .u64 (pl b 6), .int .u64 (pl b 7), .slice p n c, .slice q k d, .int .u64 (pl b' 0), .int .u64 (pl b' 1), .int .u64 (pl b' 2), .int .u64 (pl b' 3), .int .u64 (pl b' 4), .int .u64 (pl b' 5), .int .u64 (pl b' 6), .int .u64 (pl b' 7), .slice p' n' c', .slice q' k' d'] t) : Calls Tryz.prog 19 #[.slice (some ⟨g, 0, none⟩) 2 2] w fun e w' => e = .returned (.bool (!(many k n || many k' n'))) ∧ Below w.heap.size w w' := by
  have := few_spec _ _ w (hv_sl2 h) (by simp)
  simpa [manyH] using this
theorem few3 {g t : Nat} {b b' b2 : Sol} {p q p' q' p2 q2 : Option Addr} {n c k d n' c' k' d' n2 c2 k2 d2 : Nat} (w : World) (h : Blk w g #[.int .u64 (pl b 0), .int .u64 (pl b 1), .int .u64 (pl b 2), .int .u64 (pl b 3), .int .u64 (pl b 4), .int .u64 (pl b 5), .int .u64 (pl b 6), .int .u64 (pl b 7), .slice p n c, .slice q k d, .int .u64 (pl b' 0), .int .u64 (pl b' 1), .int .u64 (pl b' 2), .int .u64 (pl b' 3), .int .u64 (pl b' 4), .int .u64 (pl b' 5), .int .u64 (pl b' 6), .int .u64 (pl b' 7), .slice p' n' c', .slice q' k' d', .int .u64 (pl b2 0), .int .u64 (pl b2 1), .int .u64 (pl b2 2), .int .u64 (pl b2 3), .int .u64 (pl b2 4), .int .u64 (pl b2 5), .int .u64 (pl b2 6), .int .u64 (pl b2 7), .slice p2 n2 c2, .slice q2 k2 d2] t) : Calls Tryz.prog 19 #[.slice (some ⟨g, 0, none⟩) 3 3] w fun e w' => e = .returned (.bool (!(many k n || (many k' n' || many k2 n2)))) ∧ Below w.heap.size w w' := by
  have := few_spec _ _ w (hv_sl3 h) (by simp)
  simpa [manyH] using this
end Go.Proofs.YtccnkebkgegohaaGreatDoor
end
