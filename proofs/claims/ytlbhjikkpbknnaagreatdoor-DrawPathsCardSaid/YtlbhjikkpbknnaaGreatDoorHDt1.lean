import Derived.Test.YtlbhjikkpbknnaaGreatDoorG06
/-
  Given contracts of functions of the program, and laws for them, one behind the other.
-/
set_option linter.unusedVariables false
set_option linter.unusedSimpArgs false
set_option linter.unusedSectionVars false
section
namespace Go.Draw
set_option maxRecDepth 10000
/-! the reference's Undercut: below, word by word -/
theorem ups_any (n : Nat) (hn : n < 512) : ∀ (m : Nat) (b : Sol), ((upsL m b).any fun y => y.1.getLsbD n) = true ↔ ∃ k, 1 ≤ k ∧ k ≤ m ∧ 64 * k ≤ n ∧ b.getLsbD (n - 64 * k) = true
 | 0, b => by
  simp only [upsL, List.any_nil]
  constructor
  ·intro h; cases h
  ·rintro ⟨k, h1, h2, _⟩; omega
 | m + 1, b => by
  unfold upsL
  split
  ·rename_i h
   simp only [List.any_nil]
   constructor
   ·intro h; cases h
   ·rintro ⟨k, h1, h2, h3, h4⟩
    have h5 := up_bit b (n - 64 * k + 64) (by omega)
    rw [h, show n - 64 * k + 64 - 64 = n - 64 * k by omega, h4] at h5
    simp at h5
  ·rw [List.any_cons, Bool.or_eq_true, ups_any n hn m (upS b)]
   constructor
   ·rintro (h | ⟨k, h1, h2, h3, h4⟩)
    ·rw [up_bit _ _ hn, Bool.and_eq_true, decide_eq_true_eq] at h
     exact ⟨1, by omega, by omega, by omega, h.2⟩
    ·rw [up_bit _ _ (by omega), Bool.and_eq_true, decide_eq_true_eq] at h4
     exact ⟨k + 1, by omega, by omega, by omega, by rw [show n - 64 * (k + 1) = n - 64 * k - 64 by omega]; exact h4.2⟩
   ·rintro ⟨k, h1, h2, h3, h4⟩
    by_cases e : k = 1
    ·subst e
     exact .inl (by rw [up_bit _ _ hn, Bool.and_eq_true, decide_eq_true_eq]; exact ⟨by omega, h4⟩)
    ·refine .inr ⟨k - 1, by omega, by omega, by omega, ?_⟩
     rw [up_bit _ _ (by omega), Bool.and_eq_true, decide_eq_true_eq]
     exact ⟨by omega, by rw [show n - 64 * (k - 1) - 64 = n - 64 * k by omega]; exact h4⟩
theorem underc_fold (s : Sol) (n : Nat) : ∀ (l : List (Sol × Bool)) (a : Sol), (l.foldl (fun out y => out ||| (y.1 &&& ~~~s)) a).getLsbD n = (a.getLsbD n || (decide (n < 512) && !s.getLsbD n && l.any fun y => y.1.getLsbD n))
 | [], a => by simp
 | y :: l, a => by
  rw [List.foldl_cons, underc_fold s n l, List.any_cons, BitVec.getLsbD_or, BitVec.getLsbD_and, BitVec.getLsbD_not]
  cases a.getLsbD n <;> cases y.1.getLsbD n <;> cases s.getLsbD n <;> cases decide (n < 512) <;> simp
/-- what lies below the plane z -/
def belowR (s : Sol) : Nat → U
 | 0 => 0
 | k + 1 => belowR s k ||| plv s k
theorem plv_at (s : Sol) (z i : Nat) (hi : i < 64) : (plv s z).getLsbD i = s.getLsbD (64 * z + i) := by
 unfold plv; rw [BitVec.getLsbD_extractLsb']; simp [hi]
theorem belowR_bit (s : Sol) (i : Nat) (hi : i < 64) : ∀ z, (belowR s z).getLsbD i = true ↔ ∃ k, k < z ∧ s.getLsbD (64 * k + i) = true
 | 0 => by simp [belowR]
 | z + 1 => by
  unfold belowR
  rw [BitVec.getLsbD_or, Bool.or_eq_true, belowR_bit s i hi z, plv_at _ _ _ hi]
  constructor
  ·rintro (⟨k, h1, h2⟩ | h)
   ·exact ⟨k, by omega, h2⟩
   ·exact ⟨z, by omega, h⟩
  ·rintro ⟨k, h1, h2⟩
   by_cases e : k = z
   ·subst e; exact .inr h2
   ·exact .inl ⟨k, by omega, h2⟩
/-- Undercut, as the reference has it -/
theorem under_words (s : Sol) {z : Nat} (hz : z < 8) : plv (undercutM s) z = belowR s z &&& ~~~(plv s z) := by
 apply BitVec.eq_of_getLsbD_eq
 intro i hi
 rw [plv_at _ _ _ hi, BitVec.getLsbD_and, BitVec.getLsbD_not, plv_at _ _ _ hi]
 unfold undercutM
 rw [underc_fold]
 simp only [BitVec.ofNat_eq_ofNat, BitVec.getLsbD_zero, Bool.false_or, show 64 * z + i < 512 by omega, hi, decide_true, Bool.true_and]
 rw [Bool.eq_iff_iff, Bool.and_eq_true, Bool.and_eq_true, ups_any _ (by omega), belowR_bit s i hi]
 constructor
 ·rintro ⟨h1, k, h2, h3, h4, h5⟩
  exact ⟨⟨z - k, by omega, by rw [show 64 * (z - k) + i = 64 * z + i - 64 * k by omega]; exact h5⟩, h1⟩
 ·rintro ⟨⟨k, h1, h2⟩, h3⟩
  exact ⟨h3, z - k, by omega, by omega, by omega, by rw [show 64 * z + i - 64 * (z - k) = 64 * k + i by omega]; exact h2⟩
end Go.Draw
end
section
namespace Go.Draw
set_option maxRecDepth 10000
/-! the reference's ways: first, ready, greedy -/
def wayR (m : List Sol) (p : Nat) : List (Mv × List Nat) := (movesL p).filterMap fun x => (blockedM m x).map fun l => (x, l)
def firstR (m : List Sol) (gone : List Nat) (p : Nat) : Option Mv := ((wayR m p).find? fun y => y.2.all fun i => gone.contains i).map (·.1)
theorem all_set (A : U) {gone : List Nat} (hg : ∀ i ∈ gone, i < 64) : ((listU A).all fun i => gone.contains i) = (A &&& ~~~(setF gone) == 0) := by
 rw [Bool.eq_iff_iff, beq_iff_eq, ← sub_iff, List.all_eq_true]
 constructor
 ·intro h i hi
  rw [setF_bit gone hg]
  exact h i ((listU_mem _ _).2 hi)
 ·intro h i hi
  rw [← setF_bit gone hg]
  exact h i ((listU_mem _ _).1 hi)
theorem find_filterMap {α β : Type} (f : α → Option β) (q : β → Bool) : ∀ l : List α, ((l.filterMap fun x => (f x).map fun y => (x, y)).find? fun z => q z.2).map (·.1) = l.find? fun x => match f x with
  | some y => q y
  | none => false
 | [] => rfl
 | x :: l => by
  have ih := find_filterMap f q l
  rw [List.filterMap_cons]
  cases hx : f x with
  | none =>
   simp only [Option.map_none]
   rw [List.find?_cons, hx]
   exact ih
  | some y =>
   simp only [Option.map_some, List.find?_cons, hx]
   cases hq : q y
   ·exact ih
   ·rfl
theorem find_congr' {α : Type} {f g : α → Bool} : ∀ {l : List α}, (∀ x ∈ l, f x = g x) → l.find? f = l.find? g
 | [], _ => rfl
 | x :: l, h => by
  rw [List.find?_cons, List.find?_cons, h x (by simp), find_congr' (fun y hy => h y (by simp [hy]))]
theorem firstR_goes {m : List Sol} (hA : Apart m) (hm : m.length ≤ 12) {p : Nat} (hp : p < m.length) {gone : List Nat} (hg : ∀ i ∈ gone, i < 64) : firstR m gone p = goesM m p (setF gone) := by
 unfold firstR wayR goesM
 refine (find_filterMap (blockedM m) (fun l : List Nat => l.all fun i => gone.contains i) (movesL p)).trans ?_
 refine find_congr' fun x hx => ?_
 have hxm : IsMv m.length x := by
  have h := (mem_movesL p x).1 hx
  refine ⟨by omega, ?_⟩
  rcases h.2 with h | h
  ·exact .inl h
  ·exact .inr ⟨h.1.1, h.1.2, h.2⟩
 rw [blocked_eq m hA (by omega) x hxm]
 unfold freeM
 cases hs : (inWayM m x).2
 ·simp only [Bool.not_false, Bool.true_and, Bool.false_eq_true, if_false]
  exact all_set _ hg
 ·simp
def readyR (m : List Sol) (of gone : List Nat) : List Nat := of.filter fun p => (firstR m gone p).isSome && !gone.contains p
theorem readyR_set {m : List Sol} (hA : Apart m) (hm : m.length ≤ 12) {S : U} (hS : Sub S (allU m.length)) {gone : List Nat} (hg : ∀ i ∈ gone, i < 64) : readyR m (listU S) gone = listU (S &&& readyM m (setF gone)) := by
 unfold readyR
 unfold listU
 rw [List.filter_filter]
 refine List.filter_congr ?_
 intro i hi
 rw [BitVec.getLsbD_and, ready_bit m (by omega)]
 cases hb : S.getLsbD i
 ·simp
 ·have hl := hS i hb
  rw [allU_bit _ _ (by omega)] at hl
  have hl2 : i < m.length := by simpa using hl
  rw [firstR_goes hA hm hl2 hg, setF_bit gone hg, hl]
  unfold canM
  simp
end Go.Draw
end
section
namespace Go.Draw
set_option maxRecDepth 10000
/-! the reference's greedy sequence is the program's order -/
def greedyF (m : List Sol) (of : List Nat) : Nat → List Nat → List Mv → List Nat × List Mv
 | 0, g, mv => (g, mv)
 | n + 1, g, mv => match readyR m of g with
  | [] => (g, mv)
  | p :: _ => greedyF m of n (g ++ [p]) (mv ++ [(firstR m g p).getD (0, 0, 0)])
theorem setF_snoc (g : List Nat) (p : Nat) : setF (g ++ [p]) = setF g ||| bit p := by
 unfold setF; rw [List.foldl_append]; rfl
theorem setF_len {g : List Nat} (hn : g.Nodup) (hg : ∀ i ∈ g, i < 64) : g.length = cardU (setF g) := by
 unfold cardU
 refine List.Perm.length_eq ((List.perm_ext_iff_of_nodup hn (listU_nodup _)).2 fun i => ?_)
 rw [listU_mem, setF_bit g hg, List.contains_iff_mem]
theorem readyR_filter {m : List Sol} (hA : Apart m) (hm : m.length ≤ 12) {S : U} (hS : Sub S (allU m.length)) {g : List Nat} (hg : ∀ i ∈ g, i < 64) : readyR m (listU S) g = (listU (S &&& ~~~(setF g))).filter fun p => canM m p (setF g) := by
 rw [readyR_set hA hm hS hg]
 unfold listU
 rw [List.filter_filter]
 refine List.filter_congr ?_
 intro i hi
 have hi := List.mem_range.1 hi
 rw [BitVec.getLsbD_and, BitVec.getLsbD_and, BitVec.getLsbD_not, ready_bit m (by omega)]
 cases hb : S.getLsbD i
 ·simp
 ·have hl := hS i hb
  rw [allU_bit _ _ (by omega)] at hl
  rw [hl, decide_eq_true hi]
  simp
theorem nextM_head (m : List Sol) (G : U) {p : Nat} {r : List Nat} : ∀ {l : List Nat}, (l.filter fun p => canM m p G) = p :: r → ∃ x, nextM m G l = some (p, x) ∧ goesM m p G = some x
 | [], h => by cases h
 | q :: l, h => by
  unfold nextM
  cases hq : goesM m q G with
  | some y =>
   rw [List.filter_cons_of_pos (by unfold canM; rw [hq]; rfl)] at h
   cases h
   exact ⟨y, rfl, hq⟩
  | none =>
   rw [List.filter_cons_of_neg (by unfold canM; rw [hq]; simp)] at h
   exact nextM_head m G h
theorem greedy_order {m : List Sol} (hA : Apart m) (hm : m.length ≤ 12) {S : U} (hS : Sub S (allU m.length)) : ∀ (n : Nat) (g : List Nat) (mv : List Mv), g.Nodup → (∀ i ∈ g, S.getLsbD i = true) → cardU (S &&& ~~~(setF g)) ≤ n → ∀ k, cardU (S &&& ~~~(setF g)) < k →
  orderF m S k (setF g) mv = if (greedyF m (listU S) n g mv).1.length = cardU S then some (greedyF m (listU S) n g mv).2 else none := by
 have hlt : ∀ {i : Nat}, S.getLsbD i = true → i < 64 := fun h => BitVec.lt_of_getLsbD h
 have hfull : ∀ (g : List Nat) (mv : List Mv) (n : Nat), g.Nodup → (∀ i ∈ g, S.getLsbD i = true) → setF g = S → greedyF m (listU S) n g mv = (g, mv) := by
  intro g mv n hn hg e
  cases n with
  | zero => rfl
  | succ n =>
   unfold greedyF
   rw [readyR_filter hA hm hS (fun i hi => hlt (hg i hi)), e]
   have : listU (S &&& ~~~S) = [] := by
    rw [show S &&& ~~~S = 0 by simp]; exact listU_zero
   rw [this]; rfl
 intro n
 induction n with
 | zero =>
  intro g mv hn hg hc k hk
  have h64 : ∀ i ∈ g, i < 64 := fun i hi => hlt (hg i hi)
  have hsub : Sub (setF g) S := fun i hi => by
   rw [setF_bit g h64, List.contains_iff_mem] at hi
   exact hg i hi
  have e : setF g = S := by
   refine hsub.antisymm ?_
   rw [sub_iff]
   exact listU_length_zero _ (by unfold cardU at hc; omega)
  obtain ⟨k, rfl⟩ : ∃ j, k = j + 1 := ⟨k - 1, by omega⟩
  rw [hfull g mv 0 hn hg e]
  unfold orderF
  rw [if_pos e, if_pos (by rw [setF_len hn h64, e])]
 | succ n ih =>
  intro g mv hn hg hc k hk
  have h64 : ∀ i ∈ g, i < 64 := fun i hi => hlt (hg i hi)
  have hsub : Sub (setF g) S := fun i hi => by
   rw [setF_bit g h64, List.contains_iff_mem] at hi
   exact hg i hi
  obtain ⟨k, rfl⟩ : ∃ j, k = j + 1 := ⟨k - 1, by omega⟩
  by_cases e : setF g = S
  ·rw [hfull g mv (n + 1) hn hg e]
   unfold orderF
   rw [if_pos e, if_pos (by rw [setF_len hn h64, e])]
  ·have hrf := readyR_filter hA hm hS h64
   unfold orderF
   rw [if_neg e]
   unfold greedyF
   cases hr : readyR m (listU S) g with
   | nil =>
    rw [hr] at hrf
    have hnone : nextM m (setF g) (listU (S &&& ~~~(setF g))) = none := by
     rw [nextM_none]
     intro p hp
     cases hc : canM m p (setF g)
     ·rfl
     ·have : p ∈ (listU (S &&& ~~~(setF g))).filter fun p => canM m p (setF g) := List.mem_filter.2 ⟨hp, hc⟩
      rw [← hrf] at this; cases this
    rw [hnone]
    simp only
    rw [if_neg]
    intro hl
    rw [setF_len hn h64] at hl
    exact e (sub_card_eq hsub (by omega))
   | cons p r =>
    rw [hr] at hrf
    obtain ⟨x, hx, hgo⟩ := nextM_head m (setF g) hrf.symm
    have hp : p ∈ listU (S &&& ~~~(setF g)) := (List.mem_filter.1 (by rw [← hrf]; simp)).1
    rw [listU_mem, BitVec.getLsbD_and, BitVec.getLsbD_not, Bool.and_eq_true] at hp
    have hp64 := hlt hp.1
    have hpG : (setF g).getLsbD p = false := by
     have := hp.2
     rw [decide_eq_true hp64] at this
     simpa using this
    have hpl : p < m.length := by
     have := hS p hp.1
     rw [allU_bit _ _ (by omega)] at this
     simpa using this
    have hfr : firstR m g p = some x := by rw [firstR_goes hA hm hpl h64]; exact hgo
    rw [hx]
    simp only [hfr, Option.getD_some]
    have hca := card_add hp.1 hpG
    rw [← setF_snoc] at hca ⊢
    refine ih (g ++ [p]) (mv ++ [x]) ?_ ?_ (by omega) k (by omega)
    ·rw [List.nodup_append]
     refine ⟨hn, by simp, fun a ha b hb => ?_⟩
     rw [List.mem_singleton.1 hb]
     rintro rfl
     rw [setF_bit g h64] at hpG
     have := List.contains_iff_mem.2 ha
     rw [this] at hpG; cases hpG
    ·intro i hi
     rcases List.mem_append.1 hi with h | h
     ·exact hg i h
     ·rw [List.mem_singleton.1 h]; exact hp.1
/-- Draw, and whether a set comes first -/
theorem greedy_all {m : List Sol} (hA : Apart m) (hm : m.length ≤ 12) {S : U} (hS : Sub S (allU m.length)) : orderM m S = if (greedyF m (listU S) 12 [] []).1.length = cardU S then some (greedyF m (listU S) 12 [] []).2 else none := by
 have h12 := card_sub hm hS
 have e : S &&& ~~~(setF []) = S := by
  show S &&& ~~~(0 : U) = S
  apply BitVec.eq_of_getLsbD_eq
  intro i hi
  rw [BitVec.getLsbD_and, BitVec.getLsbD_not]
  simp [hi]
 have := greedy_order hA hm hS 12 [] [] (by simp) (by simp) (by rw [e]; exact h12) 13 (by rw [e]; omega)
 exact this
end Go.Draw
end
section
namespace Go.Draw
set_option maxRecDepth 10000
/-! the reference's Lock, First, CheckLock -/
theorem setF_list (S : U) : setF (listU S) = S := by
 apply BitVec.eq_of_getLsbD_eq
 intro i hi
 rw [setF_bit _ (fun j hj => BitVec.lt_of_getLsbD ((listU_mem _ _).1 hj)), Bool.eq_iff_iff, List.contains_iff_mem, listU_mem]
/-- a set comes first -/
theorem comes_ref {m : List Sol} (hA : Apart m) (hm : m.length ≤ 12) {S : U} (hS : Sub S (allU m.length)) : ((greedyF m (listU S) 12 [] []).1.length == (listU S).length) = firstM m S := by
 unfold firstM
 rw [greedy_all hA hm hS]
 show (_ == cardU S) = _
 by_cases h : (greedyF m (listU S) 12 [] []).1.length = cardU S
 ·rw [if_pos h, h]; simp
 ·rw [if_neg h]; simpa using h
/-- where the reference's sequence ends, none of the set can go any more -/
theorem greedy_end {m : List Sol} (hA : Apart m) (hm : m.length ≤ 12) {S : U} (hS : Sub S (allU m.length)) : ∀ (n : Nat) (g : List Nat) (mv : List Mv), g.Nodup → (∀ i ∈ g, S.getLsbD i = true) → Fe (canM m) (setF g) → cardU (S &&& ~~~(setF g)) ≤ n →
  (greedyF m (listU S) n g mv).1.Nodup ∧ (∀ i ∈ (greedyF m (listU S) n g mv).1, S.getLsbD i = true) ∧ Fe (canM m) (setF (greedyF m (listU S) n g mv).1) ∧ S &&& readyM m (setF (greedyF m (listU S) n g mv).1) = 0 := by
 have hlt : ∀ {i : Nat}, S.getLsbD i = true → i < 64 := fun h => BitVec.lt_of_getLsbD h
 intro n
 induction n with
 | zero =>
  intro g mv hn hg hF hc
  have h64 : ∀ i ∈ g, i < 64 := fun i hi => hlt (hg i hi)
  have h0 : S &&& ~~~(setF g) = 0 := listU_length_zero _ (by unfold cardU at hc; omega)
  refine ⟨hn, hg, hF, ?_⟩
  apply BitVec.eq_of_getLsbD_eq
  intro i hi
  rw [BitVec.getLsbD_and, ready_bit m (by omega)]
  have := congrArg (fun z : U => z.getLsbD i) h0
  simp only [BitVec.getLsbD_and, BitVec.getLsbD_not, hi, decide_true, Bool.true_and] at this
  have h1 : (S.getLsbD i && !(setF g).getLsbD i) = false := by simpa using this
  show (S.getLsbD i && (_ && !(setF g).getLsbD i)) = (0 : U).getLsbD i
  cases hb : S.getLsbD i
  ·simp
  ·rw [hb] at h1
   rw [show (!(setF g).getLsbD i) = false by simpa using h1]
   simp
 | succ n ih =>
  intro g mv hn hg hF hc
  have h64 : ∀ i ∈ g, i < 64 := fun i hi => hlt (hg i hi)
  have hrf := readyR_filter hA hm hS h64
  have hrs := readyR_set hA hm hS h64
  unfold greedyF
  cases hr : readyR m (listU S) g with
  | nil =>
   rw [hr] at hrs
   exact ⟨hn, hg, hF, listU_length_zero _ (by rw [← hrs]; rfl)⟩
  | cons p r =>
   rw [hr] at hrf
   have hpf : p ∈ (listU (S &&& ~~~(setF g))).filter fun p => canM m p (setF g) := by rw [← hrf]; simp
   obtain ⟨hp, hcan⟩ := List.mem_filter.1 hpf
   rw [listU_mem, BitVec.getLsbD_and, BitVec.getLsbD_not, Bool.and_eq_true] at hp
   have hp64 := hlt hp.1
   have hpG : (setF g).getLsbD p = false := by
    have := hp.2
    rw [decide_eq_true hp64] at this
    simpa using this
   have hca := card_add hp.1 hpG
   rw [← setF_snoc] at hca
   refine ih (g ++ [p]) _ ?_ ?_ (by rw [setF_snoc]; exact .add hF hp64 hpG hcan) (by omega)
   ·rw [List.nodup_append]
    refine ⟨hn, by simp, fun a ha b hb => ?_⟩
    rw [List.mem_singleton.1 hb]
    rintro rfl
    rw [setF_bit g h64] at hpG
    have := List.contains_iff_mem.2 ha
    rw [this] at hpG; cases hpG
   ·intro i hi
    rcases List.mem_append.1 hi with h | h
    ·exact hg i h
    ·rw [List.mem_singleton.1 h]; exact hp.1
/-- all that goes -/
theorem greedy_last {m : List Sol} (hA : Apart m) (hm : m.length ≤ 12) : setF (greedyF m (listU (allU m.length)) 12 [] []).1 = lastR m := by
 have e : allU m.length &&& ~~~(setF []) = allU m.length := by
  show allU m.length &&& ~~~(0 : U) = allU m.length
  apply BitVec.eq_of_getLsbD_eq
  intro i hi
  rw [BitVec.getLsbD_and, BitVec.getLsbD_not]
  simp [hi]
 obtain ⟨h1, h2, h3, h4⟩ := greedy_end hA hm (Sub.refl (allU m.length)) 12 [] [] (by simp) (by simp) .zero (by rw [e, card_all _ hm]; exact hm)
 obtain ⟨G, hG⟩ : ∃ G, G = setF (greedyF m (listU (allU m.length)) 12 [] []).1 := ⟨_, rfl⟩
 have hsub : Sub G (allU m.length) := fun i hi => by
  rw [hG, setF_bit _ (fun j hj => BitVec.lt_of_getLsbD (h2 j hj)), List.contains_iff_mem] at hi
  exact h2 i hi
 rw [← hG] at h3 h4 ⊢
 have hr0 : readyM m G = 0 := by
  apply BitVec.eq_of_getLsbD_eq
  intro i hi
  have := congrArg (fun z : U => z.getLsbD i) h4
  simp only [BitVec.getLsbD_and] at this
  cases hb : (readyM m G).getLsbD i
  ·simp
  ·have ha := ready_bit m (by omega) G i
   rw [hb] at ha
   have hl : i < m.length := by
    have := ha.symm
    simp only [Bool.and_eq_true, decide_eq_true_eq] at this
    exact this.1.1
   rw [hb, allU_bit _ _ (by omega), decide_eq_true hl] at this
   simp at this
 have hst : stepR m G = G := step_fix hm hr0
 have hrep : ∀ k, Nat.repeat (stepR m) k G = G := by
  intro k
  induction k with
  | zero => rfl
  | succ k ih => show stepR m (Nat.repeat (stepR m) k G) = G; rw [ih, hst]
 rw [← begun_last hm hsub h3, hrep]
/-- CheckLock -/
theorem locked_ref {m : List Sol} (hA : Apart m) (hm : m.length ≤ 12) {S : U} (hS : Sub S (allU m.length)) : (!(listU S).isEmpty && (readyR m (listU S) (listU (allU m.length &&& ~~~S))).isEmpty) = locksM m S := by
 rw [readyR_set hA hm hS (fun j hj => BitVec.lt_of_getLsbD ((listU_mem _ _).1 hj)), setF_list]
 have hz : ∀ T : U, (listU T).isEmpty = (T == 0) := fun T => by
  rw [Bool.eq_iff_iff, List.isEmpty_iff, beq_iff_eq]
  constructor
  ·intro h; exact listU_length_zero T (by rw [h]; rfl)
  ·rintro rfl; exact listU_zero
 rw [hz, hz]
 unfold locksM
 congr 1
 have : S &&& readyM m (allU m.length &&& ~~~S) = readyM m (allU m.length &&& ~~~S) := by
  apply BitVec.eq_of_getLsbD_eq
  intro i hi
  rw [BitVec.getLsbD_and, ready_bit m (by omega), BitVec.getLsbD_and, BitVec.getLsbD_not]
  cases hb : S.getLsbD i
  ·by_cases hl : i < m.length
   ·rw [allU_bit _ _ (by omega), decide_eq_true hl]; simp [hi]
   ·rw [decide_eq_false hl]; simp
  ·simp
 rw [this]
end Go.Draw
end
section
namespace Go.Draw
set_option maxRecDepth 10000
/-! the reference's Needs -/
/-- the pieces of a set that go, as the reference finds them -/
def goR (m : List Sol) (S : U) : List Nat := (greedyF m (listU S) 12 [] []).1
theorem go_top {m : List Sol} (hA : Apart m) (hm : m.length ≤ 12) {S : U} (hS : Sub S (allU m.length)) : Fe (canM m) (setF (goR m S)) ∧ Sub (setF (goR m S)) S ∧ (∀ i, (setF (goR m S)).getLsbD i = (goR m S).contains i) ∧ ∀ F, Sub F S → Fe (canM m) F → Sub F (setF (goR m S)) := by
 have e : S &&& ~~~(setF []) = S := by
  show S &&& ~~~(0 : U) = S
  apply BitVec.eq_of_getLsbD_eq
  intro i hi
  rw [BitVec.getLsbD_and, BitVec.getLsbD_not]
  simp [hi]
 obtain ⟨h1, h2, h3, h4⟩ := greedy_end hA hm hS 12 [] [] (by simp) (by simp) .zero (by rw [e]; exact card_sub hm hS)
 have hb : ∀ i, (setF (goR m S)).getLsbD i = (goR m S).contains i := fun i => setF_bit _ (fun j hj => BitVec.lt_of_getLsbD (h2 j hj)) i
 refine ⟨h3, fun i hi => ?_, hb, fun F hFS hF => ?_⟩
 ·rw [hb, List.contains_iff_mem] at hi
  exact h2 i hi
 ·rcases hF.next (canM_mono m) (setF (goR m S)) with h | ⟨p, hp, g1, g2, g3⟩
  ·exact h
  ·have hpS := hFS p g1
   have hpl := hS p hpS
   rw [allU_bit _ _ (by omega)] at hpl
   have := congrArg (fun z : U => z.getLsbD p) h4
   have hr := ready_bit m (by omega) (setF (goR m S)) p
   rw [hpl, g2, g3] at hr
   simp only [BitVec.getLsbD_and] at this
   rw [hpS] at this
   have h5 : (readyM m (setF (goR m S))).getLsbD p = false := by simpa [goR] using this
   rw [hr] at h5
   simp at h5
theorem stuck_ref {m : List Sol} (hA : Apart m) (hm : m.length ≤ 12) {p : Nat} : (goR m (allU m.length)).contains p = !(pathsM m p).isEmpty := by
 obtain ⟨h1, h2, h3, h4⟩ := go_top hA hm (Sub.refl (allU m.length))
 rw [← h3, Bool.eq_iff_iff, Bool.not_eq_true', List.isEmpty_eq_false_iff]
 constructor
 ·intro h
  obtain ⟨l, hl, _⟩ := paths_below hm h2 h h1
  intro h0
  rw [h0] at hl; cases hl
 ·intro h
  obtain ⟨l, hl⟩ := List.exists_mem_of_ne_nil _ h
  obtain ⟨g1, g2, g3⟩ := paths_mem hm hl
  exact h4 l g1 g3 p g2
theorem needs_ref {m : List Sol} (hA : Apart m) (hm : m.length ≤ 12) {p q : Nat} (hp : p < m.length) (hq : q < m.length) (hne : q ≠ p) : (needsU m p).getLsbD q = !(goR m (allU m.length &&& ~~~(bit q))).contains p := by
 have hsub : Sub (allU m.length &&& ~~~(bit q)) (allU m.length) := sub_andnot _ _
 obtain ⟨h1, h2, h3, h4⟩ := go_top hA hm hsub
 rw [needs_bit hm hq hp, ← h3, Bool.eq_iff_iff, Bool.and_eq_true, Bool.not_eq_true', List.all_eq_true]
 constructor
 ·rintro ⟨_, h⟩
  cases hc : (setF (goR m (allU m.length &&& ~~~(bit q)))).getLsbD p
  ·rfl
  ·obtain ⟨l, hl, hls⟩ := paths_below hm (h2.trans hsub) hc h1
   have := h2 q (hls q (h l hl))
   rw [andnot_bit, bit_bit _ _ (by omega)] at this
   simp at this
 ·intro h
  refine ⟨by simpa using hne, fun l hl => ?_⟩
  obtain ⟨g1, g2, g3⟩ := paths_mem hm hl
  cases hc : l.getLsbD q
  ·have : Sub l (allU m.length &&& ~~~(bit q)) := fun i hi => by
    rw [andnot_bit, g1 i hi, bit_bit _ _ (by omega)]
    have : i ≠ q := by rintro rfl; rw [hi] at hc; cases hc
    simp [this]
   have := h4 l this g3 p g2
   rw [h] at this; cases this
  ·rfl
end Go.Draw
end
section
namespace Go.Draw
set_option maxRecDepth 10000
/-! the reference's LeastLock -/
/-- before, of lists of one length: the first place where they differ -/
def lexL : List Nat → List Nat → Bool
 | a :: l, b :: k => if a = b then lexL l k else decide (a < b)
 | _, _ => false
def beforeL (a b : List Nat) : Bool := if a.length = b.length then lexL a b else decide (a.length < b.length)
theorem lexL_cmp : ∀ a b : List Nat, a.length = b.length → lexL a b = decide (cmpN a b < 0)
 | [], [], _ => rfl
 | [], _ :: _, h => by cases h
 | _ :: _, [], h => by cases h
 | a :: l, b :: k, h => by
  have ih := lexL_cmp l k (by simpa using h)
  unfold lexL cmpN
  by_cases e : a = b
  ·subst e
   rw [if_pos rfl, if_neg (Nat.lt_irrefl _), if_neg (Nat.lt_irrefl _)]; exact ih
  ·rw [if_neg e]
   by_cases h1 : a < b
   ·rw [if_pos h1, decide_eq_true h1]; rfl
   ·rw [if_neg h1, if_pos (by omega), decide_eq_false h1]; rfl
theorem before_cmp (a b : U) : beforeL (listU a) (listU b) = decide (cmpU a b < 0) := by
 unfold beforeL cmpU
 by_cases h : (listU a).length = (listU b).length
 ·rw [if_pos h, if_neg (by omega), if_neg (by omega)]; exact lexL_cmp _ _ h
 ·rw [if_neg h]
  by_cases h1 : (listU a).length < (listU b).length
  ·rw [if_pos h1, decide_eq_true h1]; rfl
  ·rw [if_neg h1, if_pos (by omega), decide_eq_false h1]; rfl
/-- the best so far -/
def bestF (c : U → Bool) : List U → Option U → Option U
 | [], b => b
 | S :: l, b => bestF c l (if (match b with
   | none => true
   | some t => beforeL (listU S) (listU t)) && c S then some S else b)
theorem best_some (c : U → Bool) : ∀ (l : List U) (t : U), c t = true → ∃ b, bestF c l (some t) = some b ∧ c b = true ∧ (b = t ∨ b ∈ l) ∧ cmpU b t ≤ 0 ∧ ∀ T ∈ l, c T = true → cmpU b T ≤ 0
 | [], t, ht => ⟨t, rfl, ht, .inl rfl, by rw [cmpU_refl]; omega, fun T h => by cases h⟩
 | S :: l, t, ht => by
  unfold bestF
  simp only [before_cmp]
  by_cases h : cmpU S t < 0 ∧ c S = true
  ·rw [decide_eq_true h.1, h.2]
   obtain ⟨b, h1, h2, h3, h4, h5⟩ := best_some c l S h.2
   refine ⟨b, h1, h2, ?_, cmpU_trans h4 (by omega), fun T hT hc => ?_⟩
   ·rcases h3 with rfl | h3
    ·exact .inr (by simp)
    ·exact .inr (by simp [h3])
   ·rcases List.mem_cons.1 hT with rfl | hT
    ·exact h4
    ·exact h5 T hT hc
  ·have hf : (decide (cmpU S t < 0) && c S) = false := by
    cases hc : c S
    ·simp
    ·rw [Bool.and_true]; exact decide_eq_false (fun h1 => h ⟨h1, hc⟩)
   rw [hf]
   obtain ⟨b, h1, h2, h3, h4, h5⟩ := best_some c l t ht
   refine ⟨b, h1, h2, ?_, h4, fun T hT hc => ?_⟩
   ·rcases h3 with rfl | h3
    ·exact .inl rfl
    ·exact .inr (by simp [h3])
   ·rcases List.mem_cons.1 hT with rfl | hT
    ·have : ¬ cmpU T t < 0 := fun h1 => h ⟨h1, hc⟩
     exact cmpU_trans h4 (by rw [cmpU_anti]; omega)
    ·exact h5 T hT hc
theorem best_none (c : U → Bool) : ∀ l : List U, (bestF c l none = none ∧ ∀ T ∈ l, c T = false) ∨ ∃ b, bestF c l none = some b ∧ c b = true ∧ b ∈ l ∧ ∀ T ∈ l, c T = true → cmpU b T ≤ 0
 | [] => .inl ⟨rfl, fun T h => by cases h⟩
 | S :: l => by
  unfold bestF
  simp only [Bool.true_and]
  cases hc : c S
  ·rcases best_none c l with ⟨h1, h2⟩ | ⟨b, h1, h2, h3, h4⟩
   ·refine .inl ⟨h1, fun T hT => ?_⟩
    rcases List.mem_cons.1 hT with rfl | hT
    ·exact hc
    ·exact h2 T hT
   ·refine .inr ⟨b, h1, h2, by simp [h3], fun T hT hT2 => ?_⟩
    rcases List.mem_cons.1 hT with rfl | hT
    ·rw [hc] at hT2; cases hT2
    ·exact h4 T hT hT2
  ·obtain ⟨b, h1, h2, h3, h4, h5⟩ := best_some c l S hc
   refine .inr ⟨b, h1, h2, ?_, fun T hT hT2 => ?_⟩
   ·rcases h3 with rfl | h3
    ·simp
    ·simp [h3]
   ·rcases List.mem_cons.1 hT with rfl | hT
    ·exact h4
    ·exact h5 T hT hT2
/-- the sets by number, but the empty one -/
def numsL (n : Nat) : List U := (List.range' 1 (2 ^ n - 1)).map (BitVec.ofNat 64)
theorem sub_lt {n : Nat} (hn : n ≤ 12) (S : U) : Sub S (allU n) ↔ S.toNat < 2 ^ n := by
 constructor
 ·intro h
  apply Nat.lt_pow_two_of_testBit
  intro i hi
  cases hb : S.toNat.testBit i
  ·rfl
  ·have := h i hb
   rw [allU_bit _ _ (by omega)] at this
   have : i < n := by simpa using this
   omega
 ·intro h i hi
  rw [allU_bit _ _ (by omega)]
  have : i < n := by
   apply Classical.byContradiction
   intro hc
   have h1 : S.toNat < 2 ^ i := Nat.lt_of_lt_of_le h (Nat.pow_le_pow_right (by omega) (by omega))
   have h2 : S.toNat.testBit i = false := Nat.testBit_lt_two_pow h1
   have h3 : S.toNat.testBit i = true := hi
   rw [h2] at h3; cases h3
  simpa using this
theorem mem_nums {n : Nat} (hn : n ≤ 12) (S : U) : S ∈ numsL n ↔ S ≠ 0 ∧ Sub S (allU n) := by
 unfold numsL
 rw [sub_lt hn, List.mem_map]
 have hp : 2 ^ n ≤ 4096 := Nat.le_trans (Nat.pow_le_pow_right (by omega) hn) (by decide)
 constructor
 ·rintro ⟨k, hk, rfl⟩
  rw [List.mem_range'_1] at hk
  have e : (BitVec.ofNat 64 k).toNat = k := by rw [BitVec.toNat_ofNat]; omega
  refine ⟨fun h => ?_, by rw [e]; omega⟩
  have := congrArg BitVec.toNat h
  rw [e] at this
  have h0 : (0 : U).toNat = 0 := rfl
  omega
 ·rintro ⟨h0, h⟩
  refine ⟨S.toNat, ?_, by simp⟩
  rw [List.mem_range'_1]
  have : S.toNat ≠ 0 := fun h1 => h0 (BitVec.eq_of_toNat_eq (by rw [h1]; rfl))
  omega
theorem leastLock_ref {m : List Sol} (hm : m.length ≤ 12) : bestF (locksM m) (numsL m.length) none = leastLockM m := by
 have hz : ∀ T, locksM m T = true → T ≠ 0 := fun T h => by
  unfold locksM at h
  rw [Bool.and_eq_true, bne_iff_ne] at h
  exact h.1
 have hs := sortU_sorted ((setsL m.length 0 0).filter (locksM m))
 have hp := sortU_perm ((setsL m.length 0 0).filter (locksM m))
 unfold leastLockM
 generalize sortU ((setsL m.length 0 0).filter (locksM m)) = L at hs hp
 rcases best_none (locksM m) (numsL m.length) with ⟨h1, h2⟩ | ⟨b, h1, h2, h3, h4⟩
 ·rw [h1]
  cases L with
  | nil => rfl
  | cons a L =>
   have ha := hp.mem_iff.1 (List.mem_cons_self)
   rw [List.mem_filter, mem_sets _ (by omega)] at ha
   have := h2 a ((mem_nums hm a).2 ⟨hz a ha.2, ha.1⟩)
   rw [ha.2] at this; cases this
 ·rw [h1]
  have hbL : b ∈ L := hp.mem_iff.2 (List.mem_filter.2 ⟨(mem_sets _ (by omega) _).2 ((mem_nums hm b).1 h3).2, h2⟩)
  cases L with
  | nil => cases hbL
  | cons a L =>
   have ha := hp.mem_iff.1 (List.mem_cons_self)
   rw [List.mem_filter, mem_sets _ (by omega)] at ha
   have h5 := h4 a ((mem_nums hm a).2 ⟨hz a ha.2, ha.1⟩) ha.2
   have h6 : cmpU a b ≤ 0 := by
    rcases List.mem_cons.1 hbL with rfl | h
    ·rw [cmpU_refl]; omega
    ·exact (List.pairwise_cons.1 hs).1 b h
   have : cmpU b a = 0 := by
    have := cmpU_anti a b
    omega
   rw [cmpU_eq this]; rfl
end Go.Draw
end
section
namespace Go.Draw
set_option maxRecDepth 10000
/-! the reference's Paths -/
def insR (x : U) : List U → List U
 | [] => [x]
 | b :: l => if beforeL (listU b) (listU x) then b :: insR x l else x :: b :: l
theorem insR_eq (x : U) : ∀ l, insR x l = insU x l
 | [] => rfl
 | b :: l => by
  unfold insR insU
  rw [before_cmp, insR_eq x l]
  by_cases h : cmpU x b ≤ 0
  ·rw [if_pos h, decide_eq_false (by rw [cmpU_anti x b]; omega)]; rfl
  ·rw [if_neg h, decide_eq_true (by rw [cmpU_anti x b]; omega)]; rfl
theorem ins_fold : ∀ (l out : List U), SortedU out → SortedU (l.foldl (fun o x => insR x o) out) ∧ (l.foldl (fun o x => insR x o) out).Perm (l ++ out)
 | [], out, h => ⟨h, List.Perm.refl _⟩
 | x :: l, out, h => by
  rw [List.foldl_cons, insR_eq]
  obtain ⟨h1, h2⟩ := ins_fold l (insU x out) (insU_sorted x out h)
  refine ⟨h1, h2.trans ?_⟩
  exact ((List.Perm.append_left l (insU_perm x out)).trans List.perm_middle)
theorem least_sub : ∀ (L out : List U), ∃ l, L.foldl leastStep out = out ++ l ∧ l.Sublist L
 | [], out => ⟨[], by simp, List.Sublist.refl _⟩
 | s :: L, out => by
  rw [List.foldl_cons]
  by_cases h : leastStep out s = out
  ·rw [h]
   obtain ⟨l, h1, h2⟩ := least_sub L out
   exact ⟨l, h1, h2.cons s⟩
  ·have e : leastStep out s = out ++ [s] := by
    unfold leastStep at h ⊢
    split
    ·rename_i hc; rw [if_pos hc] at h; exact absurd rfl h
    ·rfl
   rw [e]
   obtain ⟨l, h1, h2⟩ := least_sub L (out ++ [s])
   exact ⟨s :: l, by rw [h1]; simp, h2.cons_cons s⟩
theorem paths_sorted (m : List Sol) (p : Nat) : SortedU (pathsM m p) := by
 rw [paths_eq]
 obtain ⟨l, h1, h2⟩ := least_sub (sortU ((setsL m.length 0 0).filter fun s => s.getLsbD p && firstM m s)) []
 rw [h1, List.nil_append]
 exact List.Pairwise.sublist h2 (sortU_sorted _)
/-- the sets that come first and have a piece, by number -/
def goodL (m : List Sol) (p : Nat) : List U := (numsL m.length).filter fun S => S.getLsbD p && firstM m S
def leastR (good : List U) (S : U) : Bool := good.all fun T => T == S || !subB T S
theorem nums_nodup {n : Nat} (hn : n ≤ 12) : (numsL n).Nodup := by
 unfold numsL
 have hp : 2 ^ n ≤ 4096 := Nat.le_trans (Nat.pow_le_pow_right (by omega) hn) (by decide)
 refine List.Pairwise.map _ (fun a b h => h) (List.Pairwise.imp_of_mem ?_ (List.nodup_range' (s := 1) (n := 2 ^ n - 1)))
 intro a b ha hb hab he
 rw [List.mem_range'_1] at ha hb
 have := congrArg BitVec.toNat he
 rw [BitVec.toNat_ofNat, BitVec.toNat_ofNat] at this
 omega
theorem mem_good {m : List Sol} (hm : m.length ≤ 12) {p : Nat} (S : U) : S ∈ goodL m p ↔ Sub S (allU m.length) ∧ S.getLsbD p = true ∧ Fe (canM m) S := by
 unfold goodL
 rw [List.mem_filter, mem_nums hm, Bool.and_eq_true]
 constructor
 ·rintro ⟨⟨_, h1⟩, h2, h3⟩
  exact ⟨h1, h2, (first_iff m hm S h1).1 h3⟩
 ·rintro ⟨h1, h2, h3⟩
  refine ⟨⟨?_, h1⟩, h2, (first_iff m hm S h1).2 h3⟩
  rintro rfl
  simp at h2
theorem paths_ref {m : List Sol} (hm : m.length ≤ 12) (p : Nat) : ((goodL m p).filter (leastR (goodL m p))).foldl (fun o x => insR x o) [] = pathsM m p := by
 obtain ⟨h1, h2⟩ := ins_fold ((goodL m p).filter (leastR (goodL m p))) [] List.Pairwise.nil
 rw [List.append_nil] at h2
 have hperm : ((goodL m p).filter (leastR (goodL m p))).Perm (pathsM m p) := by
  refine (List.perm_ext_iff_of_nodup ?_ (paths_nodup m p)).2 fun S => ?_
  ·exact ((nums_nodup hm).filter _).filter _
  ·rw [List.mem_filter, mem_good hm]
   unfold leastR
   rw [List.all_eq_true]
   constructor
   ·rintro ⟨⟨g1, g2, g3⟩, g4⟩
    obtain ⟨l, hl, hls⟩ := paths_below hm g1 g2 g3
    obtain ⟨k1, k2, k3⟩ := paths_mem hm hl
    have := g4 l ((mem_good hm l).2 ⟨k1, k2, k3⟩)
    rw [(subB_iff _ _).2 hls] at this
    have e : l = S := by simpa using this
    rw [← e]; exact hl
   ·intro hS
    obtain ⟨k1, k2, k3⟩ := paths_mem hm hS
    refine ⟨⟨k1, k2, k3⟩, fun T hT => ?_⟩
    obtain ⟨g1, g2, g3⟩ := (mem_good hm T).1 hT
    by_cases e : T = S
    ·simp [e]
    ·have : subB T S = false := by
      rw [subB_not]
      intro hs
      obtain ⟨l, hl, hls⟩ := paths_below hm g1 g2 g3
      have := paths_anti l hl S hS (hls.trans hs)
      subst this
      exact e (hs.antisymm hls)
     rw [this]; simp
 have e1 := sortU_of (h2.trans hperm) h1
 have e2 := sortU_of (List.Perm.refl (pathsM m p)) (paths_sorted m p)
 rw [e1, ← e2]
end Go.Draw
end
section
namespace Go.Draw
set_option maxRecDepth 10000
/-! the reference's lists of pieces; Last, Rounds -/
theorem listU_range {n : Nat} (hn : n ≤ 12) {S : U} (h : Sub S (allU n)) : listU S = (List.range n).filter fun i => S.getLsbD i := by
 unfold listU
 have hR : List.range 64 = List.range n ++ (List.range (64 - n)).map (n + ·) := by
  rw [← List.range_add]; congr 1; omega
 rw [hR, List.filter_append]
 have : ((List.range (64 - n)).map (n + ·)).filter (fun i => S.getLsbD i) = [] := by
  rw [List.filter_eq_nil_iff]
  intro i hi
  obtain ⟨j, hj, rfl⟩ := List.mem_map.1 hi
  intro hb
  have := h _ hb
  rw [allU_bit _ _ (by omega)] at this
  have : n + j < n := by simpa using this
  omega
 rw [this, List.append_nil]
theorem all_list {n : Nat} (hn : n ≤ 12) : listU (allU n) = List.range n := by
 rw [listU_range hn (Sub.refl _)]
 refine List.filter_eq_self.2 fun i hi => ?_
 rw [allU_bit _ _ (by omega)]
 simpa using List.mem_range.1 hi
theorem others_list {n p : Nat} (hn : n ≤ 12) : listU (allU n &&& ~~~(bit p)) = othersL n p := by
 rw [listU_range hn (sub_andnot _ _)]
 unfold othersL
 refine List.filter_congr fun i hi => ?_
 have hi := List.mem_range.1 hi
 rw [andnot_bit, allU_bit _ _ (by omega), decide_eq_true hi, Bool.true_and]
 by_cases hp : p < 64
 ·rw [bit_bit _ _ hp]
  by_cases e : i = p <;> simp [e]
 ·have : (bit p).getLsbD i = false := by
   unfold bit
   rw [BitVec.getLsbD_shiftLeft]
   simp [show i < p by omega]
  rw [this]
  have : i ≠ p := by omega
  simp [this]
theorem left_list {n : Nat} (hn : n ≤ 12) {l : List Nat} (hl : ∀ i ∈ l, i < 64) : listU (allU n &&& ~~~(setF l)) = (List.range n).filter fun i => !l.contains i := by
 rw [listU_range hn (sub_andnot _ _)]
 refine List.filter_congr fun i hi => ?_
 have hi := List.mem_range.1 hi
 rw [andnot_bit, allU_bit _ _ (by omega), decide_eq_true hi, Bool.true_and, setF_bit l hl]
/-- Last -/
theorem last_ref (m : List Sol) : ((List.range m.length).filter fun p => firstM m (allU m.length) && firstM m (allU m.length &&& ~~~(bit p))) = lastM m := by
 unfold lastM
 cases firstM m (allU m.length)
 ·simp
 ·simp
theorem setF_append {g l : List Nat} (hg : ∀ i ∈ g, i < 64) (hl : ∀ i ∈ l, i < 64) : setF (g ++ l) = setF g ||| setF l := by
 apply BitVec.eq_of_getLsbD_eq
 intro i _
 rw [BitVec.getLsbD_or, setF_bit g hg, setF_bit l hl, setF_bit (g ++ l) (fun j hj => (List.mem_append.1 hj).elim (hg j) (hl j)), Bool.eq_iff_iff, Bool.or_eq_true, List.contains_iff_mem, List.contains_iff_mem, List.contains_iff_mem, List.mem_append]
theorem ready_all' {m : List Sol} (hm : m.length ≤ 12) (G : U) : Sub (readyM m G) (allU m.length) := fun i hi => by
 rw [ready_bit m (by omega)] at hi
 rw [allU_bit _ _ (by omega)]
 simp only [Bool.and_eq_true] at hi
 exact hi.1.1
/-- Rounds -/
def roundsR (m : List Sol) : Nat → List Nat → List (List Nat) → List (List Nat)
 | 0, _, out => out
 | n + 1, g, out => if (readyR m (listU (allU m.length)) g).isEmpty then out else roundsR m n (g ++ readyR m (listU (allU m.length)) g) (out ++ [readyR m (listU (allU m.length)) g])
theorem rounds_ref {m : List Sol} (hA : Apart m) (hm : m.length ≤ 12) : ∀ (n : Nat) (g : List Nat) (out : List (List Nat)), (∀ i ∈ g, i < 64) → roundsR m n g out = (roundsF m n (setF g) out).1
 | 0, _, _, _ => rfl
 | n + 1, g, out, hg => by
  have hr : readyR m (listU (allU m.length)) g = listU (readyM m (setF g)) := by
   rw [readyR_set hA hm (Sub.refl _) hg]
   congr 1
   apply BitVec.eq_of_getLsbD_eq
   intro i _
   rw [BitVec.getLsbD_and]
   cases hb : (readyM m (setF g)).getLsbD i
   ·simp
   ·rw [ready_all' hm _ i hb]; rfl
  unfold roundsR roundsF
  rw [hr]
  have hl : ∀ i ∈ listU (readyM m (setF g)), i < 64 := fun i hi => BitVec.lt_of_getLsbD ((listU_mem _ _).1 hi)
  by_cases h0 : readyM m (setF g) = 0
  ·rw [if_pos h0, h0, listU_zero]; rfl
  ·have hne : (listU (readyM m (setF g))).isEmpty = false := by
    rw [List.isEmpty_eq_false_iff]
    intro h
    exact h0 (listU_length_zero _ (by rw [h]; rfl))
   rw [if_neg h0, hne]
   simp only [Bool.false_eq_true, if_false]
   rw [rounds_ref hA hm n _ _ (fun i hi => (List.mem_append.1 hi).elim (hg i) (hl i)), setF_append hg hl, setF_list]
end Go.Draw
end
section
namespace Go.Draw
set_option maxRecDepth 10000
/-! the reference's CheckOrder -/
def checkR (m : List Sol) : List MvI → List Nat → Bool
 | [], _ => true
 | x :: l, g => if (decide (0 ≤ x.1) && decide (x.1 < m.length) && isMoveI x.2.1 x.2.2) && !g.contains x.1.toNat && (standM m (intsL g) (natMv x)).isNone then checkR m l (g ++ [x.1.toNat]) else false
theorem check_ref {m : List Sol} (hA : Apart m) (hm : m.length ≤ 12) : ∀ (l : List MvI) (g : List Nat), (∀ i ∈ g, i < 64) → checkR m l g = (madeF m l (setF g)).isSome
 | [], _, _ => rfl
 | x :: l, g, hg => by
  unfold checkR madeF
  have key : ((decide (0 ≤ x.1) && decide (x.1 < m.length) && isMoveI x.2.1 x.2.2) && !g.contains x.1.toNat && (standM m (intsL g) (natMv x)).isNone) = goesI m x (setF g) := by
   unfold goesI
   by_cases h : (0 ≤ x.1 ∧ x.1 < m.length) ∧ isMoveI x.2.1 x.2.2 = true
   ·obtain ⟨⟨h1, h2⟩, h3⟩ := h
    have hx : IsMv m.length (natMv x) := by
     refine ⟨by unfold natMv; show x.1.toNat < m.length; omega, ?_⟩
     unfold isMoveI at h3
     simp only [Bool.or_eq_true, Bool.and_eq_true, beq_iff_eq, decide_eq_true_eq] at h3
     unfold natMv
     show x.2.1.toNat = 0 ∧ x.2.2.toNat = 0 ∨ 1 ≤ x.2.1.toNat ∧ x.2.1.toNat ≤ 4 ∧ 1 ≤ x.2.2.toNat ∧ x.2.2.toNat ≤ 7
     omega
    rw [free_holds m (by omega), holds_stand m hA (natMv x) hx (setF g) (intsL g) (fun i _ => by rw [setF_bit g hg, intsL_contains]), setF_bit g hg, decide_eq_true h1, decide_eq_true h2, h3]
    cases standM m (intsL g) (natMv x) <;> simp
   ·have hf : (decide (0 ≤ x.1) && decide (x.1 < (m.length : Int)) && isMoveI x.2.1 x.2.2) = false := by
     cases hc : (decide (0 ≤ x.1) && decide (x.1 < (m.length : Int)) && isMoveI x.2.1 x.2.2)
     ·rfl
     ·simp only [Bool.and_eq_true, decide_eq_true_eq] at hc
      exact absurd hc h
    rw [hf]
    simp only [Bool.and_eq_false_iff, decide_eq_false_iff_not] at hf
    rcases hf with (h | h) | h <;> simp [h]
  rw [key]
  split
  ·rename_i hgo
   have hb : x.1.toNat < 64 := by
    rw [← key] at hgo
    simp only [Bool.and_eq_true, decide_eq_true_eq] at hgo
    omega
   rw [check_ref hA hm l _ (fun i hi => (List.mem_append.1 hi).elim (hg i) (fun h => by rw [List.mem_singleton.1 h]; exact hb)), setF_snoc]
  ·rfl
end Go.Draw
end
