import Derived.Test.YtkcpnhigekopaaaDoorG04
/-
  Given contracts of functions of the program, and laws for them, one behind the other.
-/
set_option linter.unusedVariables false
set_option linter.unusedSimpArgs false
set_option linter.unusedSectionVars false
section
namespace Go.Draw
set_option maxRecDepth 10000
/-! ### locks, and orders -/
section
variable {m : List Sol} (hm : m.length ≤ 12)
include hm
theorem ready_mono {G H : U} (h : Sub G H) {i : Nat} (hi : (readyM m G).getLsbD i = true) : H.getLsbD i = true ∨ (readyM m H).getLsbD i = true := by
 rw [ready_bit m (by omega), Bool.and_eq_true, Bool.and_eq_true] at hi
 cases hh : H.getLsbD i
 ·right
  rw [ready_bit m (by omega), hh, canM_mono m i G H h hi.1.2]
  simpa using hi.1.1
 ·exact .inl rfl
def greatL (m : List Sol) : U := allU m.length &&& ~~~(lastR m)
omit hm in
theorem andnot_bit (A B : U) (i : Nat) : (A &&& ~~~B).getLsbD i = (A.getLsbD i && !B.getLsbD i) := by
 rw [BitVec.getLsbD_and, BitVec.getLsbD_not]
 cases h : A.getLsbD i
 ·simp
 ·simp [BitVec.lt_of_getLsbD h]
omit hm in
theorem compl_compl {A S : U} (h : Sub S A) : A &&& ~~~(A &&& ~~~S) = S := by
 apply BitVec.eq_of_getLsbD_eq
 intro i _
 rw [andnot_bit, andnot_bit]
 cases h1 : A.getLsbD i
 ·cases h2 : S.getLsbD i
  ·simp
  ·rw [h i h2] at h1; cases h1
 ·simp
omit hm in
theorem sub_andnot (A B : U) : Sub (A &&& ~~~B) A := by
 intro i hi
 rw [andnot_bit] at hi
 cases h : A.getLsbD i
 ·rw [h] at hi; cases hi
 ·rfl
theorem rounds_left : (roundsM m).2 = greatL m := by
 obtain ⟨K, _, _, _, h, e⟩ := rounds_spec hm
 rw [h, greatL, ← e]
theorem last_all : Sub (lastR m) (allU m.length) := gone_all hm 12
theorem great_locks (h : greatL m ≠ 0) : locksM m (greatL m) = true := by
 unfold locksM
 rw [greatL, compl_compl (last_all hm), last_fix hm]
 simpa [greatL] using h
theorem lock_great {S : U} (hS : Sub S (allU m.length)) (h : locksM m S = true) : S ≠ 0 ∧ Sub S (greatL m) := by
 unfold locksM at h
 rw [Bool.and_eq_true, bne_iff_ne, beq_iff_eq] at h
 refine ⟨h.1, fun i hi => ?_⟩
 rw [greatL, andnot_bit, hS i hi]
 have hF : Sub (lastR m) (allU m.length &&& ~~~S) := by
  rcases (gone_fe hm 12).next (canM_mono m) (allU m.length &&& ~~~S) with h | ⟨p, hp, h1, h2, h3⟩
  ·exact h
  ·have h4 := gone_all hm 12 p h1
   rw [allU_bit _ _ (by omega)] at h4
   have hb := ready_bit m (by omega) (allU m.length &&& ~~~S) p
   rw [h.2, h3, h2, h4] at hb
   simp at hb
 cases hl : (lastR m).getLsbD i
 ·rfl
 ·have := hF i hl
  rw [andnot_bit, hi] at this
  simp at this
theorem first_all : firstM m (allU m.length) = true ↔ greatL m = 0 := by
 rw [first_iff m hm _ (Sub.refl _)]
 constructor
 ·intro h
  have := fe_last hm (Sub.refl _) h
  unfold greatL
  exact (sub_iff _ _).1 this
 ·intro h
  have := (sub_iff _ _).2 h
  rw [Sub.antisymm this (last_all hm)]
  exact gone_fe hm 12
theorem leastLock_some {S : U} (h : leastLockM m = some S) : Sub S (allU m.length) ∧ locksM m S = true ∧ ∀ T, Sub T (allU m.length) → locksM m T = true → cardU S ≤ cardU T := by
 unfold leastLockM at h
 have hs := sortU_sorted ((setsL m.length 0 0).filter (locksM m))
 have hp := sortU_perm ((setsL m.length 0 0).filter (locksM m))
 generalize sortU ((setsL m.length 0 0).filter (locksM m)) = L at h hs hp
 cases L with
 | nil => cases h
 | cons a L =>
  simp at h; subst h
  have ha := hp.mem_iff.1 (List.mem_cons_self)
  rw [List.mem_filter, mem_sets _ (by omega)] at ha
  refine ⟨ha.1, ha.2, fun T hT hl => ?_⟩
  have hT' : T ∈ a :: L := hp.mem_iff.2 (List.mem_filter.2 ⟨(mem_sets _ (by omega) _).2 hT, hl⟩)
  rcases List.mem_cons.1 hT' with rfl | hT'
  ·exact Nat.le_refl _
  ·exact cmpU_card ((List.pairwise_cons.1 hs).1 T hT')
theorem leastLock_isSome : (leastLockM m).isSome = (greatL m != 0) := by
 rw [Bool.eq_iff_iff, bne_iff_ne]
 constructor
 ·intro h
  obtain ⟨S, hS⟩ := Option.isSome_iff_exists.1 h
  obtain ⟨h1, h2, _⟩ := leastLock_some hm hS
  obtain ⟨h3, h4⟩ := lock_great hm h1 h2
  intro h0
  rw [h0] at h4
  exact h3 (Sub.antisymm h4 (sub_zero _))
 ·intro h
  have hl := great_locks hm h
  have hmem : greatL m ∈ sortU ((setsL m.length 0 0).filter (locksM m)) := (sortU_perm _).mem_iff.2 (List.mem_filter.2 ⟨(mem_sets _ (by omega) _).2 (sub_andnot _ _), hl⟩)
  unfold leastLockM
  cases hL : sortU ((setsL m.length 0 0).filter (locksM m)) with
  | nil => rw [hL] at hmem; cases hmem
  | cons a L => rfl
end
/-- the moves of an order are an order -/
def intMv (x : Mv) : MvI := (x.1, x.2.1, x.2.2)
theorem natInt (x : Mv) : natMv (intMv x) = x := by simp [natMv, intMv]
theorem movesL_fst {p : Nat} {x : Mv} (h : x ∈ movesL p) : x.1 = p ∧ isMoveI x.2.1 x.2.2 = true := by
 unfold movesL at h
 rcases List.mem_cons.1 h with rfl | h
 ·exact ⟨rfl, show isMoveI 0 0 = true by decide⟩
 ·obtain ⟨k, hk, rfl⟩ := List.mem_map.1 h
  have hk := List.mem_range.1 hk
  refine ⟨rfl, ?_⟩
  unfold isMoveI
  simp only [Bool.or_eq_true, Bool.and_eq_true, decide_eq_true_eq]
  right
  omega
theorem goes_I {m : List Sol} {p : Nat} {G : U} {x : Mv} (h : goesM m p G = some x) (hp : p < m.length) (hg : G.getLsbD p = false) : x.1 = p ∧ goesI m (intMv x) G = true := by
 unfold goesM at h
 have h1 := List.mem_of_find?_eq_some h
 have h2 := List.find?_some h
 obtain ⟨h3, h4⟩ := movesL_fst h1
 refine ⟨h3, ?_⟩
 unfold goesI
 rw [natInt]
 subst h3
 simp [intMv, hp, hg, h4, h2]
theorem madeF_append (m : List Sol) : ∀ (l k : List MvI) (g : U), madeF m (l ++ k) g = (madeF m l g).bind (madeF m k)
 | [], _, _ => rfl
 | x :: l, k, g => by
  simp only [List.cons_append, madeF]
  split
  ·exact madeF_append m l k _
  ·rfl
theorem orderF_made {m : List Sol} {S : U} (hS : Sub S (allU m.length)) (hm : m.length ≤ 12) : ∀ n G out l, orderF m S n G out = some l → madeM m (out.map intMv) = some G → madeM m (l.map intMv) = some S
 | 0, _, _, _, h, _ => by simp [orderF] at h
 | n + 1, G, out, l, h, ho => by
  unfold orderF at h
  split at h
  ·next e => simp at h; subst h; rw [ho, e]
  ·cases hn : nextM m G (listU (S &&& ~~~G)) with
   | none => rw [hn] at h; cases h
   | some y =>
    obtain ⟨p, x⟩ := y
    rw [hn] at h
    obtain ⟨h1, h2⟩ := nextM_some m G hn
    rw [listU_mem, andnot_bit, Bool.and_eq_true] at h1
    have hp := hS p h1.1
    rw [allU_bit _ _ (by omega)] at hp
    obtain ⟨h3, h4⟩ := goes_I h2 (by simpa using hp) (by simpa using h1.2)
    refine orderF_made hS hm n _ _ l h ?_
    unfold madeM at ho ⊢
    rw [List.map_append, madeF_append, ho]
    show (if goesI m (intMv x) G = true then some (G ||| bit (intMv x).1.toNat) else none) = _
    rw [if_pos h4]
    simp [intMv, h3]
theorem order_made {m : List Sol} (hm : m.length ≤ 12) {S : U} (hS : Sub S (allU m.length)) {l : List Mv} (h : orderM m S = some l) : madeM m (l.map intMv) = some S := orderF_made hS hm 13 0 [] l h rfl
theorem orderF_len {m : List Sol} {S : U} : ∀ n G out l, orderF m S n G out = some l → l.length ≤ out.length + n
 | 0, _, _, _, h => by simp [orderF] at h
 | n + 1, G, out, l, h => by
  unfold orderF at h
  split at h
  ·simp at h; subst h; omega
  ·cases hn : nextM m G (listU (S &&& ~~~G)) with
   | none => rw [hn] at h; cases h
   | some y =>
    obtain ⟨p, x⟩ := y
    rw [hn] at h
    have := orderF_len n _ _ l h
    simp at this; omega
/-- DrawEither -/
theorem either_law {m : List Sol} (hm : m.length ≤ 12) (l : List MvI) (lock : Option U) (hlock : ∀ S, lock = some S → Sub S (allU m.length)) :
  let is := firstM m (allU m.length)
  let some_ := (leastLockM m).isSome
  let ok := madeM m l == some (allU m.length)
  let held := lock.any (locksM m)
  let a := greatL m
  (is == some_) = false ∧ some_ = (a != 0) ∧ (ok && held) = false ∧ (ok && some_) = false ∧ (held && is) = false ∧ (∀ S b, lock = some S → held = true → leastLockM m = some b → cardU b ≤ cardU S) ∧ (∀ b, leastLockM m = some b → Sub b a) ∧ (∀ S, lock = some S → held = true → Sub S a) ∧
  (∀ x, orderM m (allU m.length) = some x → madeM m (x.map intMv) = some (allU m.length)) ∧ (is = false → locksM m a = true ∧ ∀ b, leastLockM m = some b → locksM m b = true ∧ Sub b (allU m.length)) := by
 have e1 := leastLock_isSome hm
 have e2 := first_all hm
 have hheld : lock.any (locksM m) = true → greatL m ≠ 0 := by
  intro h
  cases hl : lock with
  | none => rw [hl] at h; cases h
  | some S =>
   rw [hl] at h
   obtain ⟨h1, h2⟩ := lock_great hm (hlock S hl) h
   intro h0
   rw [h0] at h2
   exact h1 (Sub.antisymm h2 (sub_zero _))
 have hok : (madeM m l == some (allU m.length)) = true → greatL m = 0 := by
  intro h
  rw [beq_iff_eq] at h
  exact e2.1 ((first_iff m hm _ (Sub.refl _)).2 (made_fe hm h).1)
 have hneq : ∀ a b : Bool, (a = true → b = false) → (a && b) = false := by intro a b h; cases a <;> simp_all
 refine ⟨?_, e1, ?_, ?_, ?_, ?_, ?_, ?_, fun x hx => order_made hm (Sub.refl _) hx, ?_⟩
 ·rw [e1]
  by_cases h : greatL m = 0
  ·rw [e2.2 h, h]; rfl
  ·have : firstM m (allU m.length) = false := by
    cases hf : firstM m (allU m.length)
    ·rfl
    ·exact absurd (e2.1 hf) h
   rw [this]
   simpa using h
 ·refine hneq _ _ fun h => ?_
  cases hh : lock.any (locksM m)
  ·rfl
  ·exact absurd (hok h) (hheld hh)
 ·refine hneq _ _ fun h => ?_
  rw [e1, hok h]; rfl
 ·refine hneq _ _ fun h => ?_
  cases hf : firstM m (allU m.length)
  ·rfl
  ·exact absurd (e2.1 hf) (hheld h)
 ·intro S b hS hh hb
  rw [hS] at hh
  exact (leastLock_some hm hb).2.2 S (hlock S hS) hh
 ·intro b hb
  obtain ⟨h1, h2, _⟩ := leastLock_some hm hb
  exact (lock_great hm h1 h2).2
 ·intro S hS hh
  rw [hS] at hh
  exact (lock_great hm (hlock S hS) hh).2
 ·intro h
  have h0 : greatL m ≠ 0 := fun h0 => by rw [e2.2 h0] at h; cases h
  refine ⟨great_locks hm h0, fun b hb => ?_⟩
  obtain ⟨h1, h2, _⟩ := leastLock_some hm hb
  exact ⟨h2, h1⟩
end Go.Draw
end
section
namespace Go.Draw
set_option maxRecDepth 10000
/-! ### moulds -/
theorem sol_zero_bits (p : Sol) : p = 0 ↔ ∀ i, i < 512 → p.getLsbD i = false := by
 constructor
 ·rintro rfl i _; simp
 ·intro h
  apply BitVec.eq_of_getLsbD_eq
  intro i hi
  rw [h i hi]; simp
theorem meets_false (b c : Sol) : meets b c = false ↔ ∀ n, b.getLsbD n = true → c.getLsbD n = false := by
 constructor
 ·intro h n hb
  cases hc : c.getLsbD n
  ·rfl
  ·have : meets b c = true := (meets_iff b c).2 ⟨n, BitVec.lt_of_getLsbD hb, hb, hc⟩
   rw [this] at h; cases h
 ·intro h
  cases hm : meets b c
  ·rfl
  ·obtain ⟨n, _, h1, h2⟩ := (meets_iff b c).1 hm
   rw [h n h1] at h2; cases h2
theorem meets_or (s a b : Sol) : meets s (a ||| b) = (meets s a || meets s b) := by
 rw [Bool.eq_iff_iff, Bool.or_eq_true, meets_iff, meets_iff, meets_iff]
 constructor
 ·rintro ⟨n, hn, h1, h2⟩
  rw [BitVec.getLsbD_or, Bool.or_eq_true] at h2
  exact h2.elim (fun h => .inl ⟨n, hn, h1, h⟩) (fun h => .inr ⟨n, hn, h1, h⟩)
 ·rintro (⟨n, hn, h1, h2⟩ | ⟨n, hn, h1, h2⟩)
  ·exact ⟨n, hn, h1, by rw [BitVec.getLsbD_or, h2]; rfl⟩
  ·exact ⟨n, hn, h1, by rw [BitVec.getLsbD_or, h2]; simp⟩
theorem goodFrom_iff : ∀ (m : List Sol) (a : Sol), goodFrom m a = true ↔ (∀ s ∈ m, s ≠ 0 ∧ meets s a = false) ∧ m.Pairwise fun s t => meets t s = false
 | [], a => by simp [goodFrom]
 | s :: m, a => by
  unfold goodFrom
  rw [Bool.and_eq_true, goodFrom_iff m, List.pairwise_cons]
  simp only [Bool.not_eq_true', Bool.or_eq_false_iff, beq_eq_false_iff_ne, meets_or, List.mem_cons, forall_eq_or_imp]
  constructor
  ·rintro ⟨⟨h1, h2⟩, h3, h4⟩
   exact ⟨⟨⟨h1, h2⟩, fun t ht => ⟨(h3 t ht).1, (h3 t ht).2.1⟩⟩, fun t ht => (h3 t ht).2.2, h4⟩
  ·rintro ⟨⟨⟨h1, h2⟩, h3⟩, h4, h5⟩
   exact ⟨⟨h1, h2⟩, fun t ht => ⟨(h3 t ht).1, (h3 t ht).2, h4 t ht⟩, h5⟩
theorem goodM_iff (m : List Sol) : goodM m = true ↔ (∀ s ∈ m, s ≠ 0) ∧ m.Pairwise fun s t => meets t s = false := by
 unfold goodM
 rw [goodFrom_iff]
 have h : ∀ s : Sol, meets s 0 = false := fun s => by rw [meets_false]; intro n _; simp
 exact ⟨fun ⟨h1, h2⟩ => ⟨fun s hs => (h1 s hs).1, h2⟩, fun ⟨h1, h2⟩ => ⟨fun s hs => ⟨h1 s hs, h s⟩, h2⟩⟩
theorem good_apart {m : List Sol} (h : goodM m = true) : Apart m := by
 obtain ⟨_, hp⟩ := (goodM_iff m).1 h
 have key : ∀ i j, i < j → j < m.length → ∀ n, (m.getD i 0).getLsbD n = true → (m.getD j 0).getLsbD n = true → False := by
  intro i j hij hj n h1 h2
  have := List.pairwise_iff_getElem.1 hp i j (by omega) hj hij
  rw [meets_false] at this
  simp only [List.getD_eq_getElem?_getD, List.getElem?_eq_getElem hj, List.getElem?_eq_getElem (show i < m.length by omega), Option.getD_some] at h1 h2
  rw [this n h2] at h1; cases h1
 intro i j hi hj hne n h1
 cases h2 : (m.getD j 0).getLsbD n
 ·rfl
 ·rcases Nat.lt_trichotomy i j with h | h | h
  ·exact (key i j h hj n h1 h2).elim
  ·exact absurd h hne
  ·exact (key j i h hi n h2 h1).elim
/-! ### DrawStraight -/
def undercutM (s : Sol) : Sol := (upsL 8 s).foldl (fun out y => out ||| (y.1 &&& ~~~s)) 0
theorem upsL_in : ∀ n b y, y ∈ upsL n b → y.2 = true
 | 0, _, _, h => by simp [upsL] at h
 | n + 1, b, y, h => by
  unfold upsL at h
  split at h
  ·cases h
  ·rcases List.mem_cons.1 h with rfl | h
   ·rfl
   ·exact upsL_in n _ y h
theorem foldl_sol (s : Sol) (i : Nat) : ∀ (l : List (Sol × Bool)) (a : Sol), (l.foldl (fun out y => out ||| (y.1 &&& ~~~s)) a).getLsbD i = (a.getLsbD i || l.any fun y => (y.1 &&& ~~~s).getLsbD i)
 | [], a => by simp
 | x :: l, a => by rw [List.foldl_cons, foldl_sol s i l, List.any_cons, BitVec.getLsbD_or, Bool.or_assoc]
theorem sand_one (s : Sol) : sandM [s] = ~~~s := by simp [sandM, allS]
theorem straight_law (s : Sol) : (inWayM [s] (0, 0, 0)).1 = 0 ∧ (!(inWayM [s] (0, 0, 0)).2) = (undercutM s == 0) := by
 constructor
 ·rw [zero_bits]
  intro i _
  rw [inWay_bit _ (by simp)]
  by_cases h : i = 0
  ·simp [h]
  ·simp
 ·rw [inWay_sand _ (by simp), sand_one]
  show (!((upsL 8 s).any fun y => !y.2 || meets y.1 (~~~s))) = _
  rw [Bool.eq_iff_iff, beq_iff_eq, sol_zero_bits, Bool.not_eq_true', List.any_eq_false]
  constructor
  ·intro h i _
   unfold undercutM
   rw [foldl_sol]
   simp only [BitVec.ofNat_eq_ofNat, BitVec.getLsbD_zero, Bool.false_or, List.any_eq_false]
   intro y hy hb
   apply h y hy
   rw [BitVec.getLsbD_and, Bool.and_eq_true] at hb
   rw [Bool.or_eq_true]
   exact .inr ((meets_iff _ _).2 ⟨i, BitVec.lt_of_getLsbD hb.1, hb.1, hb.2⟩)
  ·intro h y hy hb
   rw [upsL_in 8 s y hy] at hb
   simp only [Bool.not_true, Bool.false_or] at hb
   obtain ⟨n, hn, h1, h2⟩ := (meets_iff _ _).1 hb
   have := h n hn
   unfold undercutM at this
   rw [foldl_sol] at this
   simp only [BitVec.ofNat_eq_ofNat, BitVec.getLsbD_zero, Bool.false_or, List.any_eq_false] at this
   exact this y hy (by rw [BitVec.getLsbD_and, h1, h2]; rfl)
/-! ### DrawSand -/
def shI (p : Nat) (x : MvI) : MvI := if (p : Int) ≤ x.1 then (x.1 + 1, x.2) else x
def shN (p i : Nat) : Nat := if p ≤ i then i + 1 else i
theorem erase_getD (m : List Sol) (p i : Nat) : (m.eraseIdx p).getD i 0 = m.getD (shN p i) 0 := by
 simp only [List.getD_eq_getElem?_getD, List.getElem?_eraseIdx]
 unfold shN
 by_cases h : i < p
 ·rw [if_pos h, if_neg (by omega)]
 ·rw [if_neg h, if_pos (by omega)]
theorem good_erase {m : List Sol} (h : goodM m = true) (p : Nat) : goodM (m.eraseIdx p) = true := by
 rw [goodM_iff] at h ⊢
 exact ⟨fun s hs => h.1 s (List.mem_of_mem_eraseIdx hs), h.2.sublist (List.eraseIdx_sublist _ _)⟩
theorem sand_erase {m : List Sol} (hA : Apart m) {p : Nat} (hp : p < m.length) (n : Nat) (hn : n < 512) (h : (sandM m).getLsbD n = true ∨ (m.getD p 0).getLsbD n = true) : (sandM (m.eraseIdx p)).getLsbD n = true := by
 rw [sand_bit _ _ hn, any_getD, Bool.not_eq_true', List.any_eq_false]
 intro i hi hb
 have hi := List.mem_range.1 hi
 rw [List.length_eraseIdx_of_lt hp] at hi
 rw [erase_getD] at hb
 have hlt : shN p i < m.length := by unfold shN; split <;> omega
 have hne : shN p i ≠ p := by unfold shN; split <;> omega
 rcases h with h | h
 ·rw [sand_bit _ _ hn, any_getD, Bool.not_eq_true', List.any_eq_false] at h
  exact h _ (List.mem_range.2 hlt) hb
 ·rw [hA p (shN p i) hp hlt (Ne.symm hne) n h] at hb; cases hb
theorem unsh {p j : Nat} (h : j ≠ p) : ∃ i, shN p i = j := by
 by_cases e : j < p
 ·exact ⟨j, by unfold shN; rw [if_neg (by omega)]⟩
 ·exact ⟨j - 1, by unfold shN; rw [if_pos (by omega)]; omega⟩
theorem sand_goes {m : List Sol} (hm : m.length ≤ 12) (hA : Apart m) {p : Nat} (hp : p < m.length) {x : MvI} {g G : U} (hG : ∀ i, g.getLsbD i = true → G.getLsbD (shN p i) = true) (hG2 : ∀ i, G.getLsbD (shN p i) = true → g.getLsbD i = true) (h : goesI (m.eraseIdx p) x g = true) : goesI m (shI p x) G = true ∧ (shI p x).1.toNat = shN p x.1.toNat := by
 have hlen : (m.eraseIdx p).length = m.length - 1 := List.length_eraseIdx_of_lt hp
 unfold goesI at h
 simp only [Bool.and_eq_true, decide_eq_true_eq, Bool.not_eq_true'] at h
 obtain ⟨⟨⟨⟨h1, h2⟩, h3⟩, h4⟩, h5⟩ := h
 rw [hlen] at h2
 have e2 : (shI p x).2 = x.2 := by unfold shI; split <;> rfl
 have e1 : (shI p x).1.toNat = shN p x.1.toNat := by
  unfold shI shN
  by_cases h : (p : Int) ≤ x.1
  ·rw [if_pos h, if_pos (by omega)]; show (x.1 + 1).toNat = _; omega
  ·rw [if_neg h, if_neg (by omega)]
 have e0 : 0 ≤ (shI p x).1 ∧ (shI p x).1 < (m.length : Int) := by
  unfold shI
  split
  ·constructor
   ·show 0 ≤ x.1 + 1; omega
   ·show x.1 + 1 < _; omega
  ·omega
 refine ⟨?_, e1⟩
 unfold goesI
 simp only [Bool.and_eq_true, decide_eq_true_eq, Bool.not_eq_true']
 refine ⟨⟨⟨e0, ?_⟩, ?_⟩, ?_⟩
 ·rw [e1]
  cases hb : G.getLsbD (shN p x.1.toNat)
  ·rfl
  ·rw [hG2 _ hb] at h3; cases h3
 ·rw [e2]; exact h4
 ·have hb : (m.getD (shN p x.1.toNat) 0) = (m.eraseIdx p).getD x.1.toNat 0 := (erase_getD m p _).symm
  have en : natMv (shI p x) = (shN p x.1.toNat, x.2.1.toNat, x.2.2.toNat) := by unfold natMv; rw [e1, e2]
  rw [en]
  unfold freeM at h5 ⊢
  simp only [Bool.and_eq_true, Bool.not_eq_true', beq_iff_eq] at h5 ⊢
  obtain ⟨h6, h7⟩ := h5
  rw [inWay_sand _ (by omega)] at h6 ⊢
  rw [List.any_eq_false] at h6
  have hway : wayL x.2.1.toNat x.2.2.toNat (m.getD (shN p x.1.toNat) 0) = wayL x.2.1.toNat x.2.2.toNat ((m.eraseIdx p).getD x.1.toNat 0) := by rw [hb]
  have no : ∀ y ∈ wayL x.2.1.toNat x.2.2.toNat ((m.eraseIdx p).getD x.1.toNat 0), y.2 = true ∧ meets y.1 (sandM m) = false ∧ meets y.1 (m.getD p 0) = false := by
   intro y hy
   have h8 := h6 y hy
   rw [Bool.or_eq_true, not_or] at h8
   refine ⟨by simpa using h8.1, ?_, ?_⟩
   ·rw [meets_false]
    intro n hn
    cases hs : (sandM m).getLsbD n
    ·rfl
    ·exact absurd ((meets_iff _ _).2 ⟨n, BitVec.lt_of_getLsbD hn, hn, sand_erase hA hp n (BitVec.lt_of_getLsbD hn) (.inl hs)⟩) h8.2
   ·rw [meets_false]
    intro n hn
    cases hs : (m.getD p 0).getLsbD n
    ·rfl
    ·exact absurd ((meets_iff _ _).2 ⟨n, BitVec.lt_of_getLsbD hn, hn, sand_erase hA hp n (BitVec.lt_of_getLsbD hn) (.inr hs)⟩) h8.2
  constructor
  ·show (wayL x.2.1.toNat x.2.2.toNat (m.getD (shN p x.1.toNat) 0)).any _ = false
   rw [hway, List.any_eq_false]
   intro y hy
   obtain ⟨a, b, _⟩ := no y hy
   rw [a, b]; simp
  ·rw [← sub_iff] at h7 ⊢
   intro j hj
   rw [inWay_bit _ (by omega)] at hj
   simp only [Bool.and_eq_true, decide_eq_true_eq, bne_iff_ne] at hj
   obtain ⟨⟨hj1, hj2⟩, hj3⟩ := hj
   rw [hway, List.any_eq_true] at hj3
   obtain ⟨y, hy, hj3⟩ := hj3
   have hjp : j ≠ p := by
    intro e; subst e
    rw [(no y hy).2.2] at hj3; cases hj3
   obtain ⟨i, rfl⟩ := unsh hjp
   apply hG
   apply h7
   rw [inWay_bit _ (by omega)]
   simp only [Bool.and_eq_true, decide_eq_true_eq, bne_iff_ne]
   refine ⟨⟨?_, ?_⟩, List.any_eq_true.2 ⟨y, hy, ?_⟩⟩
   ·rw [hlen]; unfold shN at hj1; split at hj1 <;> omega
   ·intro e
    apply hj2
    show shN p i = shN p x.1.toNat
    rw [e]; rfl
   ·rw [erase_getD]; exact hj3
theorem shN_inj {p i j : Nat} (h : shN p i = shN p j) : i = j := by
 unfold shN at h
 split at h <;> split at h <;> omega
/-- DrawSand -/
theorem sandF_law {m : List Sol} (hm : m.length ≤ 12) (hA : Apart m) {p : Nat} (hp : p < m.length) : ∀ (l : List MvI) (g G : U), (∀ i, g.getLsbD i = true → G.getLsbD (shN p i) = true) → (∀ i, G.getLsbD (shN p i) = true → g.getLsbD i = true) → (madeF (m.eraseIdx p) l g).isSome = true → (madeF m (l.map (shI p)) G).isSome = true
 | [], _, _, _, _, _ => rfl
 | x :: l, g, G, h1, h2, h => by
  unfold madeF at h
  split at h
  ·next hg =>
   obtain ⟨h3, h4⟩ := sand_goes hm hA hp h1 h2 hg
   rw [List.map_cons]
   unfold madeF
   rw [if_pos h3, h4]
   have hlen : (m.eraseIdx p).length = m.length - 1 := List.length_eraseIdx_of_lt hp
   have hx := (goesI_can hg).2.1
   have hb : shN p x.1.toNat < 64 := by unfold shN; split <;> omega
   refine sandF_law hm hA hp l _ _ (fun i hi => ?_) (fun i hi => ?_) h
   ·rw [or_bit _ _ _ (by omega), Bool.or_eq_true] at hi
    rw [or_bit _ _ _ hb, Bool.or_eq_true]
    rcases hi with hi | hi
    ·exact .inl (h1 i hi)
    ·have : i = x.1.toNat := by simpa using hi
     exact .inr (by simp [this])
   ·rw [or_bit _ _ _ hb, Bool.or_eq_true] at hi
    rw [or_bit _ _ _ (by omega), Bool.or_eq_true]
    rcases hi with hi | hi
    ·exact .inl (h2 i hi)
    ·have : i = x.1.toNat := shN_inj (by simpa using hi)
     exact .inr (by simp [this])
  ·cases h
theorem sand_law {m : List Sol} (hm : m.length ≤ 12) (hg : goodM m = true) {p : Nat} (hp : p < m.length) {l : List MvI} (h : (madeM (m.eraseIdx p) l).isSome = true) : (madeM m (l.map (shI p))).isSome = true :=
 sandF_law hm (good_apart hg) hp l 0 0 (fun i hi => by simp at hi) (fun i hi => by simp at hi) h
end Go.Draw
end
section
namespace Go.Draw
set_option maxRecDepth 10000
/-! ### a mould that is turned or mirrored -/
def tau (mr : Bool) (n : Nat) : Nat := if mr then 64 * (n / 64) + 8 * (n / 8 % 8) + (7 - n % 8) else 64 * (n / 64) + 8 * (n % 8) + (7 - n / 8 % 8)
def turnS (mr : Bool) (s : Sol) : Sol := (List.range 512).foldl (fun out n => if s.getLsbD n then out ||| (1#512 <<< tau mr n) else out) 0
theorem turn_fold (mr : Bool) (s : Sol) (j : Nat) : ∀ (l : List Nat) (a : Sol), (l.foldl (fun out n => if s.getLsbD n then out ||| (1#512 <<< tau mr n) else out) a).getLsbD j = (a.getLsbD j || l.any fun n => s.getLsbD n && (1#512 <<< tau mr n).getLsbD j)
 | [], a => by simp
 | x :: l, a => by
  rw [List.foldl_cons, turn_fold mr s j l, List.any_cons]
  cases s.getLsbD x
  ·simp
  ·simp [BitVec.getLsbD_or, Bool.or_assoc]
theorem one_bit (k i : Nat) (hk : k < 512) : (1#512 <<< k).getLsbD i = decide (i = k) := by
 rw [BitVec.getLsbD_shiftLeft]
 by_cases h : i < 512
 ·by_cases h2 : i < k
  ·simp [h2]; omega
  ·by_cases e : i = k
   ·subst e; simp [h]
   ·have : (1#512).getLsbD (i - k) = false := by
     rw [BitVec.getLsbD_one]; simp; omega
    simp [this, e]
 ·simp [h]; omega
def rho (mr : Bool) (n : Nat) : Nat := if mr then 64 * (n / 64) + 8 * (n / 8 % 8) + (7 - n % 8) else 64 * (n / 64) + 8 * (7 - n % 8) + n / 8 % 8
theorem rho_tau : ∀ mr : Bool, ∀ n, n < 512 → rho mr (tau mr n) = n := by decide +kernel
theorem tau_rho : ∀ mr : Bool, ∀ n, n < 512 → tau mr (rho mr n) = n := by decide +kernel
theorem tau_lt : ∀ mr : Bool, ∀ n, n < 512 → tau mr n < 512 := by decide +kernel
theorem rho_lt : ∀ mr : Bool, ∀ n, n < 512 → rho mr n < 512 := by decide +kernel
theorem turn_bit (mr : Bool) (s : Sol) (n : Nat) (hn : n < 512) : (turnS mr s).getLsbD n = s.getLsbD (rho mr n) := by
 unfold turnS
 rw [turn_fold, Bool.eq_iff_iff]
 simp only [BitVec.ofNat_eq_ofNat, BitVec.getLsbD_zero, Bool.false_or, List.any_eq_true, List.mem_range, Bool.and_eq_true]
 constructor
 ·rintro ⟨k, hk, h1, h2⟩
  rw [one_bit _ _ (tau_lt mr k hk)] at h2
  have : rho mr n = k := by
   have h2 := of_decide_eq_true h2
   rw [h2]; exact rho_tau mr k hk
  rw [this]; exact h1
 ·intro h
  refine ⟨rho mr n, rho_lt mr n hn, h, ?_⟩
  rw [one_bit _ _ (tau_lt mr _ (rho_lt mr n hn)), tau_rho mr n hn]
  exact decide_eq_true rfl
theorem has_turn (mr : Bool) (s : Sol) (x y z : Int) : has (turnS mr s) x y z = if mr then has s (7 - x) y z else has s y (7 - x) z := by
 by_cases h : 0 ≤ x ∧ x ≤ 7 ∧ 0 ≤ y ∧ y ≤ 7 ∧ 0 ≤ z ∧ z ≤ 7
 ·rw [has_in _ _ _ _ h, turn_bit _ _ _ (by omega)]
  obtain ⟨a, rfl⟩ : ∃ a : Nat, x = a := ⟨x.toNat, by omega⟩
  obtain ⟨b, rfl⟩ : ∃ a : Nat, y = a := ⟨y.toNat, by omega⟩
  obtain ⟨c, rfl⟩ : ∃ a : Nat, z = a := ⟨z.toNat, by omega⟩
  have e1 : (64 * (c : Int) + 8 * (b : Int) + (a : Int)).toNat = 64 * c + 8 * b + a := by omega
  have e2 : (64 * c + 8 * b + a) % 8 = a := by omega
  have e3 : (64 * c + 8 * b + a) / 8 % 8 = b := by omega
  have e4 : (64 * c + 8 * b + a) / 64 = c := by omega
  rw [e1]
  unfold rho
  rw [e2, e3, e4]
  cases mr
  ·simp only [Bool.false_eq_true, if_false]
   rw [has_in _ _ _ _ (by omega)]
   congr 1; omega
  ·simp only [if_true]
   rw [has_in _ _ _ _ (by omega)]
   congr 1; omega
 ·rw [has_out _ _ _ _ h]
  cases mr
  ·simp only [Bool.false_eq_true, if_false]
   rw [has_out _ _ _ _ (by omega)]
  ·simp only [if_true]
   rw [has_out _ _ _ _ (by omega)]
theorem has_ext {a b : Sol} (h : ∀ x y z : Int, has a x y z = has b x y z) : a = b := by
 apply BitVec.eq_of_getLsbD_eq
 intro n hn
 rw [← has_bit a n hn, ← has_bit b n hn]; exact h _ _ _
def rotS (mr : Bool) : Nat → Nat
 | 1 => if mr then 3 else 2
 | 2 => if mr then 2 else 3
 | 3 => if mr then 1 else 4
 | 4 => if mr then 4 else 1
 | n => n
theorem rot_dx (mr : Bool) (side : Nat) (hs : 1 ≤ side ∧ side ≤ 4) : (1 ≤ rotS mr side ∧ rotS mr side ≤ 4) ∧ if mr then dxS (rotS mr side) = - dxS side ∧ dyS (rotS mr side) = dyS side else dxS (rotS mr side) = - dyS side ∧ dyS (rotS mr side) = dxS side := by
 obtain rfl | rfl | rfl | rfl : side = 1 ∨ side = 2 ∨ side = 3 ∨ side = 4 := by omega
 all_goals cases mr <;> decide
def inR (x y z : Int) : Bool := decide (0 ≤ x ∧ x ≤ 7 ∧ 0 ≤ y ∧ y ≤ 7 ∧ 0 ≤ z ∧ z ≤ 7)
theorem has_step (side : Nat) (hs : 1 ≤ side ∧ side ≤ 4) (b : Sol) (x y z : Int) : has (stepS side b) x y z = (inR x y z && has b (x - dxS side) (y - dyS side) z) := by
 by_cases h : 0 ≤ x ∧ x ≤ 7 ∧ 0 ≤ y ∧ y ≤ 7 ∧ 0 ≤ z ∧ z ≤ 7
 ·rw [has_in _ _ _ _ h, step_bit side hs b _ (by omega)]
  unfold inR
  rw [decide_eq_true h, Bool.true_and]
  congr 1 <;> omega
 ·rw [has_out _ _ _ _ h]; unfold inR; rw [decide_eq_false h]; rfl
theorem has_up (b : Sol) (x y z : Int) : has (upS b) x y z = (inR x y z && has b x y (z - 1)) := by
 by_cases h : 0 ≤ x ∧ x ≤ 7 ∧ 0 ≤ y ∧ y ≤ 7 ∧ 0 ≤ z ∧ z ≤ 7
 ·rw [has_in _ _ _ _ h, up_bit b _ (by omega)]
  unfold inR
  rw [decide_eq_true h, Bool.true_and]
  by_cases hz : z = 0
  ·subst hz
   rw [has_out _ _ _ _ (by omega), decide_eq_false (by omega)]; rfl
  ·rw [has_in _ _ _ _ (by omega), decide_eq_true (by omega), Bool.true_and]
   congr 1; omega
 ·rw [has_out _ _ _ _ h]; unfold inR; rw [decide_eq_false h]; rfl
theorem turn_step (mr : Bool) (side : Nat) (hs : 1 ≤ side ∧ side ≤ 4) (b : Sol) : stepS (rotS mr side) (turnS mr b) = turnS mr (stepS side b) := by
 obtain ⟨h1, h2⟩ := rot_dx mr side hs
 apply has_ext
 intro x y z
 rw [has_step _ h1, has_turn, has_turn, has_step _ hs, has_step _ hs]
 cases mr
 ·simp only [Bool.false_eq_true, if_false] at h2 ⊢
  rw [h2.1, h2.2]
  congr 1
  ·unfold inR; rw [Bool.eq_iff_iff, decide_eq_true_iff, decide_eq_true_iff]; omega
  ·congr 1; omega
 ·simp only [if_true] at h2 ⊢
  rw [h2.1, h2.2]
  congr 1
  ·unfold inR; rw [Bool.eq_iff_iff, decide_eq_true_iff, decide_eq_true_iff]; omega
  ·congr 1; omega
theorem turn_up (mr : Bool) (b : Sol) : upS (turnS mr b) = turnS mr (upS b) := by
 apply has_ext
 intro x y z
 rw [has_up, has_turn, has_turn, has_up, has_up]
 cases mr
 ·simp only [Bool.false_eq_true, if_false]
  congr 1
  unfold inR; rw [Bool.eq_iff_iff, decide_eq_true_iff, decide_eq_true_iff]; omega
 ·simp only [if_true]
  congr 1
  unfold inR; rw [Bool.eq_iff_iff, decide_eq_true_iff, decide_eq_true_iff]; omega
theorem has_true {s : Sol} {x y z : Int} (h : has s x y z = true) : 0 ≤ x ∧ x ≤ 7 ∧ 0 ≤ y ∧ y ≤ 7 ∧ 0 ≤ z ∧ z ≤ 7 := by
 apply Classical.byContradiction
 intro hn
 rw [has_out _ _ _ _ hn] at h; cases h
theorem in_has (side : Nat) (hs : 1 ≤ side ∧ side ≤ 4) (b : Sol) : inS side b = true ↔ ∀ x y z : Int, has b x y z = true → 0 ≤ x + dxS side ∧ x + dxS side ≤ 7 ∧ 0 ≤ y + dyS side ∧ y + dyS side ≤ 7 := by
 rw [in_iff side hs]
 constructor
 ·intro h x y z hh
  have hr := has_true hh
  rw [has_in _ _ _ _ hr] at hh
  have := h _ (by omega) hh
  have e1 : (((64 * z + 8 * y + x).toNat % 8 : Nat) : Int) = x := by omega
  have e2 : (((64 * z + 8 * y + x).toNat / 8 % 8 : Nat) : Int) = y := by omega
  rw [e1, e2] at this
  exact this
 ·intro h n hn hb
  rw [← has_bit b n hn] at hb
  exact h _ _ _ hb
theorem turn_in (mr : Bool) (side : Nat) (hs : 1 ≤ side ∧ side ≤ 4) (b : Sol) : inS (rotS mr side) (turnS mr b) = inS side b := by
 obtain ⟨h1, h2⟩ := rot_dx mr side hs
 rw [Bool.eq_iff_iff, in_has _ h1, in_has _ hs]
 cases mr
 ·simp only [Bool.false_eq_true, if_false] at h2
  constructor
  ·intro h x y z hh
   have := h (7 - y) x z (by rw [has_turn]; simpa using (show has b x (7 - (7 - y)) z = true by rw [show 7 - (7 - y) = y by omega]; exact hh))
   omega
  ·intro h x y z hh
   rw [has_turn] at hh
   have := h y (7 - x) z (by simpa using hh)
   omega
 ·simp only [if_true] at h2
  constructor
  ·intro h x y z hh
   have := h (7 - x) y z (by rw [has_turn]; simpa using (show has b (7 - (7 - x)) y z = true by rw [show 7 - (7 - x) = x by omega]; exact hh))
   omega
  ·intro h x y z hh
   rw [has_turn] at hh
   have := h (7 - x) y z (by simpa using hh)
   omega
theorem turn_zero (mr : Bool) : turnS mr 0 = 0 := by
 apply BitVec.eq_of_getLsbD_eq
 intro n hn
 rw [turn_bit _ _ _ hn]; simp
theorem turn_inj (mr : Bool) {a b : Sol} (h : turnS mr a = turnS mr b) : a = b := by
 apply has_ext
 intro x y z
 cases mr
 ·have := congrArg (fun s => has s (7 - y) x z) h
  simp only [has_turn, Bool.false_eq_true, if_false] at this
  rwa [show 7 - (7 - y) = y by omega] at this
 ·have := congrArg (fun s => has s (7 - x) y z) h
  simp only [has_turn, if_true] at this
  rwa [show 7 - (7 - x) = x by omega] at this
theorem turn_eq_zero (mr : Bool) (b : Sol) : turnS mr b = 0 ↔ b = 0 := ⟨fun h => turn_inj mr (h.trans (turn_zero mr).symm), fun h => h ▸ turn_zero mr⟩
theorem turn_and (mr : Bool) (a b : Sol) : turnS mr (a &&& b) = turnS mr a &&& turnS mr b := by
 apply BitVec.eq_of_getLsbD_eq
 intro n hn
 rw [turn_bit _ _ _ hn, BitVec.getLsbD_and, BitVec.getLsbD_and, turn_bit _ _ _ hn, turn_bit _ _ _ hn]
theorem turn_or (mr : Bool) (a b : Sol) : turnS mr (a ||| b) = turnS mr a ||| turnS mr b := by
 apply BitVec.eq_of_getLsbD_eq
 intro n hn
 rw [turn_bit _ _ _ hn, BitVec.getLsbD_or, BitVec.getLsbD_or, turn_bit _ _ _ hn, turn_bit _ _ _ hn]
theorem turn_not (mr : Bool) (a : Sol) : turnS mr (~~~a) = ~~~(turnS mr a) := by
 apply BitVec.eq_of_getLsbD_eq
 intro n hn
 rw [turn_bit _ _ _ hn, BitVec.getLsbD_not, BitVec.getLsbD_not, turn_bit _ _ _ hn]
 simp [hn, rho_lt mr n hn]
theorem turn_meets (mr : Bool) (a b : Sol) : meets (turnS mr a) (turnS mr b) = meets a b := by
 unfold meets
 rw [← turn_and, Bool.eq_iff_iff, bne_iff_ne, bne_iff_ne, Ne, Ne, turn_eq_zero]
theorem turn_all (mr : Bool) : ∀ (m : List Sol) (a : Sol), (m.map (turnS mr)).foldl (· ||| ·) (turnS mr a) = turnS mr (m.foldl (· ||| ·) a)
 | [], _ => rfl
 | s :: m, a => by rw [List.map_cons, List.foldl_cons, List.foldl_cons, ← turn_or, turn_all mr m]
theorem turn_sand (mr : Bool) (m : List Sol) : sandM (m.map (turnS mr)) = turnS mr (sandM m) := by
 unfold sandM allS
 rw [turn_not, ← turn_all, turn_zero]
theorem turn_ups (mr : Bool) : ∀ n b, upsL n (turnS mr b) = (upsL n b).map fun y => (turnS mr y.1, y.2)
 | 0, _ => rfl
 | n + 1, b => by
  unfold upsL
  rw [turn_up]
  by_cases h : upS b = 0
  ·rw [if_pos h, if_pos ((turn_eq_zero mr _).2 h)]; rfl
  ·rw [if_neg h, if_neg (fun e => h ((turn_eq_zero mr _).1 e)), turn_ups mr n]; rfl
theorem turn_way (mr : Bool) (side : Nat) (hs : 1 ≤ side ∧ side ≤ 4) : ∀ far b, wayL (rotS mr side) far (turnS mr b) = (wayL side far b).map fun y => (turnS mr y.1, y.2)
 | 0, b => turn_ups mr 8 b
 | far + 1, b => by
  unfold wayL
  rw [turn_in mr side hs, turn_step mr side hs]
  split
  ·rw [turn_way mr side hs far]; rfl
  ·rfl
theorem turn_getD (mr : Bool) (m : List Sol) (k : Nat) : (m.map (turnS mr)).getD k 0 = turnS mr (m.getD k 0) := by
 simp only [List.getD_eq_getElem?_getD, List.getElem?_map]
 cases m[k]? with
 | none => exact (turn_zero mr).symm
 | some s => rfl
theorem turn_meetF (mr : Bool) (m : List Sol) (p : Nat) (b : Sol) (acc : U) : ∀ k, meetF (m.map (turnS mr)) p (turnS mr b) acc k = meetF m p b acc k
 | 0 => rfl
 | k + 1 => by
  unfold meetF
  rw [turn_getD, turn_meets, turn_meetF mr m p b acc k]
theorem turn_steps (mr : Bool) (m : List Sol) (p : Nat) : ∀ (l : List (Sol × Bool)) (w : U × Bool), (l.map fun y => (turnS mr y.1, y.2)).foldl (inStep (m.map (turnS mr)) p) w = l.foldl (inStep m p) w
 | [], _ => rfl
 | y :: l, w => by
  rw [List.map_cons, List.foldl_cons, List.foldl_cons, turn_steps mr m p l]
  congr 1
  unfold inStep
  simp only [List.length_map, turn_meetF, turn_sand, turn_meets]
theorem turn_inWay (mr : Bool) (m : List Sol) (p side far : Nat) (hs : 1 ≤ side ∧ side ≤ 4 ∨ side = 0 ∧ far = 0) : inWayM (m.map (turnS mr)) (p, rotS mr side, far) = inWayM m (p, side, far) := by
 unfold inWayM
 rw [turn_getD]
 simp only
 have : wayL (rotS mr side) far (turnS mr (m.getD p 0)) = (wayL side far (m.getD p 0)).map fun y => (turnS mr y.1, y.2) := by
  rcases hs with hs | ⟨rfl, rfl⟩
  ·exact turn_way mr side hs far _
  ·exact turn_ups mr 8 _
 rw [this, turn_steps]
theorem mem_movesL (p : Nat) (x : Mv) : x ∈ movesL p ↔ x.1 = p ∧ (x.2.1 = 0 ∧ x.2.2 = 0 ∨ (1 ≤ x.2.1 ∧ x.2.1 ≤ 4) ∧ 1 ≤ x.2.2 ∧ x.2.2 ≤ 7) := by
 obtain ⟨q, s, f⟩ := x
 unfold movesL
 rw [List.mem_cons, List.mem_map]
 constructor
 ·rintro (h | ⟨k, hk, h⟩)
  ·cases h; exact ⟨rfl, .inl ⟨rfl, rfl⟩⟩
  ·cases h
   have := List.mem_range.1 hk
   refine ⟨rfl, .inr ?_⟩
   dsimp only
   omega
 ·rintro ⟨rfl, h | h⟩
  ·left; simp only at h; rw [h.1, h.2]
  ·right
   simp only at h
   exact ⟨(s - 1) * 7 + (f - 1), List.mem_range.2 (by omega), by simp only [Prod.mk.injEq, true_and]; omega⟩
theorem rot_back (mr : Bool) (side : Nat) (hs : 1 ≤ side ∧ side ≤ 4) : ∃ t, (1 ≤ t ∧ t ≤ 4) ∧ rotS mr t = side := by
 obtain rfl | rfl | rfl | rfl : side = 1 ∨ side = 2 ∨ side = 3 ∨ side = 4 := by omega
 ·exact ⟨if mr then 3 else 4, by cases mr <;> decide, by cases mr <;> decide⟩
 ·exact ⟨if mr then 2 else 1, by cases mr <;> decide, by cases mr <;> decide⟩
 ·exact ⟨if mr then 1 else 2, by cases mr <;> decide, by cases mr <;> decide⟩
 ·exact ⟨if mr then 4 else 3, by cases mr <;> decide, by cases mr <;> decide⟩
theorem turn_can (mr : Bool) (m : List Sol) (p : Nat) (G : U) : canM (m.map (turnS mr)) p G = canM m p G := by
 unfold canM goesM
 rw [find_isSome, find_isSome, Bool.eq_iff_iff, List.any_eq_true, List.any_eq_true]
 constructor
 ·rintro ⟨⟨q, s, f⟩, hx, hf⟩
  rw [mem_movesL] at hx
  obtain ⟨rfl, h⟩ := hx
  simp only at h
  rcases h with ⟨rfl, rfl⟩ | ⟨h1, h2⟩
  ·refine ⟨(q, 0, 0), (mem_movesL _ _).2 ⟨rfl, .inl ⟨rfl, rfl⟩⟩, ?_⟩
   unfold freeM at hf ⊢
   have := turn_inWay mr m q 0 0 (.inr ⟨rfl, rfl⟩)
   rw [show rotS mr 0 = 0 from rfl] at this
   rwa [this] at hf
  ·obtain ⟨t, ht, rfl⟩ := rot_back mr s h1
   refine ⟨(q, t, f), (mem_movesL _ _).2 ⟨rfl, .inr ⟨ht, h2⟩⟩, ?_⟩
   unfold freeM at hf ⊢
   rwa [turn_inWay mr m q t f (.inl ht)] at hf
 ·rintro ⟨⟨q, s, f⟩, hx, hf⟩
  rw [mem_movesL] at hx
  obtain ⟨rfl, h⟩ := hx
  simp only at h
  refine ⟨(q, rotS mr s, f), (mem_movesL _ _).2 ⟨rfl, ?_⟩, ?_⟩
  ·rcases h with ⟨rfl, rfl⟩ | ⟨h1, h2⟩
   ·exact .inl ⟨rfl, rfl⟩
   ·exact .inr ⟨(rot_dx mr s h1).1, h2⟩
  ·unfold freeM at hf ⊢
   rwa [turn_inWay mr m q s f (by omega)]
theorem turn_ready (mr : Bool) (m : List Sol) (hm : m.length ≤ 12) (G : U) : readyM (m.map (turnS mr)) G = readyM m G := by
 apply BitVec.eq_of_getLsbD_eq
 intro i _
 rw [ready_bit _ (by simpa using (by omega : m.length ≤ 64)), ready_bit _ (by omega), turn_can, List.length_map]
theorem turn_first (mr : Bool) (m : List Sol) (hm : m.length ≤ 12) (S : U) (hS : Sub S (allU m.length)) : firstM (m.map (turnS mr)) S = firstM m S := by
 have e : canM (m.map (turnS mr)) = canM m := funext fun p => funext fun G => turn_can mr m p G
 rw [Bool.eq_iff_iff, first_iff m hm S hS, first_iff _ (by simpa using hm) S (by simpa using hS), e]
theorem turn_orders (mr : Bool) (m : List Sol) (hm : m.length ≤ 12) : ordersM (m.map (turnS mr)) = ordersM m := by
 unfold ordersM
 have e : addWays (m.map (turnS mr)) = addWays m := by
  funext ws s
  unfold addWays
  rw [turn_ready mr m hm]
 rw [e, List.length_map]
theorem turn_good (mr : Bool) (m : List Sol) : goodM (m.map (turnS mr)) = goodM m := by
 rw [Bool.eq_iff_iff, goodM_iff, goodM_iff]
 simp only [List.mem_map, forall_exists_index, and_imp, forall_apply_eq_imp_iff₂, List.pairwise_map, turn_meets, Ne, turn_eq_zero]
end Go.Draw
end
section
namespace Go.Draw
set_option maxRecDepth 10000
/-! ### the rest of a way straight up -/
/-- the least plane that has a cell; 8: none -/
def lowP (b : Sol) : Nat := ((List.range 8).find? fun k => plv b k != 0).getD 8
theorem lowP_le (b : Sol) : lowP b ≤ 8 := by
 unfold lowP
 cases h : (List.range 8).find? fun k => plv b k != 0 with
 | none => exact Nat.le_refl _
 | some k => have := List.mem_range.1 (List.mem_of_find?_eq_some h); simp; omega
theorem lowP_zero (b : Sol) : lowP b = 8 ↔ b = 0 := by
 unfold lowP
 constructor
 ·intro h
  cases hf : (List.range 8).find? fun k => plv b k != 0 with
  | none =>
   rw [List.find?_eq_none] at hf
   refine sol_ext fun k hk => ?_
   have := hf k (List.mem_range.2 hk)
   rw [plv_zero]; simpa using this
  | some k =>
   rw [hf] at h
   have := List.mem_range.1 (List.mem_of_find?_eq_some hf)
   simp at h; omega
 ·rintro rfl
  have : (List.range 8).find? (fun k => plv (0 : Sol) k != 0) = none := by
   rw [List.find?_eq_none]; intro k _; rw [plv_zero]; simp
  rw [this]; rfl
theorem lowP_spec (b : Sol) (k : Nat) (hk : k < 8) : lowP b = k ↔ plv b k ≠ 0 ∧ ∀ j, j < k → plv b j = 0 := by
 unfold lowP
 constructor
 ·intro h
  cases hf : (List.range 8).find? fun k => plv b k != 0 with
  | none => rw [hf] at h; simp at h; omega
  | some i =>
   rw [hf] at h
   simp at h; subst h
   have h1 := List.find?_some hf
   refine ⟨by simpa using h1, fun j hj => ?_⟩
   rw [List.find?_range_eq_some] at hf
   have := hf.2.2 j hj
   simpa using this
 ·rintro ⟨h1, h2⟩
  have : (List.range 8).find? (fun k => plv b k != 0) = some k := by
   rw [List.find?_range_eq_some]
   exact ⟨by simpa using h1, List.mem_range.2 hk, fun j hj => by simpa using h2 j hj⟩
  rw [this]; rfl
theorem upS_plv (b : Sol) (k : Nat) (hk : k < 8) : plv (upS b) k = if k = 0 then 0 else plv b (k - 1) := by unfold upS; rw [plv_mkS _ _ hk]
theorem lowP_up (b : Sol) (h : b ≠ 0) : lowP (upS b) = lowP b + 1 := by
 have h8 : lowP b < 8 := by
  have := lowP_le b
  have : lowP b ≠ 8 := fun e => h ((lowP_zero b).1 e)
  omega
 obtain ⟨h1, h2⟩ := (lowP_spec b _ h8).1 rfl
 by_cases e : lowP b = 7
 ·rw [e, lowP_zero]
  refine sol_ext fun k hk => ?_
  rw [upS_plv _ _ hk, plv_zero]
  split
  ·rfl
  ·exact h2 _ (by omega)
 ·rw [lowP_spec _ _ (by omega)]
  refine ⟨?_, fun j hj => ?_⟩
  ·rw [upS_plv _ _ (by omega), if_neg (by omega)]; exact h1
  ·rw [upS_plv _ _ (by omega)]
   split
   ·rfl
   ·exact h2 _ (by omega)
def nxtL (n : Nat) (u : Sol) : List (Sol × Bool) := if u = 0 then [] else (u, true) :: upsL n u
theorem upsL_nxt (n : Nat) (b : Sol) : upsL (n + 1) b = nxtL n (upS b) := by
 show (if upS b = 0 then [] else (upS b, true) :: upsL n (upS b)) = _
 rfl
theorem nxtL_zero (n : Nat) : nxtL n 0 = [] := by unfold nxtL; rw [if_pos rfl]
theorem nxtL_step {n : Nat} {u : Sol} (hu : u ≠ 0) (hn : 7 - lowP u ≤ n) : nxtL n u = (u, true) :: nxtL (n - 1) (upS u) ∧ 7 - lowP (upS u) ≤ n - 1 := by
 have hl := lowP_up u hu
 have h8 : lowP u ≠ 8 := fun e => hu ((lowP_zero u).1 e)
 have h9 := lowP_le u
 refine ⟨?_, by omega⟩
 unfold nxtL
 rw [if_neg hu]
 congr 1
 cases n with
 | zero =>
  have : upS u = 0 := (lowP_zero _).1 (by omega)
  rw [this, if_pos rfl]; rfl
 | succ n => rw [upsL_nxt, Nat.add_sub_cancel]; rfl
end Go.Draw
end
