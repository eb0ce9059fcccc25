import Derived.Test.YtccnkebkgegohaaGreatDoorHY1
import Derived.Laws.CopyRow
import Derived.Laws.Tables
import Derived.Laws.AppendOwn
import Derived.Shelf.SlSortCmp.WholeK
import Derived.Test.YtccnkebkgegohaaGreatDoorProg
/-
  Given contracts of functions of the program, and laws for them, one behind the other.
-/
set_option linter.unusedVariables false
set_option linter.unusedSimpArgs false
set_option linter.unusedSectionVars false
section
namespace Go.Tra
/-! ### steps: again and again all letters that can be first -/
section
variable {α : Type} [DecidableEq α] {D : α → α → Bool}
/-- the letters that can not be first, in their order -/
def lft (D : α → α → Bool) : List α → List α → List α
 | _, [] => []
 | pre, x :: l => if pre.all (fun z => !D z x) then lft D (pre ++ [x]) l else x :: lft D (pre ++ [x]) l
theorem lft_snoc : ∀ (pre l : List α) (y : α), lft D pre (l ++ [y]) = lft D pre l ++ (if (pre ++ l).all (fun z => !D z y) then [] else [y])
 | pre, [], y => by simp [lft]
 | pre, x :: l, y => by
  have ih := lft_snoc (pre ++ [x]) l y
  simp only [List.append_assoc, List.cons_append, List.nil_append] at ih
  simp only [List.cons_append, lft, ih]
  split <;> simp
theorem frs_lft (hr : ∀ a, D a a = true) (hs : ∀ a b, D a b = D b a) : ∀ (pre m : List α), Eqv D (frs D pre m ++ lft D pre m) m
 | pre, [] => Eqv.refl _
 | pre, x :: l => by
  have ih := frs_lft hr hs (pre ++ [x]) l
  unfold frs lft
  split
  ·exact Eqv.cons x ih
  ·have hx : ∀ y ∈ frs D (pre ++ [x]) l, D y x = false := fun y hy => by
    rw [hs]; exact ((mem_frs hr).1 hy).1 x (by simp)
   have e := Eqv.app (Eqv.pass hs hx) (Eqv.refl (lft D (pre ++ [x]) l))
   simp only [List.append_assoc, List.cons_append, List.nil_append] at e
   exact e.trans (Eqv.cons x ih)
theorem frs_pair (hr : ∀ a, D a a = true) : ∀ (pre m : List α), (frs D pre m).Pairwise fun x y => D x y = false
 | pre, [] => List.Pairwise.nil
 | pre, x :: l => by
  have ih := frs_pair hr (pre ++ [x]) l
  unfold frs
  split
  ·exact List.pairwise_cons.2 ⟨fun y hy => ((mem_frs hr).1 hy).1 x (by simp), ih⟩
  ·exact ih
theorem free_over {x : α} : ∀ {u v : List α}, (∀ y ∈ u, D y x = false) → free D x v = true → free D x (u ++ v) = true
 | [], v, _, h => h
 | y :: u, v, hu, h => by
  have ih := free_over (u := u) (fun z hz => hu z (List.mem_cons_of_mem _ hz)) h
  rw [List.cons_append, free, ih, hu y (List.mem_cons_self ..)]
  split <;> rfl
/-- who comes in a later step needs one of the step ahead -/
theorem lft_needs (hr : ∀ a, D a a = true) (hs : ∀ a b, D a b = D b a) {x : α} {m : List α} (hx : x ∈ frs D [] (lft D [] m)) : ∃ y ∈ frs D [] m, D y x = true := by
 by_cases h : ∀ y ∈ frs D [] m, D y x = false
 ·have h1 := free_over h ((mem_frs hr).1 hx).2
  rw [free_iff hr hs (frs_lft hr hs [] m)] at h1
  have h2 := h x ((mem_frs hr).2 ⟨by simp, h1⟩)
  rw [hr] at h2; cases h2
 ·simp only [Classical.not_forall, Bool.not_eq_false] at h
  obtain ⟨y, hy, h⟩ := h
  exact ⟨y, hy, h⟩
theorem frs_ne {x : α} {l : List α} : frs D [] (x :: l) ≠ [] := by rw [frs_head]; simp
theorem lft_len (hr : ∀ a, D a a = true) (hs : ∀ a b, D a b = D b a) (x : α) (l : List α) : (lft D [] (x :: l)).length ≤ l.length := by
 have h := (frs_lft hr hs [] (x :: l)).len hr
 rw [List.length_append] at h
 have : 0 < (frs D [] (x :: l)).length := List.length_pos_iff.2 frs_ne
 simp only [List.length_cons] at h
 omega
def stepsL (D : α → α → Bool) (srt : List α → List α) : Nat → List α → List (List α)
 | 0, _ => []
 | _ + 1, [] => []
 | n + 1, x :: l => srt (frs D [] (x :: l)) :: stepsL D srt n (lft D [] (x :: l))
theorem stepsL_flat (hr : ∀ a, D a a = true) (hs : ∀ a b, D a b = D b a) {srt : List α → List α} (he : ∀ m, Eqv D (srt m) m) : ∀ {n : Nat} {m : List α}, m.length ≤ n → Eqv D (stepsL D srt n m).flatten m
 | 0, m, h => by
  have : m = [] := List.eq_nil_of_length_eq_zero (by omega)
  subst this; exact Eqv.refl _
 | n + 1, [], _ => Eqv.refl _
 | n + 1, x :: l, h => by
  have h1 := lft_len hr hs x l
  have ih := stepsL_flat hr hs he (n := n) (m := lft D [] (x :: l)) (by simp only [List.length_cons] at h; omega)
  rw [stepsL, List.flatten_cons]
  exact (Eqv.app (he _) ih).trans (frs_lft hr hs [] (x :: l))
/-- a step's acts hang not together, and each of a later step hangs with one of the step ahead -/
def StepsOk (D : α → α → Bool) : List (List α) → Prop
 | [] => True
 | [s] => s.Pairwise fun x y => D x y = false
 | s :: t :: r => (s.Pairwise fun x y => D x y = false) ∧ (∀ x ∈ t, ∃ y ∈ s, D y x = true) ∧ StepsOk D (t :: r)
theorem stepsL_ok (hr : ∀ a, D a a = true) (hs : ∀ a b, D a b = D b a) {srt : List α → List α} (he : ∀ m, (srt m).Perm m) : ∀ {n : Nat} {m : List α}, StepsOk D (stepsL D srt n m)
 | 0, m => trivial
 | n + 1, [] => trivial
 | n + 1, x :: l => by
  have ih := stepsL_ok hr hs he (n := n) (m := lft D [] (x :: l))
  have hp : (srt (frs D [] (x :: l))).Pairwise fun x y => D x y = false := ((he _).pairwise_iff fun {a b} h => by rw [hs]; exact h).2 (frs_pair hr [] (x :: l))
  rw [stepsL]
  cases n with
  | zero => exact hp
  | succ n =>
   cases hl : lft D [] (x :: l) with
   | nil => exact hp
   | cons y k =>
    rw [hl] at ih
    rw [stepsL] at ih ⊢
    refine ⟨hp, fun z hz => ?_, ih⟩
    have h1 := (he _).mem_iff.1 hz
    rw [← hl] at h1
    obtain ⟨w, hw, h⟩ := lft_needs hr hs h1
    exact ⟨w, (he _).mem_iff.2 hw, h⟩
/-! ### what is sorted -/
theorem frs_all : ∀ (pre s : List α), (s.Pairwise fun x y => D x y = false) → (∀ z ∈ pre, ∀ y ∈ s, D z y = false) → frs D pre s = s
 | pre, [], _, _ => rfl
 | pre, x :: l, h, hp => by
  rw [List.pairwise_cons] at h
  unfold frs
  rw [if_pos (by simpa using fun z hz => hp z hz x (List.mem_cons_self ..)), frs_all _ l h.2]
  intro z hz y hy
  rcases List.mem_append.1 hz with hz | hz
  ·exact hp z hz y (List.mem_cons_of_mem _ hy)
  ·rw [List.mem_singleton.1 hz]; exact h.1 y hy
theorem minV_is {f : α → α → Int} (hc : Cmp f) {y m : α} {xs : List α} (hy : y ∈ m :: xs) (h : ∀ z ∈ m :: xs, z = y ∨ f y z < 0) : minV f m xs = y := by
 have h1 := minV_le hc m xs y hy
 have h2 := h _ (minV_mem f m xs)
 rcases h2 with h2 | h2
 ·exact h2
 ·rcases h1 with h1 | h1
  ·exact h1.symm
  ·exact absurd h2 (hc.asym h1)
/-- a sorted list of letters that hang not together is their least list -/
theorem sorted_norm (hs : ∀ a b, D a b = D b a) {f : α → α → Int} (hc : Cmp f) : ∀ {d s : List α}, d.Perm s → (d.Pairwise fun x y => ¬ f y x < 0) → (s.Pairwise fun x y => D x y = false) → norm D f s.length s = d
 | [], s, hp, _, _ => by
  have : s = [] := hp.symm.eq_nil
  subst this; rfl
 | y :: d, s, hp, hd, hi => by
  have hl : s.length = d.length + 1 := by rw [← hp.length_eq]; rfl
  rw [hl]
  unfold norm
  have e := frs_all (D := D) [] s hi (by simp)
  cases hsx : s with
  | nil => rw [hsx] at hl; simp at hl
  | cons x xs =>
   rw [hsx] at e hp hi
   rw [e]
   rw [List.pairwise_cons] at hd
   have hm : minV f x xs = y := minV_is hc (hp.mem_iff.1 (List.mem_cons_self ..)) fun z hz => by
    rcases List.mem_cons.1 (hp.mem_iff.2 hz) with h | h
    ·exact .inl h
    ·by_cases e : z = y
     ·exact .inl e
     ·exact .inr ((hc.tot e).resolve_left (hd.1 z h))
   show minV f x xs :: norm D f d.length ((x :: xs).erase (minV f x xs)) = y :: d
   rw [hm]
   have hp2 : d.Perm ((x :: xs).erase y) := by
    have := hp.erase y
    rwa [List.erase_cons_head] at this
   have ih := sorted_norm hs hc hp2 hd.2 (hi.sublist List.erase_sublist)
   rw [← hp2.length_eq] at ih
   rw [ih]
end
section
variable {α : Type} [DecidableEq α] {D : α → α → Bool} {a : Int → α} {dep : Int → Int → Bool} {left : List Int}
open Go.Proofs.YtccnkebkgegohaaGreatDoor
theorem lft_rows (h : RowOf D a dep left) : ∀ k, k ≤ left.length → ((left.take k).filter fun y => !((freeUpto dep left k).contains y)).map a = lft D [] ((left.take k).map a)
 | 0, _ => by simp [lft]
 | k + 1, hk => by
  have ih := lft_rows h k (by omega)
  have hx : left[k]? = some left[k] := by simp [show k < left.length by omega]
  have e0 : left.take (k + 1) = left.take k ++ [left[k]] := by rw [List.take_add_one, hx]; rfl
  have e : (left.take (k + 1)).map a = (left.take k).map a ++ [a left[k]] := by rw [e0, List.map_append]; rfl
  have hnd : left[k] ∉ left.take k := fun hm => by
   have := h.nodup
   rw [← List.take_append_drop (k + 1) left, e0, List.append_assoc, List.nodup_append] at this
   exact this.2.2 _ hm _ (List.mem_append_left _ (List.mem_singleton.2 rfl)) rfl
  have hsub : ∀ y ∈ freeUpto dep left k, y ∈ left.take k := by
   intro y hy
   have e2 : freeUpto dep left k = freeUpto dep (left.take k) k := by
    have : ∀ j, j ≤ k → freeUpto dep left j = freeUpto dep (left.take k) j := by
     intro j
     induction j with
     | zero => intro _; rfl
     | succ j ihj =>
      intro hj
      have hg : left.getD j 0 = (left.take k).getD j 0 := by
       rw [List.getD_eq_getElem?_getD, List.getD_eq_getElem?_getD, List.getElem?_take_of_lt (by omega)]
      rw [freeUpto, freeUpto, ihj (by omega), freeAt, freeAt, hg, List.take_take, Nat.min_eq_left (by omega : j ≤ k)]
    exact this k (Nat.le_refl _)
   rw [e2] at hy
   exact freeUpto_mem' k (by rw [List.length_take]; omega) y hy
  rw [e, lft_snoc, ← ih, e0, List.filter_append, List.map_append]
  have eg : left.getD k 0 = left[k] := by simp [show k < left.length by omega]
  have eall : ((left.take k).any fun j => dep j left[k]) = !(([] ++ (left.take k).map a).all fun z => !D z (a left[k])) := by
   rw [List.nil_append, List.all_map, List.any_eq_not_all_not]
   congr 1
   rw [Bool.eq_iff_iff, List.all_eq_true, List.all_eq_true]
   constructor
   ·intro hh x hx'; have := hh x hx'; rw [h.same x (List.mem_of_mem_take hx') _ (List.getElem_mem _)] at this; simpa using this
   ·intro hh x hx'; have := hh x hx'; rw [h.same x (List.mem_of_mem_take hx') _ (List.getElem_mem _)]; simpa using this
  have efr : freeUpto dep left (k + 1) = if (([] ++ (left.take k).map a).all fun z => !D z (a left[k])) then freeUpto dep left k ++ [left[k]] else freeUpto dep left k := by
   rw [freeUpto, freeAt, eg, eall, Bool.not_not]
  have h1 : (left.take k).filter (fun y => !((freeUpto dep left (k + 1)).contains y)) = (left.take k).filter fun y => !((freeUpto dep left k).contains y) := by
   refine List.filter_congr fun y hy => ?_
   have hyk : y ≠ left[k] := fun e => hnd (by rw [← e]; exact hy)
   rw [efr]
   split
   ·simp [hyk]
   ·rfl
  rw [h1]
  congr 1
  rw [efr]
  split
  ·simp
  ·have : left[k] ∉ freeUpto dep left k := fun hm => hnd (hsub _ hm)
   simp [this]
theorem lft_row (h : RowOf D a dep left) : (left.filter fun y => !((freeUpto dep left left.length).contains y)).map a = lft D [] (left.map a) := by
 have := lft_rows h left.length (Nat.le_refl _)
 rwa [List.take_length] at this
end
end Go.Tra
end
section
namespace Go.Proofs.YtccnkebkgegohaaGreatDoor
open Go Go.Tra
/-! ### steps of acts -/
section
variable {l : List Sol} {m : List Ac}
/-- a history's steps -/
def stpL (l : List Sol) (m : List Ac) : List (List Ac) := stepsL (depA l) (nrm l) m.length m
theorem stepsL_fuel {α : Type} [DecidableEq α] {D : α → α → Bool} (hr : ∀ a, D a a = true) (hs : ∀ a b, D a b = D b a) {srt : List α → List α} : ∀ (n : Nat) {m : List α}, m.length ≤ n → stepsL D srt n m = stepsL D srt m.length m
 | 0, m, h => by
  have : m = [] := List.eq_nil_of_length_eq_zero (by omega)
  subst this; rfl
 | n + 1, [], _ => rfl
 | n + 1, x :: k, h => by
  have h1 := lft_len hr hs x k
  simp only [List.length_cons] at h ⊢
  rw [stepsL, stepsL, stepsL_fuel hr hs n (by omega), stepsL_fuel hr hs k.length h1]
theorem stpL_cons (h : m ≠ []) : stpL l m = nrm l (frs (depA l) [] m) :: stpL l (lft (depA l) [] m) := by
 cases m with
 | nil => exact absurd rfl h
 | cons x k =>
  unfold stpL
  rw [List.length_cons, stepsL, stepsL_fuel (depA_refl l) (depA_symm l) k.length (lft_len (depA_refl l) (depA_symm l) x k)]
theorem stpL_nil : stpL l [] = [] := rfl
theorem stpL_eqv : Eqv (depA l) (stpL l m).flatten m := stepsL_flat (depA_refl l) (depA_symm l) (fun m => (nrm_eqv l m).symm) (Nat.le_refl _)
theorem stpL_ok : StepsOk (depA l) (stpL l m) := stepsL_ok (depA_refl l) (depA_symm l) fun m => ((nrm_eqv l m).perm (depA_refl l)).symm
theorem stpL_len : ∀ (n : Nat) {m : List Ac}, m.length ≤ n → (stpL l m).length ≤ m.length
 | 0, m, h => by
  have : m = [] := List.eq_nil_of_length_eq_zero (by omega)
  subst this; exact Nat.le_refl _
 | n + 1, [], _ => Nat.le_refl _
 | n + 1, x :: k, h => by
  have h1 := lft_len (D := depA l) (depA_refl l) (depA_symm l) x k
  simp only [List.length_cons] at h
  have ih := stpL_len n (m := lft (depA l) [] (x :: k)) (by omega)
  rw [stpL_cons (by simp)]
  simp only [List.length_cons]
  omega
theorem nrm_sorted {d s : List Ac} (hp : d.Perm s) (hd : d.Pairwise fun x y => ¬ cmpA y x < 0) (hi : s.Pairwise fun x y => depA l x y = false) : nrm l s = d := sorted_norm (depA_symm l) cmpA_ok hp hd hi
/-- one step of the program, on its rows -/
theorem step_row {acts : List Ac} {left : List Int} (h : RowOf (depA l) (atA acts) (depI (cellsOf l acts)) left) : (freeUpto (depI (cellsOf l acts)) left left.length).map (atA acts) = frs (depA l) [] (left.map (atA acts)) ∧ (left.filter fun y => !((freeUpto (depI (cellsOf l acts)) left left.length).contains y)).map (atA acts) = lft (depA l) [] (left.map (atA acts)) ∧ RowOf (depA l) (atA acts) (depI (cellsOf l acts)) (left.filter fun y => !((freeUpto (depI (cellsOf l acts)) left left.length).contains y)) :=
 ⟨frs_row h, lft_row h, h.filter _⟩
end
end Go.Proofs.YtccnkebkgegohaaGreatDoor
end
section
namespace Go.Proofs.YtccnkebkgegohaaGreatDoor
open Go
/-! a struct stored into a list in place -/
def spl (cur : Array Value) (o : Nat) (vs : List Value) : Array Value := (cur.toList.take o ++ vs ++ cur.toList.drop (o + vs.length)).toArray
theorem spl_size {cur : Array Value} {o : Nat} {vs : List Value} (h : o + vs.length ≤ cur.size) : (spl cur o vs).size = cur.size := by
 unfold spl; simp; omega
/-- rows of k cells, one of them set -/
theorem flat_set {k : Nat} {α : Type} (row : α → List Value) (hk : ∀ a, (row a).length = k) (x : α) : ∀ (m : List α) (i : Nat), i < m.length → ((m.set i x).map row).flatten = (m.map row).flatten.take (i * k) ++ row x ++ (m.map row).flatten.drop (i * k + k)
 | y :: m, 0, _ => by
  have h : (row y).length = k := hk y
  simp only [List.set_cons_zero, List.map_cons, List.flatten_cons, Nat.zero_mul, List.take_zero, List.nil_append, Nat.zero_add]
  rw [← h, List.drop_left]
 | y :: m, i + 1, h => by
  have hy : (row y).length = k := hk y
  have ih := flat_set row hk x m i (by simpa using h)
  simp only [List.set_cons_succ, List.map_cons, List.flatten_cons, ih]
  have e1 : (i + 1) * k = (row y).length + i * k := by rw [hy, Nat.add_mul, Nat.one_mul, Nat.add_comm]
  rw [e1, List.take_length_add_append, Nat.add_assoc, List.drop_length_add_append]
  simp
theorem flat_len10 {k : Nat} {α : Type} (row : α → List Value) (hk : ∀ a, (row a).length = k) : ∀ m : List α, ((m.map row).flatten).length = m.length * k
 | [] => by simp
 | y :: m => by simp [flat_len10 row hk m, hk y, Nat.add_mul]; omega
/-- a block whose first cells are the rows of a list, one row stored -/
theorem spl_take {k : Nat} {α : Type} (row : α → List Value) (hk : ∀ a, (row a).length = k) {m : List α} {cur : Array Value} {i : Nat} (hi : i < m.length) (hc : m.length * k ≤ cur.size) (ht : cur.toList.take (m.length * k) = (m.map row).flatten) (x : α) :
  (spl cur (i * k) (row x)).toList.take (m.length * k) = ((m.set i x).map row).flatten := by
 rw [flat_set row hk x m i hi, ← ht]
 have hik : i * k + k ≤ m.length * k := by
  have := Nat.mul_le_mul_right k (show i + 1 ≤ m.length from hi)
  rwa [Nat.add_mul, Nat.one_mul] at this
 unfold spl
 simp only [hk]
 rw [List.take_take, Nat.min_eq_left (by omega), List.drop_take]
 have hP : (cur.toList.take (i * k) ++ row x).length = i * k + k := by
  rw [List.length_append, List.length_take, Array.length_toList, hk]; omega
 have hN : m.length * k = (cur.toList.take (i * k) ++ row x).length + (m.length * k - (i * k + k)) := by rw [hP]; omega
 show (cur.toList.take (i * k) ++ row x ++ cur.toList.drop (i * k + k)).take (m.length * k) = _
 generalize hM : m.length * k - (i * k + k) = M at *
 rw [hN, List.take_length_add_append]
end Go.Proofs.YtccnkebkgegohaaGreatDoor
end
section
namespace Go.Proofs.YtccnkebkgegohaaGreatDoor
open Go.RowKit Go.Rel
set_option maxRecDepth 100000
/-! a list of acts of our own, one act stored in place -/
structure OwnB (W : World) (base : Nat) (m : List Ac) (g cap : Nat) (cur : Array Value) : Prop where
 base : base ≤ g
 blk : Blk W g cur 46
 le : m.length ≤ cap
 lim : cap ≤ maxLen
 size : cur.size = cap * 10
 rows : cur.toList.take (m.length * 10) = (m.map acL).flatten
theorem OwnA.opn {W : World} {base : Nat} {v : Value} {m : List Ac} (h : OwnA W base v m) (h0 : m ≠ []) : ∃ g cap cur, v = .slice (some ⟨g, 0, none⟩) m.length cap ∧ OwnB W base m g cap cur := by
 obtain ⟨_, h | ⟨g, cap, cur, hv, hg, hh, hr⟩⟩ := h
 ·exact absurd (List.eq_nil_of_length_eq_zero h.2) h0
 ·exact ⟨g, cap, cur, hv, hg, hh, hr.1, hr.2.1, hr.2.2.1, hr.2.2.2⟩
theorem acL_len (a : Ac) : (acL a).length = 10 := rfl
@[irreducible] def VBk (base : Nat) (C : Array Value) (t : TypeId) (v : Value) (W : World) : Prop := ∃ g, v = .pointer (some ⟨g, 0, none⟩) ∧ base ≤ g ∧ Blk W g C t
theorem VBk.stab {base : Nat} {C : Array Value} {t : TypeId} (v : Value) (W W' : World) (h : VBk base C t v W) (g : Grows W W') : VBk base C t v W' := by unfold VBk at *; obtain ⟨q, h1, h2, h3⟩ := h; exact ⟨q, h1, h2, h3.grow g⟩
section
variable {W : World} {base g cap : Nat} {m : List Ac} {cur : Array Value}
theorem OwnB.own (h : OwnB W base m g cap cur) : OwnA W base (.slice (some ⟨g, 0, none⟩) m.length cap) m :=
 ⟨flat_len10 acL acL_len m, .inr ⟨g, cap, cur, rfl, h.base, h.blk, h.le, h.lim, h.size, h.rows⟩⟩
theorem OwnB.fit (h : OwnB W base m g cap cur) {i : Nat} (hi : i < m.length) (x : Ac) : i * 10 + (acL x).length ≤ cur.size := by
 rw [h.size, acL_len]
 have := h.le
 omega
theorem OwnB.set (h : OwnB W base m g cap cur) {i : Nat} (hi : i < m.length) (x : Ac) : OwnB (W.setRow g (spl cur (i * 10) (acL x))) base (m.set i x) g cap (spl cur (i * 10) (acL x)) := by
 have hf := h.fit hi x
 have hl : (m.set i x).length = m.length := List.length_set ..
 refine ⟨h.base, h.blk.rowS _, by rw [hl]; exact h.le, h.lim, by rw [spl_size hf]; exact h.size, ?_⟩
 rw [hl]
 exact spl_take acL acL_len hi (by rw [h.size]; have := h.le; omega) h.rows x
end
theorem own_shapeK {W : World} {base k : Nat} {v : Value} {m : List Ac} (h : OwnA W base v m) (hk : m.length = k) : ∃ p c, v = .slice p k c ∧ k ≤ c ∧ c ≤ 9223372036854775807 := by
 subst hk; exact own_shape' h
theorem OwnB.cells {W : World} {base g cap : Nat} {m : List Ac} {cur : Array Value} (h : OwnB W base m g cap cur) (h0 : m ≠ []) : Cells W g 0 10 (m.map acL) := by
 rcases Sl.cases h.own.sl with ⟨hl, _⟩ | ⟨b, off, c, he, _, _, _, hc⟩
 ·exact absurd (by simpa using hl) h0
 ·injection he with h1 _ _
  injection h1 with h1
  injection h1 with h1 h2 _
  subst h1 h2
  exact hc
end Go.Proofs.YtccnkebkgegohaaGreatDoor
end
section
namespace Go.Proofs.YtccnkebkgegohaaGreatDoor
open Go.RowKit Go.Rel
set_option maxRecDepth 100000
@[irreducible] def VH5 (base : Nat) (b : Sol) (p : Option Addr) (n c : Nat) (m : List Ac) (v : Value) (W : World) : Prop := ∃ bv, v = .agg #[.int .u64 (pl b 0), .int .u64 (pl b 1), .int .u64 (pl b 2), .int .u64 (pl b 3), .int .u64 (pl b 4), .int .u64 (pl b 5), .int .u64 (pl b 6), .int .u64 (pl b 7), .slice p n c, bv] ∧ OwnA W base bv m
theorem VH5.stab {base : Nat} {b : Sol} {p : Option Addr} {n c : Nat} {m : List Ac} (v : Value) (W W' : World) (h : VH5 base b p n c m v W) (g : Grows W W') : VH5 base b p n c m v W' := by
 unfold VH5 at *; obtain ⟨bv, h1, h2⟩ := h; exact ⟨bv, h1, own_grow h2 g⟩
/-- while neighbours are exchanged: their list lies as it was, with the one stored, with both -/
structure InvX (G5 : Nat) (hdr : Array Value) (base g cap i : Nat) (m : List Ac) (cur : Array Value) (x y : Ac) (d1 d2 : Bool) (W : World) : Prop where
 hd : Blk W G5 hdr 30
 own : d1 = false → OwnB W base m g cap cur
 own1 : d1 = true → d2 = false → OwnB W base (m.set i y) g cap (spl cur (i * 10) (acL y))
 own2 : d2 = true → OwnB W base ((m.set i y).set (i + 1) x) g cap (spl (spl cur (i * 10) (acL y)) ((i + 1) * 10) (acL x))
theorem OwnB.grow {W W' : World} {base g cap : Nat} {m : List Ac} {cur : Array Value} (h : OwnB W base m g cap cur) (hb : Below W.heap.size W W') : OwnB W' base m g cap cur := ⟨h.base, h.blk.grow hb, h.le, h.lim, h.size, h.rows⟩
end Go.Proofs.YtccnkebkgegohaaGreatDoor
end
section
namespace Go.Proofs.YtccnkebkgegohaaGreatDoor
open Go.RowKit Go.Rel
set_option maxRecDepth 100000
theorem acs_at {W : World} {q : Option Addr} {n c : Nat} {l : List Ac} {j : Nat} {x : Ac} (h : SlA W (.slice q n c) l) (hx : l[j]? = some x) : ∃ b o, q = some ⟨b, o, none⟩ ∧ Cells W b o 10 (l.map acL) := by
 rcases Sl.cases h with ⟨hl, _⟩ | ⟨b, o, c', he, _, _, _, hc⟩
 ·have : l = [] := by simpa using hl
  subst this; cases hx
 ·injection he with h1 _ _
  exact ⟨b, o, h1, hc⟩
end Go.Proofs.YtccnkebkgegohaaGreatDoor
end
section
namespace Go.Proofs.YtccnkebkgegohaaGreatDoor
open Go.RowKit Go.Rel
set_option maxRecDepth 100000
end Go.Proofs.YtccnkebkgegohaaGreatDoor
end
section
namespace Go.Proofs.YtccnkebkgegohaaGreatDoor
open Go.RowKit Go.Rel
set_option maxRecDepth 100000
end Go.Proofs.YtccnkebkgegohaaGreatDoor
end
section
namespace Go.Proofs.YtccnkebkgegohaaGreatDoor
open Go.RowKit Go.Rel
set_option maxRecDepth 100000
/-! drop, of the reference -/
@[irreducible] def VSl (x v : Value) (_ : World) : Prop := v = x
theorem VSl.stab {x : Value} {R : World → World → Prop} (v : Value) (W W' : World) (h : VSl x v W) (_ : R W W') : VSl x v W' := by unfold VSl at *; exact h
def J (G : Nat) (xs ys : List Ac) (a b c e : Bool) (x y z r : Value) (W : World) : Prop := G ≤ W.heap.size ∧ (a = true → b = false → OwnA W G x []) ∧ (b = true → c = false → OwnA W G y xs) ∧ (c = true → OwnA W G z (xs ++ ys)) ∧ (e = true → r = z)
theorem sln_takeC {w : World} {i n c : Nat} {a : Option Addr} {xs : List Ac} (h : SlN w (.slice a n c) xs) (hi : i ≤ n) : SlN w (.slice a i c) (xs.take i) := by
 obtain ⟨⟨a', c', he, h1, h2, h3⟩, hN⟩ := h
 cases he
 rw [List.length_map] at hi
 have hl : ((xs.take i).map acL).length = i := by rw [List.length_map, List.length_take]; omega
 rw [List.length_map] at h1
 refine ⟨⟨a, c, by rw [hl], by rw [hl]; omega, h2, ?_⟩, fun n' c' e => ?_⟩
 ·rcases h3 with h3 | ⟨b, off, rfl, h4⟩
  ·have : xs = [] := by simpa using h3
   subst this; exact .inl (by simp)
  ·refine .inr ⟨b, off, rfl, h4.1, fun p j u hu => h4.2 p j u ?_⟩
   obtain ⟨r, hr, hj⟩ := Option.bind_eq_some_iff.1 hu
   have hp : p < i := by have := (List.getElem?_eq_some_iff.1 hr).1; omega
   rw [List.map_take, List.getElem?_take_of_lt hp] at hr
   rw [hr]; exact hj
 ·injection e with e1 e2 e3
  subst e1 e3
  exact hN _ _ rfl
end Go.Proofs.YtccnkebkgegohaaGreatDoor
end
section
namespace Go.Proofs.YtccnkebkgegohaaGreatDoor
open Go.RowKit Go.Rel
set_option maxRecDepth 100000
@[irreducible] def VHd (base : Nat) (b : Sol) (p : Option Addr) (n c : Nat) (m : List Ac) (v : Value) (W : World) : Prop := ∃ bv, v = .agg #[.int .u64 (pl b 0), .int .u64 (pl b 1), .int .u64 (pl b 2), .int .u64 (pl b 3), .int .u64 (pl b 4), .int .u64 (pl b 5), .int .u64 (pl b 6), .int .u64 (pl b 7), .slice p n c, bv] ∧ OwnA W base bv m
theorem VHd.stab {base : Nat} {b : Sol} {p : Option Addr} {n c : Nat} {m : List Ac} (v : Value) (W W' : World) (h : VHd base b p n c m v W) (g : Grows W W') : VHd base b p n c m v W' := by
 unfold VHd at *; obtain ⟨bv, h1, h2⟩ := h; exact ⟨bv, h1, own_grow h2 g⟩
end Go.Proofs.YtccnkebkgegohaaGreatDoor
end
section
namespace Go.Proofs.YtccnkebkgegohaaGreatDoor
open Go.RowKit Go.Rel
set_option maxRecDepth 100000
end Go.Proofs.YtccnkebkgegohaaGreatDoor
end
section
namespace Go.Proofs.YtccnkebkgegohaaGreatDoor
open Go.RowKit Go.Rel
set_option maxRecDepth 100000
end Go.Proofs.YtccnkebkgegohaaGreatDoor
end
section
namespace Go.Proofs.YtccnkebkgegohaaGreatDoor
open Go.RowKit Go.Rel
set_option maxRecDepth 100000
/-! Turn, of the reference -/
def turnVal : Option (Nat × Nat) → Value
 | none => .tuple #[.int .i64 0, .int .i64 0, .bool false]
 | some (i, j) => .tuple #[.int .i64 (i : Int), .int .i64 (j : Int), .bool true]
end Go.Proofs.YtccnkebkgegohaaGreatDoor
end
section
namespace Go.Proofs.YtccnkebkgegohaaGreatDoor
open Go.RowKit Go.Rel
set_option maxRecDepth 100000
end Go.Proofs.YtccnkebkgegohaaGreatDoor
end
section
namespace Go.Proofs.YtccnkebkgegohaaGreatDoor
open Go.RowKit Go.Rel
set_option maxRecDepth 100000
/-! normal, of the reference -/
theorem wpList_app_ac {ops : Array Oper} {rest : List Oper} {o : Oper} {a : Act} {Q : Exit → Act → World → Prop} {w : World} (hgd : o.guard = none) (s x : Operand)
  (ho : o.op = .call { callee := .builtin .append, args := #[s, x], argTypes := #[28, 28] }) (hty : o.type = 28) (base : Nat) (v u : Value) (xs ys : List Ac) (hs : a.eval s = v) (hx : a.eval x = u)
  (hown : OwnA w base v xs) (hu : SlN w u ys) (hk : xs.length + ys.length ≤ 1048576) (hbase : base ≤ w.heap.size)
  (h : ∀ v' w', OwnA w' base v' (xs ++ ys) → w.grownBy w' v.ownBlock → wpList Tryz.prog ops Q rest (a.put o.dst v') w') : wpList Tryz.prog ops Q (o :: rest) a w := by
 refine wpList_plain hgd fun K hK => ?_
 obtain ⟨v', w', hr, h2, h3⟩ := app_ac hown hu hk hbase
 unfold Oper.wp execOp
 simp only [ho, hty, resolve, invoke, builtin, Sem.run_bind, Sem.run_pure, Result.andThen_ok, List.map_toArray, List.map_cons, List.map_nil, hs, hx, hr]
 exact hK _ _ (h v' w' h2 h3)
theorem sln_one {w : World} {g : Nat} {x : Ac} (h : Blk w g #[.int .u8 x.1, .int .i64 x.2.1, .int .u64 (pl x.2.2 0), .int .u64 (pl x.2.2 1), .int .u64 (pl x.2.2 2), .int .u64 (pl x.2.2 3), .int .u64 (pl x.2.2 4), .int .u64 (pl x.2.2 5), .int .u64 (pl x.2.2 6), .int .u64 (pl x.2.2 7)] 46) : SlN w (.slice (some ⟨g, 0, none⟩) 1 1) [x] :=
 ⟨Sl.ofBlk h rfl (by decide) (by simp [acL]) (by simp [acL, solL]), fun _ _ e => by cases e⟩
def lenS : Value → Nat
 | .slice _ n _ => n
 | _ => 0

end Go.Proofs.YtccnkebkgegohaaGreatDoor
end
section
namespace Go.Proofs.YtccnkebkgegohaaGreatDoor
open Go.RowKit Go.Rel
set_option maxRecDepth 100000
end Go.Proofs.YtccnkebkgegohaaGreatDoor
end
section
namespace Go.Proofs.YtccnkebkgegohaaGreatDoor
open Go Go.Shelf Go.RowKit
/-! slices.SortFunc at acts: the shelf's contract laid at function 129 -/
def sortAc_ren : Go.Shelf.Ren := ⟨fun | 6 => 129 | 15 => 167 | 14 => 166 | 28 => 200 | 29 => 201 | 20 => 192 | 21 => 193 | 22 => 194 | 23 => 195 | 24 => 196 | 25 => 197 | 26 => 198 | 27 => 199 | 46 => 218 | 47 => 219 | 48 => 220 | 49 => 221 | 50 => 222 | 57 => 240 | n => n, fun | 22 => 28 | 24 => 46 | 25 => 156 | 3 => 3 | 39 => 41 | 0 => 0 | 53 => 231 | 55 => 22 | 4 => 4 | 46 => 224 | 45 => 223 | 50 => 228 | 5 => 5 | 9 => 9 | 66 => 251 | 70 => 255 | 76 => 270 | 77 => 271 | n => n, fun | n => n⟩
theorem sortAc : Go.Proofs.SlLaysF0.n6 Tryz.prog sortAc_ren := {
 mixed := by kernel_rfl,
 f6 := ⟨Tryz.f129.name, by decide, Tryz.func129.trans (congrArg some (by kernel_rfl))⟩,
 f14 := ⟨Tryz.f166.name, by decide, Tryz.func166.trans (congrArg some (by kernel_rfl))⟩,
 f15 := Tryz.func167.trans (congrArg some (by kernel_rfl)),
 f20 := ⟨Tryz.f192.name, by decide, Tryz.func192.trans (congrArg some (by kernel_rfl))⟩,
 f21 := ⟨Tryz.f193.name, by decide, Tryz.func193.trans (congrArg some (by kernel_rfl))⟩,
 f22 := ⟨Tryz.f194.name, by decide, Tryz.func194.trans (congrArg some (by kernel_rfl))⟩,
 f23 := ⟨Tryz.f195.name, by decide, Tryz.func195.trans (congrArg some (by kernel_rfl))⟩,
 f24 := ⟨Tryz.f196.name, by decide, Tryz.func196.trans (congrArg some (by kernel_rfl))⟩,
 f25 := ⟨Tryz.f197.name, by decide, Tryz.func197.trans (congrArg some (by kernel_rfl))⟩,
 f26 := ⟨Tryz.f198.name, by decide, Tryz.func198.trans (congrArg some (by kernel_rfl))⟩,
 f27 := ⟨Tryz.f199.name, by decide, Tryz.func199.trans (congrArg some (by kernel_rfl))⟩,
 f28 := Tryz.func200.trans (congrArg some (by kernel_rfl)),
 f29 := Tryz.func201.trans (congrArg some (by kernel_rfl)),
 f46 := ⟨Tryz.f218.name, by decide, Tryz.func218.trans (congrArg some (by kernel_rfl))⟩,
 f47 := Tryz.func219.trans (congrArg some (by kernel_rfl)),
 f48 := Tryz.func220.trans (congrArg some (by kernel_rfl)),
 f49 := ⟨Tryz.f221.name, by decide, Tryz.func221.trans (congrArg some (by kernel_rfl))⟩,
 f50 := ⟨Tryz.f222.name, by decide, Tryz.func222.trans (congrArg some (by kernel_rfl))⟩,
 f57 := ⟨Tryz.f240.name, by decide, Tryz.func240.trans (congrArg some (by kernel_rfl))⟩,
 t0 := Tryz.underlying0,
 a0 := Tryz.isAgg0,
 z0 := Tryz.sizeOf0,
 v0 := Tryz.zeroValue0,
 t3 := Tryz.underlying3,
 a3 := Tryz.isAgg3,
 z3 := Tryz.sizeOf3,
 v3 := Tryz.zeroValue3,
 t4 := Tryz.underlying4,
 a4 := Tryz.isAgg4,
 z4 := Tryz.sizeOf4,
 v4 := Tryz.zeroValue4,
 t5 := Tryz.underlying5,
 a5 := Tryz.isAgg5,
 z5 := Tryz.sizeOf5,
 v5 := Tryz.zeroValue5,
 t9 := Tryz.underlying9,
 a9 := Tryz.isAgg9,
 z9 := Tryz.sizeOf9,
 v9 := Tryz.zeroValue9,
 t22 := Tryz.underlying28,
 a22 := Tryz.isAgg28,
 z22 := Tryz.sizeOf28,
 v22 := Tryz.zeroValue28,
 t25 := Tryz.underlying156,
 a25 := Tryz.isAgg156,
 z25 := Tryz.sizeOf156,
 v25 := Tryz.zeroValue156,
 t39 := Tryz.underlying41,
 a39 := Tryz.isAgg41,
 z39 := Tryz.sizeOf41,
 v39 := Tryz.zeroValue41,
 t45 := Tryz.underlying223,
 a45 := Tryz.isAgg223,
 z45 := Tryz.sizeOf223,
 v45 := Tryz.zeroValue223,
 t46 := Tryz.underlying224,
 a46 := Tryz.isAgg224,
 z46 := Tryz.sizeOf224,
 v46 := Tryz.zeroValue224,
 t50 := Tryz.underlying228,
 a50 := Tryz.isAgg228,
 z50 := Tryz.sizeOf228,
 v50 := Tryz.zeroValue228,
 t53 := Tryz.underlying231,
 a53 := Tryz.isAgg231,
 z53 := Tryz.sizeOf231,
 v53 := Tryz.zeroValue231,
 t55 := Tryz.underlying22,
 a55 := Tryz.isAgg22,
 z55 := Tryz.sizeOf22,
 v55 := Tryz.zeroValue22,
 t66 := Tryz.underlying251,
 a66 := Tryz.isAgg251,
 z66 := Tryz.sizeOf251,
 v66 := Tryz.zeroValue251,
 t70 := Tryz.underlying255,
 a70 := Tryz.isAgg255,
 z70 := Tryz.sizeOf255,
 v70 := Tryz.zeroValue255,
 t76 := Tryz.underlying270,
 a76 := Tryz.isAgg270,
 z76 := Tryz.sizeOf270,
 v76 := Tryz.zeroValue270,
 t77 := Tryz.underlying271,
 a77 := Tryz.isAgg271,
 z77 := Tryz.sizeOf271,
 v77 := Tryz.zeroValue271 }
end Go.Proofs.YtccnkebkgegohaaGreatDoor
end
