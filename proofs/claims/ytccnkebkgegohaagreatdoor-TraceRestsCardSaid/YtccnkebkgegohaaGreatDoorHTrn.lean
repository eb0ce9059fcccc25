import Derived.Test.YtccnkebkgegohaaGreatDoorHS8
import Derived.Laws.CopyRow
import Derived.Laws.Tables
import Derived.Laws.AppendOwn
/-
  Given contracts of functions of the program, and laws for them, one behind the other.
-/
set_option linter.unusedVariables false
set_option linter.unusedSimpArgs false
set_option linter.unusedSectionVars false
section
namespace Go.Proofs.YtccnkebkgegohaaGreatDoor
open Go Go.Tra
/-! ### the reference's rests and common beginnings -/
section
variable {l : List Sol} {m g h : List Ac}
theorem freeL_at (F : Fine l m) {i : Nat} (hi : i < m.length) : freeL l m i = true ↔ ∀ z ∈ m.take i, depA l z (atN m i) = false := by
 rw [freeL_dep F, List.all_eq_true]
 exact ⟨fun h z hz => by simpa using h z hz, fun h z hz => by rw [h z hz]; rfl⟩
theorem free_mid {x : Ac} : ∀ {u v : List Ac}, (∀ z ∈ u, depA l z x = false) → free (depA l) x (u ++ x :: v) = true
 | [], v, _ => free_cons_self ..
 | y :: u, v, h => by
  have ih := free_mid (u := u) (v := v) fun z hz => h z (List.mem_cons_of_mem _ hz)
  simp only [List.cons_append, free, h y (List.mem_cons_self ..), ih, Bool.not_false, Bool.and_true]
  split <;> rfl
theorem free_at (F : Fine l m) {i : Nat} (hi : i < m.length) (hf : freeL l m i = true) : free (depA l) (atN m i) m = true := by
 have := free_mid (v := m.drop (i + 1)) ((freeL_at F hi).1 hf)
 rwa [← at_split hi] at this
theorem free_ex {x : Ac} : ∀ {m : List Ac}, free (depA l) x m = true → ∃ u v, m = u ++ x :: v ∧ ∀ z ∈ u, depA l z x = false
 | y :: m, hf => by
  by_cases e : y = x
  ·subst e; exact ⟨[], m, rfl, by simp⟩
  ·simp only [free, if_neg e, Bool.and_eq_true, Bool.not_eq_true'] at hf
   obtain ⟨u, v, rfl, hu⟩ := free_ex hf.2
   refine ⟨y :: u, v, rfl, fun z hz => ?_⟩
   rcases List.mem_cons.1 hz with rfl | hz
   ·exact hf.1
   ·exact hu z hz
theorem free_idx (F : Fine l m) {x : Ac} (hf : free (depA l) x m = true) : ∃ i, i < m.length ∧ atN m i = x ∧ freeL l m i = true := by
 obtain ⟨u, v, rfl, hu⟩ := free_ex hf
 have hi : u.length < (u ++ x :: v).length := by simp
 have hx : atN (u ++ x :: v) u.length = x := by rw [atN_at hi]; simp
 refine ⟨u.length, hi, hx, (freeL_at F hi).2 fun z hz => ?_⟩
 rw [hx]
 rw [List.take_left] at hz
 exact hu z hz
theorem drop_eqv (F : Fine l m) {i : Nat} (hi : i < m.length) (hf : freeL l m i = true) : Eqv (depA l) m (atN m i :: dropL m i) := by
 have h1 := free_eqv (depA_symm l) (free_at F hi hf)
 have hm := at_split hi
 have e : @List.erase Ac instBEqOfDecidableEq m (atN m i) = dropL m i := by
  have : @List.erase Ac instBEqOfDecidableEq (m.take i ++ atN m i :: m.drop (i + 1)) (atN m i) = m.take i ++ m.drop (i + 1) := erase_mid (D := depA l) (depA_refl l) ((freeL_at F hi).1 hf)
  rw [← hm] at this
  exact this
 rwa [e] at h1
end
def firstR (l : List Sol) (x : Ac) (m : List Ac) : Option Nat := (List.range m.length).find? fun k => (atN m k == x) && freeL l m k
def restR (l : List Sol) : List Ac → List Ac → Option (List Ac)
 | [], m => some m
 | x :: g, m => match firstR l x m with
  | none => none
  | some k => restR l g (dropL m k)
section
variable {l : List Sol}
theorem firstR_some {x : Ac} {m : List Ac} {k : Nat} (h : firstR l x m = some k) : k < m.length ∧ atN m k = x ∧ freeL l m k = true := by
 unfold firstR at h
 have h1 := List.find?_some h
 have h2 := List.mem_range.1 (List.mem_of_find?_eq_some h)
 simp only [Bool.and_eq_true, beq_iff_eq] at h1
 exact ⟨h2, h1.1, h1.2⟩
theorem firstR_none {x : Ac} {m : List Ac} (F : Fine l m) (h : firstR l x m = none) : free (depA l) x m = false := by
 cases hf : free (depA l) x m with
 | false => rfl
 | true =>
  obtain ⟨i, h1, h2, h3⟩ := free_idx F hf
  unfold firstR at h
  rw [List.find?_eq_none] at h
  exact absurd (by simp [h2, h3]) (h i (List.mem_range.2 h1))
theorem restR_some : ∀ {g m r : List Ac}, Fine l m → restR l g m = some r → Eqv (depA l) (g ++ r) m
 | [], m, r, _, h => by cases h; exact Eqv.refl _
 | x :: g, m, r, F, h => by
  unfold restR at h
  split at h
  ·cases h
  ·next k hk =>
   obtain ⟨h1, h2, h3⟩ := firstR_some hk
   have ih := restR_some (F.sub fun a ha => dropL_sub ha) h
   have e := drop_eqv F h1 h3
   rw [h2] at e
   exact (Eqv.cons x ih).trans e.symm
theorem restR_none : ∀ {g m : List Ac}, Fine l m → restR l g m = none → ¬ Pre (depA l) g m
 | [], m, _, h, _ => by cases h
 | x :: g, m, F, h, hp => by
  have hf := hp.free (depA_refl l) (depA_symm l) (free_cons_self x g)
  unfold restR at h
  split at h
  ·next hk => rw [firstR_none F hk] at hf; cases hf
  ·next k hk =>
   obtain ⟨h1, h2, h3⟩ := firstR_some hk
   have e := drop_eqv F h1 h3
   rw [h2] at e
   refine restR_none (F.sub fun a ha => dropL_sub ha) h ?_
   have := hp.eqv (Eqv.refl _) e
   exact Pre.cancel (c := [x]) this
theorem Bey.uniq {g h : List Ac} {r r' : List Ac × List Ac × List Ac} (B : Bey (depA l) g h r) (B' : Bey (depA l) g h r') : Eqv (depA l) r.1 r'.1 ∧ Eqv (depA l) r.2.1 r'.2.1 ∧ Eqv (depA l) r.2.2 r'.2.2 := by
 have e : Eqv (depA l) r.1 r'.1 := Pre.anti (depA_refl l) (B'.great (depA_refl l) (depA_symm l) B.pre1 B.pre2) (B.great (depA_refl l) (depA_symm l) B'.pre1 B'.pre2)
 exact ⟨e, ((Eqv.app e.symm (Eqv.refl r.2.1)).trans (B.left.trans B'.left.symm)).cancel, ((Eqv.app e.symm (Eqv.refl r.2.2)).trans (B.right.trans B'.right.symm)).cancel⟩
/-- the acts with which two lists can begin, by their indices -/
def sharedR (l : List Sol) (a b : List Ac) : Option (Nat × Nat) := (List.range a.length).findSome? fun i => ((List.range b.length).find? fun k => (atN a i == atN b k) && (freeL l a i && freeL l b k)).map fun k => (i, k)
def commonR (l : List Sol) : Nat → List Ac → List Ac → List Ac → List Ac × List Ac × List Ac
 | 0, c, a, b => (c, a, b)
 | n + 1, c, a, b => match sharedR l a b with
  | none => (c, a, b)
  | some (i, k) => commonR l n (c ++ [atN a i]) (dropL a i) (dropL b k)
theorem sharedR_some {a b : List Ac} {i k : Nat} (h : sharedR l a b = some (i, k)) : (i < a.length ∧ k < b.length) ∧ atN a i = atN b k ∧ freeL l a i = true ∧ freeL l b k = true := by
 unfold sharedR at h
 obtain ⟨j, hj, h1⟩ := List.exists_of_findSome?_eq_some h
 obtain ⟨k', h2, h3⟩ := Option.map_eq_some_iff.1 h1
 cases h3
 have h4 := List.find?_some h2
 have h5 := List.mem_range.1 (List.mem_of_find?_eq_some h2)
 simp only [Bool.and_eq_true, beq_iff_eq] at h4
 exact ⟨⟨List.mem_range.1 hj, h5⟩, h4.1, h4.2.1, h4.2.2⟩
theorem sharedR_none {a b : List Ac} (F : Fine l a) (G : Fine l b) (h : sharedR l a b = none) : Apart (depA l) a b := by
 intro x hx
 cases hf : free (depA l) x b with
 | false => rfl
 | true =>
  obtain ⟨i, h1, h2, h3⟩ := free_idx F hx
  obtain ⟨k, h4, h5, h6⟩ := free_idx G hf
  unfold sharedR at h
  rw [List.findSome?_eq_none_iff] at h
  have := h i (List.mem_range.2 h1)
  rw [Option.map_eq_none_iff, List.find?_eq_none] at this
  exact absurd (by simp [h2, h3, h5, h6]) (this k (List.mem_range.2 h4))
theorem commonR_bey {g h : List Ac} : ∀ {n : Nat} {c a b : List Ac}, Fine l a → Fine l b → a.length ≤ n → Eqv (depA l) (c ++ a) g → Eqv (depA l) (c ++ b) h → Bey (depA l) g h (commonR l n c a b)
 | 0, c, a, b, F, G, hn, e1, e2 => by
  have : a = [] := List.eq_nil_of_length_eq_zero (by omega)
  subst this
  exact ⟨e1, e2, fun x hx => by cases hx⟩
 | n + 1, c, a, b, F, G, hn, e1, e2 => by
  unfold commonR
  split
  ·next hs => exact ⟨e1, e2, sharedR_none F G hs⟩
  ·next i k hs =>
   obtain ⟨⟨h1, h2⟩, h3, h4, h5⟩ := sharedR_some hs
   have d1 := drop_eqv F h1 h4
   have d2 := drop_eqv G h2 h5
   refine commonR_bey (F.sub fun a ha => dropL_sub ha) (G.sub fun a ha => dropL_sub ha) (by rw [dropL_len h1]; omega) ?_ ?_
   ·rw [List.append_assoc]
    exact (Eqv.app (Eqv.refl c) d1.symm).trans e1
   ·rw [List.append_assoc, h3]
    exact (Eqv.app (Eqv.refl c) d2.symm).trans e2
theorem common_law {g h : List Ac} (F : Fine l g) (G : Fine l h) : nrm l (commonR l g.length [] g h).1 = nrm l (beyA l g h).1 ∧ nrm l (commonR l g.length [] g h).2.1 = nrm l (beyA l g h).2.1 ∧ nrm l (commonR l g.length [] g h).2.2 = nrm l (beyA l g h).2.2 := by
 have B := commonR_bey F G (Nat.le_refl _) (c := []) (Eqv.refl g) (Eqv.refl h)
 obtain ⟨e1, e2, e3⟩ := Bey.uniq B (bey_A l g h)
 exact ⟨(nrm_iff l).2 e1, (nrm_iff l).2 e2, (nrm_iff l).2 e3⟩
theorem rest_law {g h : List Ac} (G : Fine l h) : (restR l g h).isSome = (beyA l g h).2.1.isEmpty ∧ ∀ r, restR l g h = some r → nrm l r = nrm l (beyA l g h).2.2 := by
 have B := bey_A l g h
 have hb := B.begins (depA_refl l) (depA_symm l)
 cases hr : restR l g h with
 | none =>
  have := restR_none G hr
  rw [← hb] at this
  refine ⟨?_, fun r h => by cases h⟩
  cases he : (beyA l g h).2.1 with
  | nil => exact absurd he this
  | cons _ _ => rfl
 | some r =>
  have e := restR_some G hr
  have hp : Pre (depA l) g h := ⟨r, e⟩
  have h0 := hb.2 hp
  refine ⟨by rw [h0]; rfl, fun r' hr' => ?_⟩
  cases hr'
  refine (nrm_iff l).2 ?_
  have h1 := B.left
  rw [h0, List.append_nil] at h1
  exact (e.trans (B.right.symm.trans (Eqv.app h1 (Eqv.refl _)))).cancel
end
end Go.Proofs.YtccnkebkgegohaaGreatDoor
end
section
namespace Go.Proofs.YtccnkebkgegohaaGreatDoor
open Go Go.Tra
/-! ### scans of the reference, by what was seen so far -/
section
variable {l : List Sol} {a b g h : List Ac}
theorem find_hit {p : Nat → Bool} {n k : Nat} (hk : k < n) (h0 : ∀ j, j < k → p j = false) (h1 : p k = true) : (List.range n).find? p = some k := by
 rw [List.find?_eq_some_iff_append]
 refine ⟨h1, List.range k, (List.range (n - k - 1)).map fun i => k + 1 + i, ?_, fun j hj => by rw [h0 j (List.mem_range.1 hj)]; rfl⟩
 have : n = k + (1 + (n - k - 1)) := by omega
 conv => lhs; rw [this, List.range_add, List.range_add]
 simp [List.range_succ, Function.comp_def, Nat.add_assoc]
theorem find_miss {p : Nat → Bool} {n : Nat} (h0 : ∀ j, j < n → p j = false) : (List.range n).find? p = none := by
 rw [List.find?_eq_none]
 intro j hj
 rw [h0 j (List.mem_range.1 hj)]; simp
theorem firstR_hit {x : Ac} {m : List Ac} {k : Nat} (hk : k < m.length) (h0 : ∀ j, j < k → ((atN m j == x) && freeL l m j) = false) (h1 : ((atN m k == x) && freeL l m k) = true) : firstR l x m = some k := find_hit hk h0 h1
theorem firstR_miss {x : Ac} {m : List Ac} (h0 : ∀ j, j < m.length → ((atN m j == x) && freeL l m j) = false) : firstR l x m = none := find_miss h0
def shP (l : List Sol) (a b : List Ac) (i k : Nat) : Bool := (atN a i == atN b k) && (freeL l a i && freeL l b k)
theorem findSome_hit {α : Type} {f : Nat → Option α} {n k : Nat} {x : α} (hk : k < n) (h0 : ∀ j, j < k → f j = none) (h1 : f k = some x) : (List.range n).findSome? f = some x := by
 have : n = k + (1 + (n - k - 1)) := by omega
 rw [this, List.range_add, List.findSome?_append]
 have h2 : (List.range k).findSome? f = none := by
  rw [List.findSome?_eq_none_iff]
  exact fun j hj => h0 j (List.mem_range.1 hj)
 rw [h2, List.range_add]
 simp [List.range_succ, h1]
theorem sharedR_hit {i k : Nat} (hi : i < a.length) (hk : k < b.length) (h0 : ∀ i', i' < i → ∀ k', k' < b.length → shP l a b i' k' = false) (h1 : ∀ k', k' < k → shP l a b i k' = false) (h2 : shP l a b i k = true) : sharedR l a b = some (i, k) := by
 unfold sharedR
 refine findSome_hit hi (fun j hj => ?_) ?_
 ·rw [Option.map_eq_none_iff]
  exact find_miss fun k' hk' => h0 j hj k' hk'
 ·have e : (List.range b.length).find? (fun k => (atN a i == atN b k) && (freeL l a i && freeL l b k)) = some k := find_hit hk h1 h2
  rw [e]; rfl
theorem sharedR_miss (h0 : ∀ i', i' < a.length → ∀ k', k' < b.length → shP l a b i' k' = false) : sharedR l a b = none := by
 unfold sharedR
 rw [List.findSome?_eq_none_iff]
 intro i hi
 rw [Option.map_eq_none_iff]
 exact find_miss fun k' hk' => h0 i (List.mem_range.1 hi) k' hk'
theorem scanC_miss {x : Ac} : ∀ {b : List Ac}, (∀ k, k < b.length → meetsB (acCells l x) (acCells l (atN b k)) = false) → scanC l x b = none
 | [], _ => rfl
 | y :: b, h => by
  have h0 : meetsB (acCells l x) (acCells l y) = false := h 0 (by simp)
  unfold scanC
  rw [if_neg (by rw [h0]; simp)]
  exact scanC_miss fun k hk => h (k + 1) (by simpa using hk)
theorem scanC_hit {x : Ac} : ∀ {b : List Ac} {k : Nat}, k < b.length → (∀ j, j < k → meetsB (acCells l x) (acCells l (atN b j)) = false) → meetsB (acCells l x) (acCells l (atN b k)) = true → scanC l x b = some (atN b k)
 | y :: b, 0, _, _, h1 => by
  have h0 : meetsB (acCells l x) (acCells l y) = true := h1
  unfold scanC
  rw [if_pos h0]; rfl
 | y :: b, k + 1, hk, h0, h1 => by
  have h2 : meetsB (acCells l x) (acCells l y) = false := h0 0 (by omega)
  unfold scanC
  rw [if_neg (by rw [h2]; simp)]
  exact scanC_hit (b := b) (by simpa using hk) (fun j hj => h0 (j + 1) (by omega)) h1
theorem conflictM_miss : ∀ {a : List Ac}, (∀ i, i < a.length → ∀ k, k < b.length → meetsB (acCells l (atN a i)) (acCells l (atN b k)) = false) → conflictM l a b = none
 | [], _ => rfl
 | x :: a, h => by
  unfold conflictM
  rw [scanC_miss (x := x) fun k hk => h 0 (by simp) k hk]
  exact conflictM_miss fun i hi k hk => h (i + 1) (by simpa using hi) k hk
theorem conflictM_hit : ∀ {a : List Ac} {i k : Nat}, i < a.length → k < b.length → (∀ i', i' < i → ∀ k', k' < b.length → meetsB (acCells l (atN a i')) (acCells l (atN b k')) = false) → (∀ k', k' < k → meetsB (acCells l (atN a i)) (acCells l (atN b k')) = false) → meetsB (acCells l (atN a i)) (acCells l (atN b k)) = true → conflictM l a b = some (atN a i, atN b k)
 | x :: a, 0, k, _, hk, _, h1, h2 => by
  unfold conflictM
  rw [scanC_hit (x := x) hk h1 h2]; rfl
 | x :: a, i + 1, k, hi, hk, h0, h1, h2 => by
  unfold conflictM
  rw [scanC_miss (x := x) fun k' hk' => h0 0 (by omega) k' hk']
  exact conflictM_hit (by simpa using hi) hk (fun i' hi' => h0 (i' + 1) (by omega)) h1 h2
/-- what Merge of the reference orders, is what the program orders -/
theorem mergeR_law (F : Fine l g) (G : Fine l h) (hf : Free2 l g h) : nrm l (g ++ nrm l (beyA l g h).2.2) = nrm l (joinA l g h) := by
 have B := bey_A l g h
 refine (nrm_iff l).2 ?_
 refine (Eqv.app B.left.symm (nrm_eqv l (beyA l g h).2.2).symm).trans ?_
 unfold joinA
 exact (Eqv.app (Eqv.app (Eqv.refl _) (nrm_eqv l _)) (nrm_eqv l _))
/-- the loop of common, once more -/
theorem commonR_step {n : Nat} {c a b : List Ac} {i k : Nat} (h : sharedR l a b = some (i, k)) : commonR l (n + 1) c a b = commonR l n (c ++ [atN a i]) (dropL a i) (dropL b k) := by
 rw [commonR, h]
theorem commonR_stop {n : Nat} {c a b : List Ac} (h : sharedR l a b = none) : commonR l n c a b = (c, a, b) := by
 cases n with
 | zero => rfl
 | succ n => rw [commonR, h]
theorem restR_cons {x : Ac} {g m : List Ac} {k : Nat} (h : firstR l x m = some k) : restR l (x :: g) m = restR l g (dropL m k) := by rw [restR, h]
theorem restR_stop {x : Ac} {g m : List Ac} (h : firstR l x m = none) : restR l (x :: g) m = none := by rw [restR, h]
end
end Go.Proofs.YtccnkebkgegohaaGreatDoor
end
section
namespace Go.Proofs.YtccnkebkgegohaaGreatDoor
open Go
/-! a struct stored into a list in place -/
def spl (cur : Array Value) (o : Nat) (vs : List Value) : Array Value := (cur.toList.take o ++ vs ++ cur.toList.drop (o + vs.length)).toArray
theorem spl_size {cur : Array Value} {o : Nat} {vs : List Value} (h : o + vs.length ≤ cur.size) : (spl cur o vs).size = cur.size := by
 unfold spl; simp; omega
/-- rows of k cells, one of them set -/
theorem flat_set {k : Nat} {α : Type} (row : α → List Value) (hk : ∀ a, (row a).length = k) (x : α) : ∀ (m : List α) (i : Nat), i < m.length → ((m.set i x).map row).flatten = (m.map row).flatten.take (i * k) ++ row x ++ (m.map row).flatten.drop (i * k + k)
 | y :: m, 0, _ => by
  have h : (row y).length = k := hk y
  simp only [List.set_cons_zero, List.map_cons, List.flatten_cons, Nat.zero_mul, List.take_zero, List.nil_append, Nat.zero_add]
  rw [← h, List.drop_left]
 | y :: m, i + 1, h => by
  have hy : (row y).length = k := hk y
  have ih := flat_set row hk x m i (by simpa using h)
  simp only [List.set_cons_succ, List.map_cons, List.flatten_cons, ih]
  have e1 : (i + 1) * k = (row y).length + i * k := by rw [hy, Nat.add_mul, Nat.one_mul, Nat.add_comm]
  rw [e1, List.take_length_add_append, Nat.add_assoc, List.drop_length_add_append]
  simp
theorem flat_len10 {k : Nat} {α : Type} (row : α → List Value) (hk : ∀ a, (row a).length = k) : ∀ m : List α, ((m.map row).flatten).length = m.length * k
 | [] => by simp
 | y :: m => by simp [flat_len10 row hk m, hk y, Nat.add_mul]; omega
/-- a block whose first cells are the rows of a list, one row stored -/
theorem spl_take {k : Nat} {α : Type} (row : α → List Value) (hk : ∀ a, (row a).length = k) {m : List α} {cur : Array Value} {i : Nat} (hi : i < m.length) (hc : m.length * k ≤ cur.size) (ht : cur.toList.take (m.length * k) = (m.map row).flatten) (x : α) :
  (spl cur (i * k) (row x)).toList.take (m.length * k) = ((m.set i x).map row).flatten := by
 rw [flat_set row hk x m i hi, ← ht]
 have hik : i * k + k ≤ m.length * k := by
  have := Nat.mul_le_mul_right k (show i + 1 ≤ m.length from hi)
  rwa [Nat.add_mul, Nat.one_mul] at this
 unfold spl
 simp only [hk]
 rw [List.take_take, Nat.min_eq_left (by omega), List.drop_take]
 have hP : (cur.toList.take (i * k) ++ row x).length = i * k + k := by
  rw [List.length_append, List.length_take, Array.length_toList, hk]; omega
 have hN : m.length * k = (cur.toList.take (i * k) ++ row x).length + (m.length * k - (i * k + k)) := by rw [hP]; omega
 show (cur.toList.take (i * k) ++ row x ++ cur.toList.drop (i * k + k)).take (m.length * k) = _
 generalize hM : m.length * k - (i * k + k) = M at *
 rw [hN, List.take_length_add_append]
end Go.Proofs.YtccnkebkgegohaaGreatDoor
end
section
namespace Go.Proofs.YtccnkebkgegohaaGreatDoor
open Go.RowKit Go.Rel
set_option maxRecDepth 100000
/-! a list of acts of our own, one act stored in place -/
structure OwnB (W : World) (base : Nat) (m : List Ac) (g cap : Nat) (cur : Array Value) : Prop where
 base : base ≤ g
 blk : Blk W g cur 46
 le : m.length ≤ cap
 lim : cap ≤ maxLen
 size : cur.size = cap * 10
 rows : cur.toList.take (m.length * 10) = (m.map acL).flatten
theorem OwnA.opn {W : World} {base : Nat} {v : Value} {m : List Ac} (h : OwnA W base v m) (h0 : m ≠ []) : ∃ g cap cur, v = .slice (some ⟨g, 0, none⟩) m.length cap ∧ OwnB W base m g cap cur := by
 obtain ⟨_, h | ⟨g, cap, cur, hv, hg, hh, hr⟩⟩ := h
 ·exact absurd (List.eq_nil_of_length_eq_zero h.2) h0
 ·exact ⟨g, cap, cur, hv, hg, hh, hr.1, hr.2.1, hr.2.2.1, hr.2.2.2⟩
theorem acL_len (a : Ac) : (acL a).length = 10 := rfl
@[irreducible] def VBk (base : Nat) (C : Array Value) (t : TypeId) (v : Value) (W : World) : Prop := ∃ g, v = .pointer (some ⟨g, 0, none⟩) ∧ base ≤ g ∧ Blk W g C t
theorem VBk.stab {base : Nat} {C : Array Value} {t : TypeId} (v : Value) (W W' : World) (h : VBk base C t v W) (g : Grows W W') : VBk base C t v W' := by unfold VBk at *; obtain ⟨q, h1, h2, h3⟩ := h; exact ⟨q, h1, h2, h3.grow g⟩
section
variable {W : World} {base g cap : Nat} {m : List Ac} {cur : Array Value}
theorem OwnB.own (h : OwnB W base m g cap cur) : OwnA W base (.slice (some ⟨g, 0, none⟩) m.length cap) m :=
 ⟨flat_len10 acL acL_len m, .inr ⟨g, cap, cur, rfl, h.base, h.blk, h.le, h.lim, h.size, h.rows⟩⟩
theorem OwnB.fit (h : OwnB W base m g cap cur) {i : Nat} (hi : i < m.length) (x : Ac) : i * 10 + (acL x).length ≤ cur.size := by
 rw [h.size, acL_len]
 have := h.le
 omega
theorem OwnB.set (h : OwnB W base m g cap cur) {i : Nat} (hi : i < m.length) (x : Ac) : OwnB (W.setRow g (spl cur (i * 10) (acL x))) base (m.set i x) g cap (spl cur (i * 10) (acL x)) := by
 have hf := h.fit hi x
 have hl : (m.set i x).length = m.length := List.length_set ..
 refine ⟨h.base, h.blk.rowS _, by rw [hl]; exact h.le, h.lim, by rw [spl_size hf]; exact h.size, ?_⟩
 rw [hl]
 exact spl_take acL acL_len hi (by rw [h.size]; have := h.le; omega) h.rows x
end
theorem own_shapeK {W : World} {base k : Nat} {v : Value} {m : List Ac} (h : OwnA W base v m) (hk : m.length = k) : ∃ p c, v = .slice p k c ∧ k ≤ c ∧ c ≤ 9223372036854775807 := by
 subst hk; exact own_shape' h
theorem OwnB.cells {W : World} {base g cap : Nat} {m : List Ac} {cur : Array Value} (h : OwnB W base m g cap cur) (h0 : m ≠ []) : Cells W g 0 10 (m.map acL) := by
 rcases Sl.cases h.own.sl with ⟨hl, _⟩ | ⟨b, off, c, he, _, _, _, hc⟩
 ·exact absurd (by simpa using hl) h0
 ·injection he with h1 _ _
  injection h1 with h1
  injection h1 with h1 h2 _
  subst h1 h2
  exact hc
end Go.Proofs.YtccnkebkgegohaaGreatDoor
end
section
namespace Go.Proofs.YtccnkebkgegohaaGreatDoor
open Go.RowKit Go.Rel
set_option maxRecDepth 100000
/-! some laws of lists in memory, for the laws that want no more -/
theorem sl_niln {k : Nat} (w : World) : Sl w k (.slice none 0 0) [] := ⟨none, 0, rfl, Nat.le_refl _, by decide, .inl rfl⟩
theorem acs_at {W : World} {q : Option Addr} {n c : Nat} {l : List Ac} {j : Nat} {x : Ac} (h : SlA W (.slice q n c) l) (hx : l[j]? = some x) : ∃ b o, q = some ⟨b, o, none⟩ ∧ Cells W b o 10 (l.map acL) := by
 rcases Sl.cases h with ⟨hl, _⟩ | ⟨b, o, c', he, _, _, _, hc⟩
 ·have : l = [] := by simpa using hl
  subst this; cases hx
 ·injection he with h1 _ _
  exact ⟨b, o, h1, hc⟩
end Go.Proofs.YtccnkebkgegohaaGreatDoor
end
section
namespace Go.Proofs.YtccnkebkgegohaaGreatDoor
open Go.RowKit Go.Rel
set_option maxRecDepth 100000
/-! the reference's free -/
theorem freeL_apart {l : List Sol} {m : List Ac} {i : Nat} {x : Ac} (hx : m[i]? = some x) : freeL l m i = (m.take i).all fun z => apartB l z x := by
 unfold freeL apartB
 have : atN m i = x := by unfold atN; rw [List.getD_eq_getElem?_getD, hx]; rfl
 rw [this]
set_option maxHeartbeats 4000000 in
theorem free112_main (b : Sol) (p : Option Addr) (n c ab ao k d : Nat) (l : List Sol) (m : List Ac) (i : Nat) (x : Ac) (hx : m[i]? = some x) (F : ∀ z ∈ m, fits l.length z = true) (w : World) (Hv : SlS w (.slice p n c) l) (hcs : Cells w ab ao 10 (m.map acL)) (hk : m.length = k) (hkd : k ≤ d) (hd : d ≤ 9223372036854775807) :
  Calls Tryz.prog 112 #[.agg #[.int .u64 (pl b 0), .int .u64 (pl b 1), .int .u64 (pl b 2), .int .u64 (pl b 3), .int .u64 (pl b 4), .int .u64 (pl b 5), .int .u64 (pl b 6), .int .u64 (pl b 7), .slice p n c], .slice (some ⟨ab, ao, none⟩) k d, .int .i64 (i : Int)] w fun e w' => e = .returned (.bool (freeL l m i)) ∧ Below w.heap.size w w' := by
 rw [freeL_apart hx]
 have hi : i < k := by rw [← hk]; exact (List.getElem?_eq_some_iff.1 hx).1
 have HX := Lib.hid hx
 have hab := hcs.1
 have HCS := Lib.hid hcs
 have HK := Lib.hid hk
 have HH := Lib.hid fun y (hy : y ∈ m) w' (hb : Below w.heap.size w w') => refApart_spec b (.slice p n c) l y x w' (Hv.mono hb) (F y hy) (F x (List.mem_of_getElem? hx))
 clear hcs hk Hv hx F
 generalize hR : ((m.take i).all fun z => apartB l z x) = R
 have HR := Lib.hid hR
 clear hR
 go_enter Tryz.func112, Tryz.ntmps112
 go_wp2_with fail
 have hbe : Below w.heap.size w (w.alloc (.cells (#[.int .u64 (pl b 0), .int .u64 (pl b 1), .int .u64 (pl b 2), .int .u64 (pl b 3), .int .u64 (pl b 4), .int .u64 (pl b 5), .int .u64 (pl b 6), .int .u64 (pl b 7), .slice p n c] : Array Value) 27)) := bel_alloc (bel_refl _) _
 have g0 : Blk (w.alloc (.cells (#[.int .u64 (pl b 0), .int .u64 (pl b 1), .int .u64 (pl b 2), .int .u64 (pl b 3), .int .u64 (pl b 4), .int .u64 (pl b 5), .int .u64 (pl b 6), .int .u64 (pl b 7), .slice p n c] : Array Value) 27)) w.heap.size #[.int .u64 (pl b 0), .int .u64 (pl b 1), .int .u64 (pl b 2), .int .u64 (pl b 3), .int .u64 (pl b 4), .int .u64 (pl b 5), .int .u64 (pl b 6), .int .u64 (pl b 7), .slice p n c] 27 := Blk.new _ _ _
 generalize (w.alloc (.cells (#[.int .u64 (pl b 0), .int .u64 (pl b 1), .int .u64 (pl b 2), .int .u64 (pl b 3), .int .u64 (pl b 4), .int .u64 (pl b 5), .int .u64 (pl b 6), .int .u64 (pl b 7), .slice p n c] : Array Value) 27)) = w0 at *
 go_loopw [7] (fun kv wr => ∃ j : Nat, j ≤ i ∧ kv = .int .i64 j ∧ Hid (((m.take j).all fun z => apartB l z x) = true) ∧ Blk wr w.heap.size #[.int .u64 (pl b 0), .int .u64 (pl b 1), .int .u64 (pl b 2), .int .u64 (pl b 3), .int .u64 (pl b 4), .int .u64 (pl b 5), .int .u64 (pl b 6), .int .u64 (pl b 7), .slice p n c] 27 ∧ Below w.heap.size w wr) (fun kv _ => i - (intOf kv).toNat)
 case atStart => exact ⟨0, Nat.zero_le _, rfl, by show _ = _; simp, g0, hbe⟩
 case round =>
  clear g0 hbe
  obtain ⟨j, hj, rfl, HP, g0, hB⟩ := hrel
  by_cases hlt : j < i
  ·have hy : m[j]? = some (m[j]'(by rw [HK.out]; omega)) := by simp
   generalize m[j]'(by rw [HK.out]; omega) = y at hy
   obtain ⟨b0, b1, b2, b3, b4, b5, b6, b7, b8, b9⟩ := ac_cells (HCS.out.mono hB HCS.out.1) hy
   obtain ⟨d0, d1, d2, d3, d4, d5, d6, d7, d8, d9⟩ := ac_cells (HCS.out.mono hB HCS.out.1) HX.out
   have HY := Lib.hid hy
   clear hy
   have c0 := g0.cell
   have l0 := g0.lt
   have hszB := hB.size
   have labr : ab < wr.heap.size := by omega
   obtain ⟨r, hr⟩ : ∃ r, apartB l y x = r := ⟨_, rfl⟩
   have HI : Hid (∀ w', Below w.heap.size w w' → Calls Tryz.prog 102 #[.agg #[.int .u64 (pl b 0), .int .u64 (pl b 1), .int .u64 (pl b 2), .int .u64 (pl b 3), .int .u64 (pl b 4), .int .u64 (pl b 5), .int .u64 (pl b 6), .int .u64 (pl b 7), .slice p n c], .agg #[.int .u8 y.1, .int .i64 y.2.1, .int .u64 (pl y.2.2 0), .int .u64 (pl y.2.2 1), .int .u64 (pl y.2.2 2), .int .u64 (pl y.2.2 3), .int .u64 (pl y.2.2 4), .int .u64 (pl y.2.2 5), .int .u64 (pl y.2.2 6), .int .u64 (pl y.2.2 7)], .agg #[.int .u8 x.1, .int .i64 x.2.1, .int .u64 (pl x.2.2 0), .int .u64 (pl x.2.2 1), .int .u64 (pl x.2.2 2), .int .u64 (pl x.2.2 3), .int .u64 (pl x.2.2 4), .int .u64 (pl x.2.2 5), .int .u64 (pl x.2.2 6), .int .u64 (pl x.2.2 7)]] w' fun e w'' => e = .returned (.bool r) ∧ Below w'.heap.size w' w'') := by
    subst hr; exact Lib.hid fun w' hb => HH.out y (List.mem_of_getElem? HY.out) w' hb
   have HRr := Lib.hid hr
   clear hr
   have hjk : j < k := by omega
   go_wp2_with fail
   refine wp_region_inv Grows (fun _ _ => True) [Is (.agg #[.int .u64 (pl b 0), .int .u64 (pl b 1), .int .u64 (pl b 2), .int .u64 (pl b 3), .int .u64 (pl b 4), .int .u64 (pl b 5), .int .u64 (pl b 6), .int .u64 (pl b 7), .slice p n c]), Is (.slice (some ⟨ab, ao, none⟩) k d), Is (.int .i64 (j : Int)), Is (.pointer (some ⟨ab, ao + j * 10, none⟩)), Is (.agg #[.int .u8 y.1, .int .i64 y.2.1, .int .u64 (pl y.2.2 0), .int .u64 (pl y.2.2 1), .int .u64 (pl y.2.2 2), .int .u64 (pl y.2.2 3), .int .u64 (pl y.2.2 4), .int .u64 (pl y.2.2 5), .int .u64 (pl y.2.2 6), .int .u64 (pl y.2.2 7)]), Is (.slice (some ⟨ab, ao, none⟩) k d), Is (.int .i64 (i : Int)), Is (.pointer (some ⟨ab, ao + i * 10, none⟩)), Is (.agg #[.int .u8 x.1, .int .i64 x.2.1, .int .u64 (pl x.2.2 0), .int .u64 (pl x.2.2 1), .int .u64 (pl x.2.2 2), .int .u64 (pl x.2.2 3), .int .u64 (pl x.2.2 4), .int .u64 (pl x.2.2 5), .int .u64 (pl x.2.2 6), .int .u64 (pl x.2.2 7)]), Is (.bool r), Is (.bool (!r))] (by kernel_rfl) (by kernel_rfl) rfl Grows.refl (fun _ _ _ => Grows.trans) (stable_mem ⟨fun _ _ _ h _ => h, fun _ _ _ h _ => h, fun _ _ _ h _ => h, fun _ _ _ h _ => h, fun _ _ _ h _ => h, fun _ _ _ h _ => h, fun _ _ _ h _ => h, fun _ _ _ h _ => h, fun _ _ _ h _ => h, fun _ _ _ h _ => h, fun _ _ _ h _ => h, trivial⟩) _ (Below.drew (Below.refl _ _)) trivial ?_
   iterate 9 (refine inv_cons ?_ (fun _ => ?_); · intro L w1 hat hb hI hF; have hc := (Grows.cells hb).1; (try simp [factsI, Region.binds, Is] at hF); go_simp; (try first | exact Grows.refl _ | exact trivial | rfl))
   refine inv_cons ?_ (fun v9 => ?_)
   ·intro L w1 hat hb hI hF; have hc := (Grows.cells hb).1; try simp [factsI, Region.binds, Is] at hF
    go_simp
    refine (HI.out _ (bel_trans hB hb)).mono ?_
    rintro e w2 ⟨rfl, hb2⟩
    exact ⟨rfl, hb2⟩
   refine inv_cons ?_ (fun v10 => ?_)
   ·intro L w1 hat hb hI hF; have hc := (Grows.cells hb).1; try simp [factsI, Region.binds, Is] at hF
    go_simp
    try first | exact Grows.refl _ | exact trivial | rfl
   refine inv_nil ?_
   intro w1 hb hI hF
   simp [Is, Nat.forall_lt_succ_right] at hF
   simp only [Act.put, List.setIfInBounds_toArray, List.set_cons_succ, List.set_cons_zero, hF]
   clear hF
   have hB2 := bel_trans hB hb
   have g0' := g0.grow hb
   clear g0 hB b0 b1 b2 b3 b4 b5 b6 b7 b8 b9 d0 d1 d2 d3 d4 d5 d6 d7 d8 d9 c0 l0 hb
   have hs : ((m.take (j + 1)).all fun z => apartB l z x) = r := by
    rw [List.take_add_one, HY.out, List.all_append, HP.out]; simp [HRr.out]
   cases r with
   | true =>
    go_wp2_with fail
    go_roundw
    case rel => exact ⟨j + 1, by omega, by go_num, hs, g0', hB2⟩
    case measure => simp [intOf]; omega
   | false =>
    have hRf : R = false := by
     rw [← HR.out, Bool.eq_false_iff]
     intro ht
     rw [Bool.eq_false_iff] at hs
     refine hs (List.all_eq_true.2 fun z hz => List.all_eq_true.1 ht z ?_)
     exact (List.take_sublist_take_left (show j + 1 ≤ i by omega)).subset hz
    subst hRf
    go_wp2_with fail
    refine bodyPost_ret (v := .bool false) (by simp [results, Tryz.results112, go_sem]) rfl ⟨rfl, hB2⟩
  ·have hji : j = i := by omega
   subst hji
   have hRt : R = true := HR.out.symm.trans HP.out
   subst hRt
   go_wp2_with fail
   refine bodyPost_ret (v := .bool true) (by simp [results, Tryz.results112, go_sem]) rfl ⟨rfl, hB⟩
theorem free112_spec (b : Sol) (v av : Value) (l : List Sol) (m : List Ac) (i : Nat) (hi : i < m.length) (F : ∀ z ∈ m, fits l.length z = true) (w : World) (Hv : SlS w v l) (Hav : SlA w av m) :
  Calls Tryz.prog 112 #[.agg #[.int .u64 (pl b 0), .int .u64 (pl b 1), .int .u64 (pl b 2), .int .u64 (pl b 3), .int .u64 (pl b 4), .int .u64 (pl b 5), .int .u64 (pl b 6), .int .u64 (pl b 7), v], av, .int .i64 (i : Int)] w fun e w' => e = .returned (.bool (freeL l m i)) ∧ Below w.heap.size w w' := by
 have Hv' := Hv
 have Hav' := Hav
 obtain ⟨p, c, rfl, _, _⟩ := Hv'
 obtain ⟨q, d, rfl, hkd, hd, _⟩ := Hav'
 have hx : m[i]? = some m[i] := by simp [hi]
 obtain ⟨ab, ao, rfl, hcs⟩ := acs_at Hav hx
 exact free112_main b p _ c ab ao _ d l m i _ hx F w Hv hcs (List.length_map ..).symm hkd hd
end Go.Proofs.YtccnkebkgegohaaGreatDoor
end
