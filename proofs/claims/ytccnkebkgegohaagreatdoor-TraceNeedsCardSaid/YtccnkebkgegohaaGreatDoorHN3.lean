import Derived.Test.YtccnkebkgegohaaGreatDoorHN2
/-
  Given contracts of functions of the program, and laws for them, one behind the other.
-/
set_option linter.unusedVariables false
set_option linter.unusedSimpArgs false
set_option linter.unusedSectionVars false
section
namespace Go.Proofs.YtccnkebkgegohaaGreatDoor
open Go Go.Tra Go.RowKit Go.Rel
set_option maxRecDepth 100000
theorem last_eqv {l : List Sol} {g : List Ac} {i : Nat} {x : Ac} (F : Fine l g) (hx : g[i]? = some x) (hl : lastU l g i g.length = true) : Eqv (depA l) g (dropL g i ++ [x]) := by
 rw [lastU_drop hx, List.all_eq_true] at hl
 obtain ⟨hi, hxx⟩ := List.getElem?_eq_some_iff.1 hx
 have hd : ∀ y ∈ g.drop (i + 1), depA l y x = false := fun y hy => by
  have h1 := hl y hy
  unfold apartB at h1
  rw [depA_symm l, depA_meets (F.ne x (List.mem_of_getElem? hx))]
  simpa using h1
 have hp := Eqv.pass (depA_symm l) (u := g.drop (i + 1)) hd
 have e : g.take i ++ x :: g.drop (i + 1) = g := by
  rw [← hxx, ← List.drop_eq_getElem_cons hi, List.take_append_drop]
 have h := (Eqv.refl (D := depA l) (g.take i)).app hp.symm
 rw [e] at h
 unfold dropL
 rw [List.append_assoc]
 exact h
theorem last_iff (l : List Sol) (g : List Ac) {i : Nat} (hi : i < g.length) : lastU l g i g.length = !ndU (needsM (depN (cellsOf l g))) g.length i := by
 have key := last_needs (depN (cellsOf l g)) g.length i
 have hx : g[i]? = some g[i] := by simp
 have ha : ∀ t, t < g.length → apartB l (atN g i) (atN g t) = !depN (cellsOf l g) i t := fun t ht => by
  have hy : g[t]? = some g[t] := by simp
  have h1 : atN g i = g[i] := by unfold atN; simp [hi]
  have h2 : atN g t = g[t] := by unfold atN; simp [ht]
  rw [h1, h2]; exact apart_dep' hx hy
 unfold ndU
 cases hn : ((List.range g.length).any fun j => (needsM (depN (cellsOf l g)) j).contains (i : Int)) with
 | true =>
  obtain ⟨t, a, b, c⟩ := key.1 hn
  show _ = false
  cases hl : lastU l g i g.length with
  | false => rfl
  | true =>
   unfold lastU at hl
   rw [List.all_eq_true] at hl
   have := hl t (List.mem_range.2 b)
   rw [ha t b, c] at this
   simp at this; omega
 | false =>
  show _ = true
  unfold lastU
  rw [List.all_eq_true]
  intro t ht
  have ht := List.mem_range.1 ht
  rw [ha t ht]
  by_cases h : t ≤ i
  ·simp [h]
  ·cases hd : depN (cellsOf l g) i t with
   | false => simp
   | true =>
    have := key.2 ⟨t, by omega, ht, hd⟩
    rw [hn] at this; cases this
theorem FI_contains (P : Nat → Bool) (k i : Nat) (hi : i < k) : (FI P k).contains (i : Int) = P i := by
 unfold FI
 rw [Bool.eq_iff_iff]
 simp
 constructor
 ·rintro ⟨a, h, e⟩
  have : a = i := by omega
  subst this; exact h.2
 ·exact fun h => ⟨i, ⟨hi, h⟩, rfl⟩
theorem dep_list {l : List Sol} {g : List Ac} (F : Fine l g) {i j : Nat} {x y : Ac} (hx : g[i]? = some x) (hy : g[j]? = some y) : depN (cellsOf l g) i j = depA l x y := by
 have h1 := apart_dep' (l := l) hx hy
 have h2 := apart_dep F (y := y) (List.mem_of_getElem? hx)
 unfold apartB at h1
 rw [h1] at h2
 cases h3 : depN (cellsOf l g) i j <;> cases h4 : depA l x y <;> simp_all
theorem chain_law {l : List Sol} {g : List Ac} (F : Fine l g) (FN : Fine l (nrm l g)) : (ordersR (depN (cellsOf l g)) g.length == 1) = chU (fun j => apartB l (atN (nrm l g) j) (atN (nrm l g) (j + 1))) (nrm l g).length := by
 have h1 := orders_one (depN (cellsOf l g)) g.length
 have h2 : (∀ i, i + 1 < g.length → depN (cellsOf l g) i (i + 1) = true) ↔ Chn (depA l) g := by
  rw [chn_at]
  constructor
  ·intro h i x y hx hy
   rw [← dep_list F hx hy]
   exact h i (List.getElem?_eq_some_iff.1 hy).1
  ·intro h i hi
   have hx : g[i]? = some g[i] := by simp
   have hy : g[i + 1]? = some g[i + 1] := by simp
   rw [dep_list F hx hy]
   exact h i _ _ hx hy
 have h3 : chU (fun j => apartB l (atN (nrm l g) j) (atN (nrm l g) (j + 1))) (nrm l g).length = true ↔ Chn (depA l) (nrm l g) := by
  rw [chn_at]
  unfold chU chJ
  rw [List.all_eq_true]
  constructor
  ·intro h i x y hx hy
   have hi := (List.getElem?_eq_some_iff.1 hy).1
   have this : (!apartB l (atN (nrm l g) i) (atN (nrm l g) (i + 1))) = true := h i (List.mem_range.2 (by omega))
   have e1 : atN (nrm l g) i = x := by unfold atN; simp [hx]
   have e2 : atN (nrm l g) (i + 1) = y := by unfold atN; simp [hy]
   rw [e1, e2] at this
   have h5 := apart_dep FN (y := y) (List.mem_of_getElem? hx)
   unfold apartB at this
   rw [h5] at this
   simpa using this
  ·intro h i hi
   have hi := List.mem_range.1 hi
   have hx : (nrm l g)[i]? = some ((nrm l g)[i]'(by omega)) := by simp
   have hy : (nrm l g)[i + 1]? = some ((nrm l g)[i + 1]'(by omega)) := by simp
   have := h i _ _ hx hy
   have e1 : atN (nrm l g) i = (nrm l g)[i]'(by omega) := by unfold atN; simp [hx]
   have e2 : atN (nrm l g) (i + 1) = (nrm l g)[i + 1]'(by omega) := by unfold atN; simp [hy]
   show (!apartB l (atN (nrm l g) i) (atN (nrm l g) (i + 1))) = true
   rw [e1, e2]
   have h5 := apart_dep FN (y := (nrm l g)[i + 1]'(by omega)) (List.mem_of_getElem? hx)
   unfold apartB
   rw [h5, this]; rfl
 rw [Bool.eq_iff_iff, beq_iff_eq, h1, h2, h3, chn_nrm]
theorem Indep_fineY {b : Sol} {l : List Sol} {m : List Ac} (hp : chkPat b l = 0) (F : Fine l m) {x y : Ac} (hx : x ∈ m) (hy : y ∈ m) {v : Value} (w : World) (Hv : SlS w v l) :
  Calls Tryz.prog 32 #[.agg #[.int .u64 (pl b 0), .int .u64 (pl b 1), .int .u64 (pl b 2), .int .u64 (pl b 3), .int .u64 (pl b 4), .int .u64 (pl b 5), .int .u64 (pl b 6), .int .u64 (pl b 7), v], .agg #[.int .u8 x.1, .int .i64 x.2.1, .int .u64 (pl x.2.2 0), .int .u64 (pl x.2.2 1), .int .u64 (pl x.2.2 2), .int .u64 (pl x.2.2 3), .int .u64 (pl x.2.2 4), .int .u64 (pl x.2.2 5), .int .u64 (pl x.2.2 6), .int .u64 (pl x.2.2 7)], .agg #[.int .u8 y.1, .int .i64 y.2.1, .int .u64 (pl y.2.2 0), .int .u64 (pl y.2.2 1), .int .u64 (pl y.2.2 2), .int .u64 (pl y.2.2 3), .int .u64 (pl y.2.2 4), .int .u64 (pl y.2.2 5), .int .u64 (pl y.2.2 6), .int .u64 (pl y.2.2 7)]] w fun e w' => e = .returned (.tuple #[.bool (apartB l x y), .int .i64 0]) ∧ Below w.heap.size w w' := by
 have hs := Independent_spec b v l x y w Hv
 have hx0 : chkAc b l x = 0 := by unfold chkAc; rw [if_pos hp, if_pos (F.fit x hx)]
 have hy0 : chkAc b l y = 0 := by unfold chkAc; rw [if_pos hp, if_pos (F.fit y hy)]
 have hi : indErr b l x y = 0 := by unfold indErr; rw [if_pos hx0, hy0]
 rw [hi] at hs
 exact hs
theorem needs_small {dep : Nat → Nat → Bool} {i n : Nat} (hi : i < n) (hn : n ≤ 60) : (needsM dep i).length ≤ 60 ∧ ∀ x ∈ needsM dep i, 0 ≤ x ∧ x < 60 := by
 rw [needsM_range]
 constructor
 ·rw [List.length_map]
  exact Nat.le_trans (List.length_filter_le ..) (by rw [List.length_range]; omega)
 ·intro x hx
  obtain ⟨k, hk, rfl⟩ := List.mem_map.1 hx
  have := List.mem_range.1 (List.mem_filter.1 hk).1
  omega
theorem TraceNeeds_walk (b0 : Sol) (u0 : Value) (l0 : List Sol) (av0 : Value) (g : List Ac) (w : World)
  (S0 : SlS w u0 l0) (A0 : SlA w av0 g) (_ : ∀ n c, av0 = .slice none n c → c = 0) (hT : w.cell? ⟨5, 15, none⟩ = some (.int .u8 4)) :
  Calls Tryz.prog 14 #[.agg #[.int .u64 (pl b0 0), .int .u64 (pl b0 1), .int .u64 (pl b0 2), .int .u64 (pl b0 3), .int .u64 (pl b0 4), .int .u64 (pl b0 5), .int .u64 (pl b0 6), .int .u64 (pl b0 7), u0, av0]] w fun e w' => e = .returned (.bool true) ∧ Below w.heap.size w w' := by
 have HAL := alive_h w hT
 have T0 := S0
 have X0 := A0
 obtain ⟨p0, c0, rfl, _, _⟩ := T0
 obtain ⟨q0, d0, rfl, hkd, hdM⟩ := X0
 have hk0 : (g.map acL).length = g.length := List.length_map ..
 generalize (g.map acL).length = k0 at *
 generalize (l0.map solL).length = n0 at *
 cases hm : many k0 n0 with
 | true => exact TraceNeeds_many b0 p0 q0 n0 c0 k0 d0 w hm HAL
 | false =>
  cases hg : begunM b0 l0 g with
  | inl x =>
   have hx := begunM_bad hg
   exact TraceNeeds_bad b0 p0 q0 n0 c0 k0 d0 w hm x.2 hx (Lib.hid fun w' hb => Last_bad hg w' (S0.mono hb) (A0.mono hb)) HAL
  | inr s =>
   obtain ⟨t, R, _⟩ := Runs.of hg
   have h60 := R.len
   have h14 : k0 ≤ 14 := few_len hm (by omega)
   have hA : ∀ (i : Nat) (x : Ac), g[i]? = some x → ndU (needsM (depN (cellsOf l0 g))) k0 i = false → Eqv (depA l0) g (dropL g i ++ [x]) := fun i x hx hn => by
    have hi := (List.getElem?_eq_some_iff.1 hx).1
    refine last_eqv R.fine hx ?_
    rw [last_iff l0 g hi, ← hk0, hn]; rfl
   have HA2 := fun (i : Nat) (hi : i < k0) w' (hb : Below w.heap.size w w') => Lib.hid fun w2 (hb2 : Below w'.heap.size w' w2) => (by
    have h := acted_good hg (i : Int) w2 (S0.mono (bel_trans hb hb2)) (A0.mono (bel_trans hb hb2))
    have hE : actedE g.length (i : Int) = 0 := by unfold actedE; rw [if_neg (by omega)]
    rw [hE] at h
    exact h)
   refine TraceNeeds_good b0 p0 q0 n0 c0 k0 d0 w hm l0 g (by omega) (Lib.hid hk0.symm) (Lib.hid ⟨S0, A0⟩) (FI (fun i => lastU l0 g i k0) k0) (needsM (depN (cellsOf l0 g))) (fun i => dropL g i) (fun i => dropL g i ++ [atN g i]) (nrm l0 g) (ordersR (depN (cellsOf l0 g)) k0) (fun j => apartB l0 (atN (nrm l0 g) j) (atN (nrm l0 g) (j + 1)))
    (Lib.hid fun i hi => needs_small hi (by omega)) ?_ ?_ ?_ ?_ ?_ ?_ ?_ ?_ ?_ ?_ ?_ HAL
   ·exact Lib.hid fun i hi => by
     rw [FI_contains _ _ _ hi]
     have := last_iff l0 g (i := i) (by omega)
     rw [← hk0] at this
     exact this
   ·have := chain_law R.fine R.nrm.fine
    rw [← hk0] at this
    exact Lib.hid this
   ·exact Lib.hid fun w' hb => (Last_good hg w' (S0.mono hb) (A0.mono hb)).mono fun e w2 h => by
     obtain ⟨u, he, h1, h2⟩ := h
     rw [← hk0] at h1
     exact ⟨u, he, h1, h1, h2⟩
   ·exact Lib.hid fun i hi w' hb => Needs_good hg i (by omega) w' (S0.mono hb) (A0.mono hb)
   ·refine Lib.hid fun i hi hn w' hb => Undo_late b0 p0 q0 n0 c0 k0 d0 i w' l0 g s hk0.symm hi ?_ (HA2 i hi w' hb)
    rw [last_iff l0 g (by omega), ← hk0, hn]; rfl
   ·refine Lib.hid fun i hi hn w' hb => Undo_yesN b0 p0 q0 n0 c0 k0 d0 i w' l0 g s hk0.symm hi (by omega) (pat_len R.pat) (Lib.hid (S0.mono hb)) (Lib.hid (A0.mono hb)) ?_ (HA2 i hi w' hb)
    rw [last_iff l0 g (by omega), ← hk0, hn]; rfl
   ·refine Lib.hid fun i x hx hn w' p n c q k d hS hA' => ?_
    have h := Act_spec b0 _ _ l0 (dropL g i) x w' hS hA'
    have R2 := R.eqv (hA i x hx hn)
    obtain ⟨u, R1⟩ := R2.pre (Pre.left (dropL g i) [x])
    have e0 : actE b0 l0 (dropL g i) x = 0 := by
     unfold actE checkR
     rw [R1.good, R2.good]; rfl
    have e1 : atN g i = x := by unfold atN; simp [hx]
    refine h.mono fun e w2 hh => ?_
    unfold ActRes at hh
    rw [if_pos e0] at hh
    show HRes b0 l0 (dropL g i ++ [atN g i]) 0 w' e w2
    rw [e1]
    exact hh
   ·refine Lib.hid fun i hi hn w' p n c q k d hb hS hA' => ?_
    have hx : g[i]? = some (g[i]'(by omega)) := by simp
    have e1 : atN g i = g[i]'(by omega) := by unfold atN; simp [hx]
    have E := hA i _ hx hn
    rw [← e1] at E
    have h := Equal_r (R.eqv E) R w' hS hA' (S0.mono hb) (A0.mono hb)
    have e2 : (nrm l0 (dropL g i ++ [atN g i]) == nrm l0 g) = true := beq_iff_eq.2 ((nrm_iff l0).2 E.symm)
    rw [e2] at h
    exact h
   ·exact Lib.hid fun w' hb => Normal_r R w' (S0.mono hb) (A0.mono hb)
   ·refine Lib.hid fun w' hb => ?_
    have h := Orders_good hg (by omega) w' (S0.mono hb) (A0.mono hb)
    rw [← hk0, orders_law _ h14] at h
    exact h
   ·refine Lib.hid fun i x y hx hy w' p n c hS => ?_
    have h := Indep_fineY R.pat R.nrm.fine (List.mem_of_getElem? hx) (List.mem_of_getElem? hy) w' hS
    have e1 : atN (nrm l0 g) i = x := by unfold atN; simp [hx]
    have e2 : atN (nrm l0 g) (i + 1) = y := by unfold atN; simp [hy]
    show Calls _ _ _ _ fun e w'' => e = .returned (.tuple #[.bool (apartB l0 (atN (nrm l0 g) i) (atN (nrm l0 g) (i + 1))), .int .i64 0]) ∧ Below w'.heap.size w' w''
    rw [e1, e2]
    exact h
end Go.Proofs.YtccnkebkgegohaaGreatDoor
end
