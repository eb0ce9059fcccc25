import Derived.Test.YtccnkebkgegohaaGreatDoorT
/-
  Given contracts of functions of the program, and laws for them, one behind the other.
-/
set_option linter.unusedVariables false
set_option linter.unusedSimpArgs false
set_option linter.unusedSectionVars false
section
namespace Go.Proofs.YtccnkebkgegohaaGreatDoor
open Go.RowKit Go.Rel
set_option maxRecDepth 100000
/-! histories in a slice; few -/
abbrev Hv := Sol × Value × Value
abbrev hvL (h : Hv) : List Value := [.int .u64 (pl h.1 0), .int .u64 (pl h.1 1), .int .u64 (pl h.1 2), .int .u64 (pl h.1 3), .int .u64 (pl h.1 4), .int .u64 (pl h.1 5), .int .u64 (pl h.1 6), .int .u64 (pl h.1 7), h.2.1, h.2.2]
abbrev hvV (h : Hv) : Value := .agg #[.int .u64 (pl h.1 0), .int .u64 (pl h.1 1), .int .u64 (pl h.1 2), .int .u64 (pl h.1 3), .int .u64 (pl h.1 4), .int .u64 (pl h.1 5), .int .u64 (pl h.1 6), .int .u64 (pl h.1 7), h.2.1, h.2.2]
theorem hv_cells {w : World} {b off : Nat} {l : List Hv} {k : Nat} {x : Hv} (h : Cells w b off 10 (l.map hvL)) (hx : l[k]? = some x) :
  w.cell? ⟨b, off + k * 10, none⟩ = some (.int .u64 (pl x.1 0)) ∧ w.cell? ⟨b, off + k * 10 + 1, none⟩ = some (.int .u64 (pl x.1 1)) ∧ w.cell? ⟨b, off + k * 10 + 2, none⟩ = some (.int .u64 (pl x.1 2)) ∧ w.cell? ⟨b, off + k * 10 + 3, none⟩ = some (.int .u64 (pl x.1 3)) ∧ w.cell? ⟨b, off + k * 10 + 4, none⟩ = some (.int .u64 (pl x.1 4)) ∧
  w.cell? ⟨b, off + k * 10 + 5, none⟩ = some (.int .u64 (pl x.1 5)) ∧ w.cell? ⟨b, off + k * 10 + 6, none⟩ = some (.int .u64 (pl x.1 6)) ∧ w.cell? ⟨b, off + k * 10 + 7, none⟩ = some (.int .u64 (pl x.1 7)) ∧ w.cell? ⟨b, off + k * 10 + 8, none⟩ = some x.2.1 ∧ w.cell? ⟨b, off + k * 10 + 9, none⟩ = some x.2.2 := by
 have hm : (l.map hvL)[k]? = some (hvL x) := by simp [hx]
 exact ⟨h.2 k 0 _ (by rw [hm]; rfl), h.2 k 1 _ (by rw [hm]; rfl), h.2 k 2 _ (by rw [hm]; rfl), h.2 k 3 _ (by rw [hm]; rfl), h.2 k 4 _ (by rw [hm]; rfl), h.2 k 5 _ (by rw [hm]; rfl), h.2 k 6 _ (by rw [hm]; rfl), h.2 k 7 _ (by rw [hm]; rfl), h.2 k 8 _ (by rw [hm]; rfl), h.2 k 9 _ (by rw [hm]; rfl)⟩
def many (m n : Nat) : Bool := decide ((14 < m ∧ m ≤ 60) ∨ 100 < m ∨ 10 < n)
set_option maxHeartbeats 4000000 in
theorem few86 (b : Sol) (a a' : Option Addr) (n c m c' : Nat) (w : World) : Calls Tryz.prog 86 #[.agg #[.int .u64 (pl b 0), .int .u64 (pl b 1), .int .u64 (pl b 2), .int .u64 (pl b 3), .int .u64 (pl b 4), .int .u64 (pl b 5), .int .u64 (pl b 6), .int .u64 (pl b 7), .slice a n c, .slice a' m c']] w fun e w' => e = .returned (.bool (many m n)) ∧ Below w.heap.size w w' := by
 go_enter Tryz.func86, Tryz.ntmps86
 go_wp2_with fail
 all_goals go_ret
 all_goals refine ⟨ret_bool ?_, bel_by⟩
 all_goals (unfold many; rw [Bool.eq_iff_iff, decide_eq_true_iff]; first | omega | (simp; omega))
set_option maxHeartbeats 2000000 in
theorem IndexFunc140 (v : Value) (l : List Hv) (p : Hv → Bool) (w : World) (h : Sl w 10 v (l.map hvL))
  (hf : ∀ w', Below w.heap.size w w' → ∀ x ∈ l, Calls Tryz.prog 86 #[hvV x] w' fun e w'' => e = .returned (.bool (p x)) ∧ Below w'.heap.size w' w'') :
  Calls Tryz.prog 140 #[v, .func (.func 86) #[] #[]] w fun e w' => e = .returned (.int .i64 (idx p l)) ∧ Below w.heap.size w w' := by
 rcases h.cases with ⟨hl, a, c, rfl, hm⟩ | ⟨b, off, c, rfl, hc, hm, hpos, hcs⟩
 ·have hl' : l = [] := by simpa using hl
  subst hl'
  clear hl
  go_enter Tryz.func140, Tryz.ntmps140
  go_wp2
  refine wp_loop_rounds 1 ?_
  rw [rounds_succ]
  go_wp2
  go_ret
  exact ⟨rfl, Below.refl _ _⟩
 ·rw [List.length_map] at hc hpos ⊢
  have H := Lib.hid hcs; clear hcs h
  have HF := Lib.hid hf; clear hf
  generalize hn : l.length = n at hc hpos ⊢
  have HN := Lib.hid hn; clear hn
  go_enter Tryz.func140, Tryz.ntmps140
  go_wp2_with fail
  go_loopw [8] (fun i wr => ∃ k : Nat, k ≤ n ∧ i = .int .i64 k ∧ Hid (∀ (j : Nat) (y : Hv), j < k → l[j]? = some y → p y = false) ∧ Below w.heap.size w wr) (fun i _ => n - (intOf i).toNat)
  case atStart => exact ⟨0, Nat.zero_le _, rfl, fun j y hj => by omega, Below.refl _ _⟩
  case round =>
   obtain ⟨k, hk, rfl, HP, hbel⟩ := hrel
   by_cases hlt : k < n
   ·have hx : l[k]? = some (l[k]'(by rw [HN.out]; exact hlt)) := by simp
    have hcc := hv_cells (H.out.mono hbel H.out.1) hx
    have hmem := List.mem_of_getElem? hx
    generalize l[k]'(by rw [HN.out]; exact hlt) = x at hx hcc hmem
    obtain ⟨c0, c1, c2, c3, c4, c5, c6, c7, c8, c9⟩ := hcc
    have HX := Lib.hid hx; clear hx
    have HM := Lib.hid hmem; clear hmem
    have hsz := hbel.size
    go_wp2_with fail
    refine (HF.out _ hbel x HM.out).mono ?_
    rintro e w2 ⟨rfl, hb2⟩
    have hB : Below w.heap.size w w2 := bel_trans hbel hb2
    clear hb2 c0 c1 c2 c3 c4 c5 c6 c7 c8 c9
    cases hp : p x with
    | true =>
     go_wp2_with fail
     go_ret
     exact ⟨ret_int (idx_found HX.out hp HP.out).symm, hB⟩
    | false =>
     go_wp2_with fail
     go_roundw
     case rel => exact ⟨k + 1, by omega, by go_num, fun j y hj hy => (by
      rcases Nat.lt_or_eq_of_le (Nat.le_of_lt_succ hj) with h | h
      ·exact HP.out j y h hy
      ·subst h; rw [HX.out] at hy; cases hy; exact hp), hB⟩
     case measure => simp [intOf]; omega
   ·go_wp2_with fail
    go_ret
    exact ⟨ret_int (idx_none (fun j y hy => HP.out j y (by have := (List.getElem?_eq_some_iff.1 hy).1; rw [HN.out] at this; omega) hy)).symm, hbel⟩
set_option maxHeartbeats 2000000 in
theorem ContainsFunc85 (v : Value) (l : List Hv) (p : Hv → Bool) (w : World) (h : Sl w 10 v (l.map hvL))
  (hf : ∀ w', Below w.heap.size w w' → ∀ x ∈ l, Calls Tryz.prog 86 #[hvV x] w' fun e w'' => e = .returned (.bool (p x)) ∧ Below w'.heap.size w' w'') :
  Calls Tryz.prog 85 #[v, .func (.func 86) #[] #[]] w fun e w' => e = .returned (.bool (l.any p)) ∧ Below w.heap.size w w' := by
 have hge := idx_ge p l
 have hany : Hid (l.any p = decide (0 ≤ idx p l)) := by
  show _ = _
  rw [Bool.eq_iff_iff, decide_eq_true_eq, idx_nonneg]
 have hidx := Lib.hid (IndexFunc140 v l p w h hf)
 generalize idx p l = i at hge hany hidx
 clear hf h
 go_enter Tryz.func85, Tryz.ntmps85
 go_wp2_with fail
 refine hidx.out.mono ?_
 rintro e w1 ⟨rfl, hb⟩
 go_wp2_with fail
 go_ret
 refine ⟨?_, hb⟩
 rw [hany.out]; rfl
/-- how many acts, pieces a history has -/
def manyH (h : Hv) : Bool := match h.2.1, h.2.2 with
 | .slice _ n _, .slice _ m _ => many m n
 | _, _ => false
set_option maxHeartbeats 2000000 in
theorem few_spec (v : Value) (l : List Hv) (w : World) (h : Sl w 10 v (l.map hvL)) (hs : ∀ x ∈ l, ∃ b a n c a' m c', x = (b, .slice a n c, .slice a' m c')) :
  Calls Tryz.prog 19 #[v] w fun e w' => e = .returned (.bool (!l.any manyH)) ∧ Below w.heap.size w w' := by
 have H := Lib.hid (ContainsFunc85 v l manyH w h fun w' _ x hx => by
  obtain ⟨b, a, n, c, a', m, c', rfl⟩ := hs x hx
  exact few86 b a a' n c m c' w')
 generalize l.any manyH = r at *
 clear h hs
 go_enter Tryz.func19, Tryz.ntmps19
 go_wp2_with fail
 refine H.out.mono ?_
 rintro e w1 ⟨rfl, hb⟩
 go_wp2_with fail
 go_ret
 exact ⟨rfl, hb⟩
end Go.Proofs.YtccnkebkgegohaaGreatDoor
end
section
namespace Go.Proofs.YtccnkebkgegohaaGreatDoor
open Go.RowKit Go.Rel
set_option maxRecDepth 100000
/-! SameActs, SamePattern, Same, same -/
set_option maxHeartbeats 4000000 in
theorem SameActs_spec (v u : Value) (l m : List Ac) (w : World) (hv : SlA w v l) (hu : SlA w u m) :
  Calls Tryz.prog 80 #[v, u] w fun e w' => e = .returned (.bool (l == m)) ∧ Below w.heap.size w w' := by
 have hlv : ∃ a c, v = .slice a l.length c := by obtain ⟨a, c, h, _⟩ := hv; exact ⟨a, c, by rw [h, List.length_map]⟩
 have hlu : ∃ a c, u = .slice a m.length c := by obtain ⟨a, c, h, _⟩ := hu; exact ⟨a, c, by rw [h, List.length_map]⟩
 by_cases hlen : l.length = m.length
 ·rcases hv.cases with ⟨hl, a, c, rfl, hm⟩ | ⟨b, off, c, rfl, hc, hm, hpos, hcs⟩
  ·have hl' : l = [] := by simpa using hl
   subst hl'
   have hm' : m = [] := List.eq_nil_of_length_eq_zero hlen.symm
   subst hm'
   obtain ⟨a', c', rfl⟩ := hlu
   clear hlv hl hv hu hlen
   simp only [List.length_nil]
   go_enter Tryz.func80, Tryz.ntmps80
   go_wp2_with fail
   refine wp_loop_rounds 1 ?_
   rw [rounds_succ]
   go_wp2_with fail
   go_ret
   exact ⟨rfl, Below.refl _ _⟩
  ·rcases hu.cases with ⟨hl, _⟩ | ⟨b', off', c', rfl, hc', hm', hpos', hcs'⟩
   ·have hl' : m = [] := by simpa using hl
    subst hl'
    rw [List.length_map] at hpos
    simp at hlen; rw [hlen] at hpos; simp at hpos
   rw [List.length_map] at hc hpos hc' hpos' ⊢
   rw [List.length_map]
   rw [← hlen] at hc' hpos' ⊢
   have H := Lib.hid hcs; have H' := Lib.hid hcs'
   have lb := hcs.1; have lb' := hcs'.1
   clear hcs hcs' hv hu hlv hlu
   generalize hn : l.length = n at *
   have HN := Lib.hid (And.intro hn hlen); clear hn hlen
   go_enter Tryz.func80, Tryz.ntmps80
   go_wp2_with fail
   go_loopw [5] (fun i wr => ∃ k q : Nat, k ≤ n ∧ i = .int .i64 k ∧ Hid (∀ (j : Nat), j < k → l[j]? = m[j]?) ∧ wr = w.drewN q) (fun i _ => n - (intOf i).toNat)
   case atStart => exact ⟨0, 0, Nat.zero_le _, rfl, fun j hj => (by omega), rfl⟩
   case round =>
    obtain ⟨k, q, hk, rfl, HP, rfl⟩ := hrel
    by_cases hlt : k < n
    ·have hx : l[k]? = some (l[k]'(by rw [HN.out.1]; exact hlt)) := by simp
     have hy : m[k]? = some (m[k]'(by rw [← HN.out.2]; exact hlt)) := by simp
     generalize l[k]'(by rw [HN.out.1]; exact hlt) = x at hx
     generalize m[k]'(by rw [← HN.out.2]; exact hlt) = y at hy
     obtain ⟨c0, c1, c2, c3, c4, c5, c6, c7, c8, c9⟩ := ac_cells H.out hx
     obtain ⟨d0, d1, d2, d3, d4, d5, d6, d7, d8, d9⟩ := ac_cells H'.out hy
     have HX := Lib.hid (And.intro hx hy); clear hx hy
     go_wp2_with fail
     go_quiet (fail)
     go_wp2_with fail
     ·have he : (x != y) = true := by assumption
      have hz : (l == m) = false := by
       rw [beq_eq_false_iff_ne]
       intro h
       have h1 := HX.out.1
       rw [h, HX.out.2] at h1
       cases h1
       simp at he
      go_ret
      exact ⟨ret_bool hz.symm, bel_by⟩
     ·have he : (x != y) = false := by assumption
      have hxy : x = y := by simpa using he
      refine ⟨⟨k + 1, q + nq, by omega, by go_num, fun j hj => ?_, rfl⟩, by simp [intOf]; omega⟩
      rcases Nat.lt_or_eq_of_le (Nat.le_of_lt_succ hj) with h | h
      ·exact HP.out j h
      ·subst h; rw [HX.out.1, HX.out.2, hxy]
    ·have hkn : k = n := by omega
     subst hkn
     have hz : (l == m) = true := by
      rw [beq_iff_eq]
      apply List.ext_getElem?
      intro j
      by_cases hj : j < l.length
      ·exact HP.out j (by rw [← HN.out.1]; exact hj)
      ·rw [List.getElem?_eq_none (by omega), List.getElem?_eq_none (by have := HN.out; omega)]
     have HZ := Lib.hid hz; clear hz
     go_wp2_with fail
     go_ret
     exact ⟨ret_bool HZ.out.symm, below_drewN (Below.refl _ _) _⟩
 ·have hz : (l == m) = false := by
   rw [beq_eq_false_iff_ne]
   exact fun h => hlen (by rw [h])
  obtain ⟨a, c, rfl⟩ := hlv
  obtain ⟨a', c', rfl⟩ := hlu
  have HZ := Lib.hid hz; clear hz hv hu
  generalize l.length = n at *
  generalize m.length = n' at *
  go_enter Tryz.func80, Tryz.ntmps80
  go_wp2_with fail
  go_ret
  exact ⟨ret_bool HZ.out.symm, Below.refl _ _⟩

set_option maxHeartbeats 4000000 in
theorem SamePattern_loop (blank : Sol) (b off b' off' c c' n : Nat) (l m : List Sol) (w : World) (hcs : Cells w b off 8 (l.map solL)) (hcs' : Cells w b' off' 8 (m.map solL)) (hn : l.length = n) (hn' : m.length = n) (hc : n ≤ c) (hc' : n ≤ c') (hm : c ≤ 9223372036854775807) (hm' : c' ≤ 9223372036854775807) :
  Calls Tryz.prog 25 #[.agg #[.int .u64 (pl blank 0), .int .u64 (pl blank 1), .int .u64 (pl blank 2), .int .u64 (pl blank 3), .int .u64 (pl blank 4), .int .u64 (pl blank 5), .int .u64 (pl blank 6), .int .u64 (pl blank 7), .slice (some ⟨b, off, none⟩) n c], .agg #[.int .u64 (pl blank 0), .int .u64 (pl blank 1), .int .u64 (pl blank 2), .int .u64 (pl blank 3), .int .u64 (pl blank 4), .int .u64 (pl blank 5), .int .u64 (pl blank 6), .int .u64 (pl blank 7), .slice (some ⟨b', off', none⟩) n c']] w fun e w' => e = .returned (.bool (l == m)) ∧ Below w.heap.size w w' := by
 have H := Lib.hid hcs; have H' := Lib.hid hcs'
 have lb := hcs.1; have lb' := hcs'.1
 have hb1 : b < w.heap.size + 1 := by omega
 have hb1' : b' < w.heap.size + 1 := by omega
 clear hcs hcs'
 have HN := Lib.hid (And.intro hn (hn.trans hn'.symm)); clear hn hn'
 go_enter Tryz.func25, Tryz.ntmps25
 go_wp2_with fail
 go_loopw [5] (fun i wr => ∃ k q : Nat, k ≤ n ∧ i = .int .i64 k ∧ Hid (∀ (j : Nat), j < k → l[j]? = m[j]?) ∧ wr = ((w.alloc (.cells (#[.int .u64 (pl blank 0), .int .u64 (pl blank 1), .int .u64 (pl blank 2), .int .u64 (pl blank 3), .int .u64 (pl blank 4), .int .u64 (pl blank 5), .int .u64 (pl blank 6), .int .u64 (pl blank 7), .slice (some ⟨b, off, none⟩) n c] : Array Value) 27)).alloc (.cells (#[.int .u64 (pl blank 0), .int .u64 (pl blank 1), .int .u64 (pl blank 2), .int .u64 (pl blank 3), .int .u64 (pl blank 4), .int .u64 (pl blank 5), .int .u64 (pl blank 6), .int .u64 (pl blank 7), .slice (some ⟨b', off', none⟩) n c'] : Array Value) 27)).drewN q) (fun i _ => n - (intOf i).toNat)
 case atStart => exact ⟨0, 0, Nat.zero_le _, rfl, fun j hj => (by omega), rfl⟩
 case round =>
  obtain ⟨k, q, hk, rfl, HP, rfl⟩ := hrel
  by_cases hlt : k < n
  ·have hx : l[k]? = some (l[k]'(by rw [HN.out.1]; exact hlt)) := by simp
   have hy : m[k]? = some (m[k]'(by rw [← HN.out.2, HN.out.1]; exact hlt)) := by simp
   generalize l[k]'(by rw [HN.out.1]; exact hlt) = x at hx
   generalize m[k]'(by rw [← HN.out.2, HN.out.1]; exact hlt) = y at hy
   obtain ⟨c0, c1, c2, c3, c4, c5, c6, c7⟩ := sol_cells H.out hx
   obtain ⟨d0, d1, d2, d3, d4, d5, d6, d7⟩ := sol_cells H'.out hy
   have HX := Lib.hid (And.intro hx hy); clear hx hy
   go_wp2_with fail
   go_quiet (fail)
   go_wp2_with fail
   ·have he : (x != y) = true := by assumption
    have hz : (l == m) = false := by
     rw [beq_eq_false_iff_ne]
     intro h
     have h1 := HX.out.1
     rw [h, HX.out.2] at h1
     cases h1
     simp at he
    go_ret
    exact ⟨ret_bool hz.symm, bel_by⟩
   ·have he : (x != y) = false := by assumption
    have hxy : x = y := by simpa using he
    refine ⟨⟨k + 1, q + nq, by omega, by go_num, fun j hj => ?_, rfl⟩, by simp [intOf]; omega⟩
    rcases Nat.lt_or_eq_of_le (Nat.le_of_lt_succ hj) with h | h
    ·exact HP.out j h
    ·subst h; rw [HX.out.1, HX.out.2, hxy]
  ·have hkn : k = n := by omega
   subst hkn
   have hz : (l == m) = true := by
    rw [beq_iff_eq]
    apply List.ext_getElem?
    intro j
    by_cases hj : j < l.length
    ·exact HP.out j (by rw [← HN.out.1]; exact hj)
    ·rw [List.getElem?_eq_none (by omega), List.getElem?_eq_none (by have := HN.out; omega)]
   have HZ := Lib.hid hz; clear hz
   go_wp2_with fail
   go_ret
   exact ⟨ret_bool HZ.out.symm, bel_by⟩
set_option maxHeartbeats 4000000 in
theorem SamePattern_len (blank : Sol) (a a' : Option Addr) (n n' c c' : Nat) (w : World) (h : n ≠ n') :
  Calls Tryz.prog 25 #[.agg #[.int .u64 (pl blank 0), .int .u64 (pl blank 1), .int .u64 (pl blank 2), .int .u64 (pl blank 3), .int .u64 (pl blank 4), .int .u64 (pl blank 5), .int .u64 (pl blank 6), .int .u64 (pl blank 7), .slice a n c], .agg #[.int .u64 (pl blank 0), .int .u64 (pl blank 1), .int .u64 (pl blank 2), .int .u64 (pl blank 3), .int .u64 (pl blank 4), .int .u64 (pl blank 5), .int .u64 (pl blank 6), .int .u64 (pl blank 7), .slice a' n' c']] w fun e w' => e = .returned (.bool false) ∧ Below w.heap.size w w' := by
 go_enter Tryz.func25, Tryz.ntmps25
 go_wp2_with fail
 all_goals go_ret
 all_goals exact ⟨rfl, bel_by⟩
set_option maxHeartbeats 4000000 in
theorem SamePattern_nil (blank : Sol) (a a' : Option Addr) (c c' : Nat) (w : World) :
  Calls Tryz.prog 25 #[.agg #[.int .u64 (pl blank 0), .int .u64 (pl blank 1), .int .u64 (pl blank 2), .int .u64 (pl blank 3), .int .u64 (pl blank 4), .int .u64 (pl blank 5), .int .u64 (pl blank 6), .int .u64 (pl blank 7), .slice a 0 c], .agg #[.int .u64 (pl blank 0), .int .u64 (pl blank 1), .int .u64 (pl blank 2), .int .u64 (pl blank 3), .int .u64 (pl blank 4), .int .u64 (pl blank 5), .int .u64 (pl blank 6), .int .u64 (pl blank 7), .slice a' 0 c']] w fun e w' => e = .returned (.bool true) ∧ Below w.heap.size w w' := by
 go_enter Tryz.func25, Tryz.ntmps25
 go_wp2_with fail
 refine wp_loop_rounds 1 ?_
 rw [rounds_succ]
 go_wp2_with fail
 all_goals go_ret
 all_goals exact ⟨rfl, bel_by⟩
set_option maxHeartbeats 4000000 in
theorem SamePattern_blank (blank blank2 : Sol) (h : (blank != blank2) = true) (a a' : Option Addr) (n n' c c' : Nat) (w : World) :
    Calls Tryz.prog 25 #[.agg #[.int .u64 (pl blank 0), .int .u64 (pl blank 1), .int .u64 (pl blank 2), .int .u64 (pl blank 3), .int .u64 (pl blank 4), .int .u64 (pl blank 5), .int .u64 (pl blank 6), .int .u64 (pl blank 7), .slice a n c], .agg #[.int .u64 (pl blank2 0), .int .u64 (pl blank2 1), .int .u64 (pl blank2 2), .int .u64 (pl blank2 3), .int .u64 (pl blank2 4), .int .u64 (pl blank2 5), .int .u64 (pl blank2 6), .int .u64 (pl blank2 7), .slice a' n' c']] w fun e w' => e = .returned (.bool false) ∧ Below w.heap.size w w' := by
  go_enter Tryz.func25, Tryz.ntmps25
  go_wp2_with fail
  all_goals first | (exfalso; have hh : blank = blank2 := by assumption
                     subst hh; simp at h; done) | (go_ret; exact ⟨rfl, bel_by⟩)
theorem SamePattern_spec (blank blank2 : Sol) (v v2 : Value) (l l2 : List Sol) (w : World) (hv : SlS w v l) (hu : SlS w v2 l2) :
  Calls Tryz.prog 25 #[.agg #[.int .u64 (pl blank 0), .int .u64 (pl blank 1), .int .u64 (pl blank 2), .int .u64 (pl blank 3), .int .u64 (pl blank 4), .int .u64 (pl blank 5), .int .u64 (pl blank 6), .int .u64 (pl blank 7), v], .agg #[.int .u64 (pl blank2 0), .int .u64 (pl blank2 1), .int .u64 (pl blank2 2), .int .u64 (pl blank2 3), .int .u64 (pl blank2 4), .int .u64 (pl blank2 5), .int .u64 (pl blank2 6), .int .u64 (pl blank2 7), v2]] w fun e w' => e = .returned (.bool (samePat blank l blank2 l2)) ∧ Below w.heap.size w w' := by
 unfold samePat
 by_cases hb : blank = blank2
 ·subst hb
  rw [beq_self_eq_true, Bool.true_and]
  by_cases hl : l.length = l2.length
  ·rcases hv.cases with ⟨h0, a, c, rfl, hm⟩ | ⟨b, off, c, rfl, hc, hm, hpos, hcs⟩
   ·have h0' : l = [] := by simpa using h0
    subst h0'
    have h1' : l2 = [] := List.eq_nil_of_length_eq_zero hl.symm
    subst h1'
    obtain ⟨a', c', rfl, _⟩ := hu
    exact SamePattern_nil blank a a' c c' w
   ·rcases hu.cases with ⟨h0, _⟩ | ⟨b', off', c', rfl, hc', hm', hpos', hcs'⟩
    ·have h0' : l2 = [] := by simpa using h0
     subst h0'
     rw [List.length_map] at hpos
     simp at hl; rw [hl] at hpos; simp at hpos
    ·rw [List.length_map] at hc hpos hc' hpos' ⊢
     rw [List.length_map]
     rw [← hl] at hc' ⊢
     exact SamePattern_loop blank b off b' off' c c' l.length l l2 w hcs hcs' rfl hl.symm hc hc' hm hm'
  ·have hz : (l == l2) = false := by
    rw [beq_eq_false_iff_ne]
    exact fun h => hl (by rw [h])
   rw [hz]
   obtain ⟨a, c, rfl, _⟩ := hv
   obtain ⟨a', c', rfl, _⟩ := hu
   exact SamePattern_len blank a a' _ _ c c' w (by simpa using hl)
 ·have : (blank == blank2) = false := by simpa using hb
  rw [this, Bool.false_and]
  obtain ⟨a, c, rfl, _⟩ := hv
  obtain ⟨a', c', rfl, _⟩ := hu
  exact SamePattern_blank blank blank2 (by simpa using hb) a a' _ _ c c' w
set_option maxHeartbeats 4000000 in
theorem Same_spec (blank blank2 : Sol) (v av v2 av2 : Value) (l l2 : List Sol) (m m2 : List Ac) (w : World) (hv : SlS w v l) (ha : SlA w av m) (hv2 : SlS w v2 l2) (ha2 : SlA w av2 m2) :
  Calls Tryz.prog 23 #[.agg #[.int .u64 (pl blank 0), .int .u64 (pl blank 1), .int .u64 (pl blank 2), .int .u64 (pl blank 3), .int .u64 (pl blank 4), .int .u64 (pl blank 5), .int .u64 (pl blank 6), .int .u64 (pl blank 7), v, av], .agg #[.int .u64 (pl blank2 0), .int .u64 (pl blank2 1), .int .u64 (pl blank2 2), .int .u64 (pl blank2 3), .int .u64 (pl blank2 4), .int .u64 (pl blank2 5), .int .u64 (pl blank2 6), .int .u64 (pl blank2 7), v2, av2]] w fun e w' => e = .returned (.bool (samePat blank l blank2 l2 && (m == m2))) ∧ Below w.heap.size w w' := by
 have H1 := Lib.hid fun w' (hb : Below w.heap.size w w') => SamePattern_spec blank blank2 v v2 l l2 w' (hv.mono hb) (hv2.mono hb)
 have H2 := Lib.hid fun w' (hb : Below w.heap.size w w') => SameActs_spec av av2 m m2 w' (ha.mono hb) (ha2.mono hb)
 generalize samePat blank l blank2 l2 = r at *
 generalize (m == m2) = r2 at *
 clear hv ha hv2 ha2
 go_enter Tryz.func23, Tryz.ntmps23
 go_wp2_with fail
 refine (H1.out _ bel_by).mono ?_
 rintro e w1 ⟨rfl, hb⟩
 have hB1 : Below w.heap.size w w1 := bel_trans bel_by hb
 have g0 : Blk w1 w.heap.size #[.int .u64 (pl blank 0), .int .u64 (pl blank 1), .int .u64 (pl blank 2), .int .u64 (pl blank 3), .int .u64 (pl blank 4), .int .u64 (pl blank 5), .int .u64 (pl blank 6), .int .u64 (pl blank 7), v, av] 30 := Blk.grow blk_by hb
 have g1 : Blk w1 (w.heap.size + 1) #[.int .u64 (pl blank2 0), .int .u64 (pl blank2 1), .int .u64 (pl blank2 2), .int .u64 (pl blank2 3), .int .u64 (pl blank2 4), .int .u64 (pl blank2 5), .int .u64 (pl blank2 6), .int .u64 (pl blank2 7), v2, av2] 30 := Blk.grow blk_by hb
 have c0 := g0.cell
 have l0 := g0.lt
 have c1 := g1.cell
 have l1 := g1.lt
 clear hb g0 g1
 cases r with
 | false =>
  go_wp2_with fail
  go_ret
  exact ⟨rfl, hB1⟩
 | true =>
  go_wp2_with fail
  refine (H2.out _ hB1).mono ?_
  rintro e w2 ⟨rfl, hb2⟩
  have hB2 : Below w.heap.size w w2 := bel_trans hB1 hb2
  clear c0 l0 c1 l1
  go_wp2_with fail
  go_ret
  exact ⟨rfl, hB2⟩
end Go.Proofs.YtccnkebkgegohaaGreatDoor
end
section
namespace Go.Proofs.YtccnkebkgegohaaGreatDoor
open Go.RowKit Go.Rel
set_option maxRecDepth 100000
/-! the exported functions' results, one form for all ways -/
@[go_sem high] theorem eqStn (d : Nat) (s s' : Sol) (o o' : Int) (w : World) : (Op.equalIn (d+3) 37 (.agg #[.int .u64 (pl s 0), .int .u64 (pl s 1), .int .u64 (pl s 2), .int .u64 (pl s 3), .int .u64 (pl s 4), .int .u64 (pl s 5), .int .u64 (pl s 6), .int .u64 (pl s 7), .int .u8 o]) (.agg #[.int .u64 (pl s' 0), .int .u64 (pl s' 1), .int .u64 (pl s' 2), .int .u64 (pl s' 3), .int .u64 (pl s' 4), .int .u64 (pl s' 5), .int .u64 (pl s' 6), .int .u64 (pl s' 7), .int .u8 o'])).run Tryz.prog w = .ok ((s == s') && (o == o')) w := by
 rw [run_equalIn_struct w (d+2) 37 _ _ (by kernel_rfl) (by kernel_rfl)]
 go_simp
 split
 ·next h1 =>
  split
  ·next h2 => simp [h1, h2]
  ·next h2 => simp [h1, h2]
 ·next h1 => simp [h1]
/-- a returned history, and an error -/
def HRes (b : Sol) (l : List Sol) (M : List Ac) (E : Int) (w : World) (e : Ending) (w' : World) : Prop :=
 ∃ p n c q k d, e = .returned (.tuple #[.agg #[.int .u64 (pl b 0), .int .u64 (pl b 1), .int .u64 (pl b 2), .int .u64 (pl b 3), .int .u64 (pl b 4), .int .u64 (pl b 5), .int .u64 (pl b 6), .int .u64 (pl b 7), .slice p n c, .slice q k d], .int .i64 E]) ∧ SlS w' (.slice p n c) l ∧ SlA w' (.slice q k d) M ∧ Below w.heap.size w w'
theorem hres_own {b : Sol} {l : List Sol} {M : List Ac} {E : Int} {w w' : World} {base : Nat} {pv bv : Value} (hS : OwnS w' base pv l) (hA : OwnA w' base bv M) (hb : Below w.heap.size w w') : HRes b l M E w (.returned (.tuple #[.agg #[.int .u64 (pl b 0), .int .u64 (pl b 1), .int .u64 (pl b 2), .int .u64 (pl b 3), .int .u64 (pl b 4), .int .u64 (pl b 5), .int .u64 (pl b 6), .int .u64 (pl b 7), pv, bv], .int .i64 E])) w' := by
 obtain ⟨p, c, rfl, _, _⟩ := own_shape' hS
 obtain ⟨q, d, rfl, _, _⟩ := own_shape' hA
 exact ⟨p, _, c, q, _, d, rfl, hS.sl, hA.sl, hb⟩
theorem sl_nil {k : Nat} (w : World) : Sl w k (.slice none 0 0) [] := ⟨none, 0, rfl, Nat.le_refl _, by decide, .inl rfl⟩
theorem zero_hist : (.agg #[.int .u64 0, .int .u64 0, .int .u64 0, .int .u64 0, .int .u64 0, .int .u64 0, .int .u64 0, .int .u64 0, .slice none 0 0, .slice none 0 0] : Value) = .agg #[.int .u64 (pl 0 0), .int .u64 (pl 0 1), .int .u64 (pl 0 2), .int .u64 (pl 0 3), .int .u64 (pl 0 4), .int .u64 (pl 0 5), .int .u64 (pl 0 6), .int .u64 (pl 0 7), .slice none 0 0, .slice none 0 0] := by simp only [pl_zero]
theorem hres_zero {x : Int} {w w' : World} (hb : Below w.heap.size w w') : HRes 0 [] [] x w (.returned (.tuple #[.agg #[.int .u64 0, .int .u64 0, .int .u64 0, .int .u64 0, .int .u64 0, .int .u64 0, .int .u64 0, .int .u64 0, .slice none 0 0, .slice none 0 0], .int .i64 x])) w' := by
 rw [zero_hist]
 exact ⟨none, 0, 0, none, 0, 0, rfl, sl_nil w', sl_nil w', hb⟩
section
variable {b : Sol} {l : List Sol} {m : List Ac} {t : StB} {v av : Value}
theorem sl_take {w : World} {k i n c : Nat} {a : Option Addr} {xs : List (List Value)} (h : Sl w k (.slice a n c) xs) (hi : i ≤ n) : Sl w k (sliced a 0 i i k) (xs.take i) := by
 obtain ⟨a', c', he, h1, h2, h3⟩ := h
 cases he
 have hl : (xs.take i).length = i := by rw [List.length_take]; omega
 have e : sliced a 0 i i k = .slice a i i := by
  unfold sliced
  by_cases h0 : i = 0
  ·simp [h0]
  ·rcases h3 with rfl | ⟨b, off, rfl, _⟩
   ·simp at hi; omega
   ·simp [h0, Go.WideShapes.add_plain]
 rw [e]
 refine ⟨a, i, by rw [hl], by rw [hl]; exact Nat.le_refl _, by omega, ?_⟩
 rcases h3 with rfl | ⟨b, off, rfl, h4⟩
 ·exact .inl (by simp)
 ·refine .inr ⟨b, off, rfl, h4.1, fun p j u hu => h4.2 p j u ?_⟩
  obtain ⟨r, hr, hj⟩ := Option.bind_eq_some_iff.1 hu
  have hp : p < i := by have := (List.getElem?_eq_some_iff.1 hr).1; rw [hl] at this; exact this
  rw [List.getElem?_take_of_lt hp] at hr
  rw [hr]; exact hj
theorem Same_eq {b : Sol} {v av v2 av2 : Value} {l : List Sol} {m : List Ac} (w : World) (hv : SlS w v l) (ha : SlA w av m) (hv2 : SlS w v2 l) (ha2 : SlA w av2 m) :
  Calls Tryz.prog 23 #[.agg #[.int .u64 (pl b 0), .int .u64 (pl b 1), .int .u64 (pl b 2), .int .u64 (pl b 3), .int .u64 (pl b 4), .int .u64 (pl b 5), .int .u64 (pl b 6), .int .u64 (pl b 7), v, av], .agg #[.int .u64 (pl b 0), .int .u64 (pl b 1), .int .u64 (pl b 2), .int .u64 (pl b 3), .int .u64 (pl b 4), .int .u64 (pl b 5), .int .u64 (pl b 6), .int .u64 (pl b 7), v2, av2]] w fun e w' => e = .returned (.bool true) ∧ Below w.heap.size w w' := by
 have := Same_spec b b v av v2 av2 l l m m w hv ha hv2 ha2
 simpa [samePat] using this
/-- few, of one, two, three histories -/
def fewB (h : List (List Sol × List Ac)) : Bool := !h.any fun x => many x.2.length x.1.length
end
theorem hv_sl1 {W : World} {g t : Nat} {b : Sol} {p q : Value} (h : Blk W g #[.int .u64 (pl b 0), .int .u64 (pl b 1), .int .u64 (pl b 2), .int .u64 (pl b 3), .int .u64 (pl b 4), .int .u64 (pl b 5), .int .u64 (pl b 6), .int .u64 (pl b 7), p, q] t) : Sl W 10 (.slice (some ⟨g, 0, none⟩) 1 1) ([((b, p, q) : Hv)].map hvL) :=
 Sl.ofBlk h rfl (by decide) (by simp) (by simp)
theorem few1 {g t : Nat} {b : Sol} {p q : Option Addr} {n c k d : Nat} (w : World) (h : Blk w g #[.int .u64 (pl b 0), .int .u64 (pl b 1), .int .u64 (pl b 2), .int .u64 (pl b 3), .int .u64 (pl b 4), .int .u64 (pl b 5), .int .u64 (pl b 6), .int .u64 (pl b 7), .slice p n c, .slice q k d] t) : Calls Tryz.prog 19 #[.slice (some ⟨g, 0, none⟩) 1 1] w fun e w' => e = .returned (.bool (!many k n)) ∧ Below w.heap.size w w' := by
 have := few_spec _ _ w (hv_sl1 h) (by simp)
 simpa [manyH] using this
end Go.Proofs.YtccnkebkgegohaaGreatDoor
end
section
namespace Go.Proofs.YtccnkebkgegohaaGreatDoor
open Go.RowKit Go.Rel
set_option maxRecDepth 100000
abbrev AliveH (w : World) : Prop := Hid (∀ w', Below w.heap.size w w' → Calls Tryz.prog 20 #[] w' fun e w'' => e = .returned (.bool true) ∧ Below w'.heap.size w' w'')
theorem alive_h (w : World) (hT : w.cell? ⟨5, 15, none⟩ = some (.int .u8 4)) : AliveH w :=
 Lib.hid fun w' hb => alive_spec w' ((hb.cell (p := ⟨5, 15, none⟩) (block_lt_of_cell hT)).trans hT)
end Go.Proofs.YtccnkebkgegohaaGreatDoor
end
section
namespace Go.Proofs.YtccnkebkgegohaaGreatDoor
open Go.RowKit Go.Rel
set_option maxRecDepth 100000
/-! TraceReduced: an act pair is put into a history -/
@[go_sem] theorem kinds0 (W : World) : (Instr.index 43 (.agg #[.int .u8 2, .int .u8 3, .int .u8 3, .int .u8 2]) (.int .i64 0)).run Tryz.prog W = .ok (.agg #[.int .u8 2, .int .u8 3]) W := by kernel_rfl
@[go_sem] theorem kinds1 (W : World) : (Instr.index 43 (.agg #[.int .u8 2, .int .u8 3, .int .u8 3, .int .u8 2]) (.int .i64 1)).run Tryz.prog W = .ok (.agg #[.int .u8 3, .int .u8 2]) W := by kernel_rfl
abbrev pairC (k1 k2 : Int) (n : Int) : Array Value := #[.int .u8 k1, .int .i64 n, .int .u64 0, .int .u64 0, .int .u64 0, .int .u64 0, .int .u64 0, .int .u64 0, .int .u64 0, .int .u64 0, .int .u8 k2, .int .i64 n, .int .u64 0, .int .u64 0, .int .u64 0, .int .u64 0, .int .u64 0, .int .u64 0, .int .u64 0, .int .u64 0]
@[irreducible] def VSN (xs : List Ac) (v : Value) (W : World) : Prop := SlN W v xs
@[irreducible] def VPair (k1 k2 n : Int) (v : Value) (W : World) : Prop := ∃ g, v = .slice (some ⟨g, 0, none⟩) 2 2 ∧ Blk W g (pairC k1 k2 n) 46
@[irreducible] def VTri (a b c : List Ac) (v : Value) (W : World) : Prop := ∃ g x y z, v = .slice (some ⟨g, 0, none⟩) 3 3 ∧ Blk W g #[x, y, z] 28 ∧ SlN W x a ∧ SlN W y b ∧ SlN W z c
def pairL (k1 k2 : Nat) (n : Int) : List Ac := [(k1, n, 0), (k2, n, 0)]
@[irreducible] def insL (k1 k2 : Nat) (n : Int) (K : Nat) (m : List Ac) : List Ac := m.take K ++ (pairL k1 k2 n ++ m.drop K)
@[irreducible] def VSA (xs : List Ac) (v : Value) (W : World) : Prop := SlA W v xs
theorem sln_take {w : World} {i n c : Nat} {a : Option Addr} {xs : List Ac} (h : SlA w (.slice a n c) xs) (hi : i ≤ n) : SlN w (.slice a i i) (xs.take i) := by
 have h1 := sl_take h hi
 rw [← List.map_take] at h1
 have e : sliced a 0 i i 10 = .slice a i i ∧ (a = none → i = 0) := by
  obtain ⟨a', c', he, h2, h3, h4⟩ := h
  cases he
  unfold sliced
  by_cases h0 : i = 0
  ·simp [h0]
  ·rcases h4 with h4 | ⟨b, off, rfl, _⟩
   ·rw [h4] at hi; simp at hi; omega
   ·simp [h0, Go.WideShapes.add_plain]
 rw [e.1] at h1
 exact ⟨h1, fun m d he => by cases he; exact e.2 rfl⟩
end Go.Proofs.YtccnkebkgegohaaGreatDoor
end
section
namespace Go.Proofs.YtccnkebkgegohaaGreatDoor
open Go.RowKit Go.Rel
set_option maxRecDepth 100000
/-! Common, Begins, Conflict, Equal, Merge, one form for all ways -/
section
variable {b b2 : Sol} {l l2 : List Sol} {g h : List Ac} {t u : StB} {v av v2 av2 : Value}
def Bad (b : Sol) (l : List Sol) (g : List Ac) : Prop := ∃ x, begunM b l g = .inl x
end
end Go.Proofs.YtccnkebkgegohaaGreatDoor
end
section
namespace Go.Proofs.YtccnkebkgegohaaGreatDoor
open Go.RowKit Go.Rel
set_option maxRecDepth 100000
section
variable {b : Sol} {l : List Sol} {g h : List Ac} {t u : StB} {v av v2 av2 : Value}
/-- whether a history begins another one -/
def preB (l : List Sol) (g h : List Ac) : Bool := (beyA l g h).2.1.isEmpty
end
end Go.Proofs.YtccnkebkgegohaaGreatDoor
end
section
namespace Go.Proofs.YtccnkebkgegohaaGreatDoor
open Go.RowKit Go.Rel
set_option maxRecDepth 100000
theorem samePat_eq {b b' : Sol} {l l' : List Sol} (h : samePat b l b' l' = true) : b' = b ∧ l' = l := by
 unfold samePat at h
 simp only [Bool.and_eq_true, beq_iff_eq] at h
 exact ⟨h.1.symm, h.2.symm⟩
end Go.Proofs.YtccnkebkgegohaaGreatDoor
end
section
namespace Go.Proofs.YtccnkebkgegohaaGreatDoor
open Go.RowKit Go.Rel
set_option maxRecDepth 100000
/-! Merge, Conflict -/
section
variable {b : Sol} {l : List Sol} {g h : List Ac} {t u : StB} {v av v2 av2 : Value}
theorem Merge_j (R : Runs b l g t) (R2 : Runs b l h u) (hf : Free2 l g h) (hlen : g.length + h.length ≤ 60) (w : World) (Hv : SlS w v l) (Hav : SlA w av g) (Hv2 : SlS w v2 l) (Hav2 : SlA w av2 h) :
  Calls Tryz.prog 26 #[.agg #[.int .u64 (pl b 0), .int .u64 (pl b 1), .int .u64 (pl b 2), .int .u64 (pl b 3), .int .u64 (pl b 4), .int .u64 (pl b 5), .int .u64 (pl b 6), .int .u64 (pl b 7), v, av], .agg #[.int .u64 (pl b 0), .int .u64 (pl b 1), .int .u64 (pl b 2), .int .u64 (pl b 3), .int .u64 (pl b 4), .int .u64 (pl b 5), .int .u64 (pl b 6), .int .u64 (pl b 7), v2, av2]] w (HRes b l (nrm l (joinA l g h)) 0 w) := by
 obtain ⟨x, RJ⟩ := join_good R R2 hf (Nat.le_trans (join_len l g h) hlen)
 have hm : mergeM l g h = some (joinA l g h) := by rw [mergeM_eq R.fine R2.fine, (confA_none R.fine R2.fine).2 hf]
 refine (Merge_good R.good R2.good hm RJ.good w Hv Hav Hv2 Hav2).mono fun e w' ⟨pv, bv, he, h1, h2, h3⟩ => ?_
 subst he
 rw [normalM_eq RJ.fine] at h2
 exact hres_own h1 h2 h3
theorem Merge_c (R : Runs b l g t) (R2 : Runs b l h u) (hf : ¬ Free2 l g h) (w : World) (Hv : SlS w v l) (Hav : SlA w av g) (Hv2 : SlS w v2 l) (Hav2 : SlA w av2 h) :
  Calls Tryz.prog 26 #[.agg #[.int .u64 (pl b 0), .int .u64 (pl b 1), .int .u64 (pl b 2), .int .u64 (pl b 3), .int .u64 (pl b 4), .int .u64 (pl b 5), .int .u64 (pl b 6), .int .u64 (pl b 7), v, av], .agg #[.int .u64 (pl b 0), .int .u64 (pl b 1), .int .u64 (pl b 2), .int .u64 (pl b 3), .int .u64 (pl b 4), .int .u64 (pl b 5), .int .u64 (pl b 6), .int .u64 (pl b 7), v2, av2]] w (HRes 0 [] [] 45 w) := by
 have hm : mergeM l g h = none := by
  rw [mergeM_eq R.fine R2.fine]
  cases hc : confA l g h with
  | none => exact absurd ((confA_none R.fine R2.fine).1 hc) hf
  | some x => rfl
 refine (Merge_clash R.good R2.good hm w Hv Hav Hv2 Hav2).mono fun e w' ⟨he, hb⟩ => ?_
 subst he
 exact hres_zero hb
def confV (x : Option (Ac × Ac)) : Ac × Ac × Bool := match x with
 | some (a, b) => (a, b, true)
 | none => ((0, 0, 0), (0, 0, 0), false)
structure TwoB (b1 b2 : Nat) (x y : Ac) (W : World) : Prop where
 p : Blk W b1 (acA x) 46
 q : Blk W b2 (acA y) 46
theorem TwoB.grow {b1 b2 : Nat} {x y : Ac} {W W' : World} (H : TwoB b1 b2 x y W) (hb : Below W.heap.size W W') : TwoB b1 b2 x y W' := ⟨H.p.grow hb, H.q.grow hb⟩
end
end Go.Proofs.YtccnkebkgegohaaGreatDoor
end
section
namespace Go.Proofs.YtccnkebkgegohaaGreatDoor
open Go.RowKit Go.Rel
set_option maxRecDepth 100000
/-- a world that grew by what a walk lays: found by its form -/
class BelI (w0 w : World) : Prop where
 out : Below w0.heap.size w0 w
instance (w : World) : BelI w w := ⟨bel_refl w⟩
instance (w0 w : World) [h : BelI w0 w] (o : Obj) : BelI w0 (w.alloc o) := ⟨bel_alloc h.out o⟩
instance (w0 w : World) [h : BelI w0 w] : BelI w0 w.drew := ⟨bel_drew h.out⟩
instance (w0 w : World) [h : BelI w0 w] (n : Nat) : BelI w0 (w.drewN n) := ⟨bel_drewN h.out n⟩
theorem bni {w0 w : World} [h : BelI w0 w] : Below w0.heap.size w0 w := h.out
theorem few_len {m n : Nat} (h : many m n = false) (h60 : m ≤ 60) : m ≤ 14 := by
 unfold many at h
 have := of_decide_eq_false h
 omega
end Go.Proofs.YtccnkebkgegohaaGreatDoor
end
