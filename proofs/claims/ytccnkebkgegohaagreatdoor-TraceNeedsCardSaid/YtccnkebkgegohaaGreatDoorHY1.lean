import Derived.Test.YtccnkebkgegohaaGreatDoorT
import Derived.Deep.Cut
/-
  Given contracts of functions of the program, and laws for them, one behind the other.
-/
set_option linter.unusedVariables false
set_option linter.unusedSimpArgs false
set_option linter.unusedSectionVars false
section
namespace Go.Proofs.YtccnkebkgegohaaGreatDoor
open Go.RowKit Go.Rel
set_option maxRecDepth 100000
/-! histories in a slice; few -/
abbrev Hv := Sol × Value × Value
abbrev hvL (h : Hv) : List Value := [.int .u64 (pl h.1 0), .int .u64 (pl h.1 1), .int .u64 (pl h.1 2), .int .u64 (pl h.1 3), .int .u64 (pl h.1 4), .int .u64 (pl h.1 5), .int .u64 (pl h.1 6), .int .u64 (pl h.1 7), h.2.1, h.2.2]
abbrev hvV (h : Hv) : Value := .agg #[.int .u64 (pl h.1 0), .int .u64 (pl h.1 1), .int .u64 (pl h.1 2), .int .u64 (pl h.1 3), .int .u64 (pl h.1 4), .int .u64 (pl h.1 5), .int .u64 (pl h.1 6), .int .u64 (pl h.1 7), h.2.1, h.2.2]
theorem hv_cells {w : World} {b off : Nat} {l : List Hv} {k : Nat} {x : Hv} (h : Cells w b off 10 (l.map hvL)) (hx : l[k]? = some x) :
  w.cell? ⟨b, off + k * 10, none⟩ = some (.int .u64 (pl x.1 0)) ∧ w.cell? ⟨b, off + k * 10 + 1, none⟩ = some (.int .u64 (pl x.1 1)) ∧ w.cell? ⟨b, off + k * 10 + 2, none⟩ = some (.int .u64 (pl x.1 2)) ∧ w.cell? ⟨b, off + k * 10 + 3, none⟩ = some (.int .u64 (pl x.1 3)) ∧ w.cell? ⟨b, off + k * 10 + 4, none⟩ = some (.int .u64 (pl x.1 4)) ∧
  w.cell? ⟨b, off + k * 10 + 5, none⟩ = some (.int .u64 (pl x.1 5)) ∧ w.cell? ⟨b, off + k * 10 + 6, none⟩ = some (.int .u64 (pl x.1 6)) ∧ w.cell? ⟨b, off + k * 10 + 7, none⟩ = some (.int .u64 (pl x.1 7)) ∧ w.cell? ⟨b, off + k * 10 + 8, none⟩ = some x.2.1 ∧ w.cell? ⟨b, off + k * 10 + 9, none⟩ = some x.2.2 := by
 have hm : (l.map hvL)[k]? = some (hvL x) := by simp [hx]
 exact ⟨h.2 k 0 _ (by rw [hm]; rfl), h.2 k 1 _ (by rw [hm]; rfl), h.2 k 2 _ (by rw [hm]; rfl), h.2 k 3 _ (by rw [hm]; rfl), h.2 k 4 _ (by rw [hm]; rfl), h.2 k 5 _ (by rw [hm]; rfl), h.2 k 6 _ (by rw [hm]; rfl), h.2 k 7 _ (by rw [hm]; rfl), h.2 k 8 _ (by rw [hm]; rfl), h.2 k 9 _ (by rw [hm]; rfl)⟩
def many (m n : Nat) : Bool := decide ((14 < m ∧ m ≤ 60) ∨ 100 < m ∨ 10 < n)
set_option maxHeartbeats 4000000 in
theorem few86 (b : Sol) (a a' : Option Addr) (n c m c' : Nat) (w : World) : Calls Tryz.prog 86 #[.agg #[.int .u64 (pl b 0), .int .u64 (pl b 1), .int .u64 (pl b 2), .int .u64 (pl b 3), .int .u64 (pl b 4), .int .u64 (pl b 5), .int .u64 (pl b 6), .int .u64 (pl b 7), .slice a n c, .slice a' m c']] w fun e w' => e = .returned (.bool (many m n)) ∧ Below w.heap.size w w' := by
 go_enter Tryz.func86, Tryz.ntmps86
 go_wp2_with fail
 all_goals go_ret
 all_goals refine ⟨ret_bool ?_, bel_by⟩
 all_goals (unfold many; rw [Bool.eq_iff_iff, decide_eq_true_iff]; first | omega | (simp; omega))
set_option maxHeartbeats 2000000 in
theorem IndexFunc140 (v : Value) (l : List Hv) (p : Hv → Bool) (w : World) (h : Sl w 10 v (l.map hvL))
  (hf : ∀ w', Below w.heap.size w w' → ∀ x ∈ l, Calls Tryz.prog 86 #[hvV x] w' fun e w'' => e = .returned (.bool (p x)) ∧ Below w'.heap.size w' w'') :
  Calls Tryz.prog 140 #[v, .func (.func 86) #[] #[]] w fun e w' => e = .returned (.int .i64 (idx p l)) ∧ Below w.heap.size w w' := by
 rcases h.cases with ⟨hl, a, c, rfl, hm⟩ | ⟨b, off, c, rfl, hc, hm, hpos, hcs⟩
 ·have hl' : l = [] := by simpa using hl
  subst hl'
  clear hl
  go_enter Tryz.func140, Tryz.ntmps140
  go_wp2
  refine wp_loop_rounds 1 ?_
  rw [rounds_succ]
  go_wp2
  go_ret
  exact ⟨rfl, Below.refl _ _⟩
 ·rw [List.length_map] at hc hpos ⊢
  have H := Lib.hid hcs; clear hcs h
  have HF := Lib.hid hf; clear hf
  generalize hn : l.length = n at hc hpos ⊢
  have HN := Lib.hid hn; clear hn
  go_enter Tryz.func140, Tryz.ntmps140
  go_wp2_with fail
  go_loopw [8] (fun i wr => ∃ k : Nat, k ≤ n ∧ i = .int .i64 k ∧ Hid (∀ (j : Nat) (y : Hv), j < k → l[j]? = some y → p y = false) ∧ Below w.heap.size w wr) (fun i _ => n - (intOf i).toNat)
  case atStart => exact ⟨0, Nat.zero_le _, rfl, fun j y hj => by omega, Below.refl _ _⟩
  case round =>
   obtain ⟨k, hk, rfl, HP, hbel⟩ := hrel
   by_cases hlt : k < n
   ·have hx : l[k]? = some (l[k]'(by rw [HN.out]; exact hlt)) := by simp
    have hcc := hv_cells (H.out.mono hbel H.out.1) hx
    have hmem := List.mem_of_getElem? hx
    generalize l[k]'(by rw [HN.out]; exact hlt) = x at hx hcc hmem
    obtain ⟨c0, c1, c2, c3, c4, c5, c6, c7, c8, c9⟩ := hcc
    have HX := Lib.hid hx; clear hx
    have HM := Lib.hid hmem; clear hmem
    have hsz := hbel.size
    go_wp2_with fail
    refine (HF.out _ hbel x HM.out).mono ?_
    rintro e w2 ⟨rfl, hb2⟩
    have hB : Below w.heap.size w w2 := bel_trans hbel hb2
    clear hb2 c0 c1 c2 c3 c4 c5 c6 c7 c8 c9
    cases hp : p x with
    | true =>
     go_wp2_with fail
     go_ret
     exact ⟨ret_int (idx_found HX.out hp HP.out).symm, hB⟩
    | false =>
     go_wp2_with fail
     go_roundw
     case rel => exact ⟨k + 1, by omega, by go_num, fun j y hj hy => (by
      rcases Nat.lt_or_eq_of_le (Nat.le_of_lt_succ hj) with h | h
      ·exact HP.out j y h hy
      ·subst h; rw [HX.out] at hy; cases hy; exact hp), hB⟩
     case measure => simp [intOf]; omega
   ·go_wp2_with fail
    go_ret
    exact ⟨ret_int (idx_none (fun j y hy => HP.out j y (by have := (List.getElem?_eq_some_iff.1 hy).1; rw [HN.out] at this; omega) hy)).symm, hbel⟩
set_option maxHeartbeats 2000000 in
theorem ContainsFunc85 (v : Value) (l : List Hv) (p : Hv → Bool) (w : World) (h : Sl w 10 v (l.map hvL))
  (hf : ∀ w', Below w.heap.size w w' → ∀ x ∈ l, Calls Tryz.prog 86 #[hvV x] w' fun e w'' => e = .returned (.bool (p x)) ∧ Below w'.heap.size w' w'') :
  Calls Tryz.prog 85 #[v, .func (.func 86) #[] #[]] w fun e w' => e = .returned (.bool (l.any p)) ∧ Below w.heap.size w w' := by
 have hge := idx_ge p l
 have hany : Hid (l.any p = decide (0 ≤ idx p l)) := by
  show _ = _
  rw [Bool.eq_iff_iff, decide_eq_true_eq, idx_nonneg]
 have hidx := Lib.hid (IndexFunc140 v l p w h hf)
 generalize idx p l = i at hge hany hidx
 clear hf h
 go_enter Tryz.func85, Tryz.ntmps85
 go_wp2_with fail
 refine hidx.out.mono ?_
 rintro e w1 ⟨rfl, hb⟩
 go_wp2_with fail
 go_ret
 refine ⟨?_, hb⟩
 rw [hany.out]; rfl
/-- how many acts, pieces a history has -/
def manyH (h : Hv) : Bool := match h.2.1, h.2.2 with
 | .slice _ n _, .slice _ m _ => many m n
 | _, _ => false
set_option maxHeartbeats 2000000 in
theorem few_spec (v : Value) (l : List Hv) (w : World) (h : Sl w 10 v (l.map hvL)) (hs : ∀ x ∈ l, ∃ b a n c a' m c', x = (b, .slice a n c, .slice a' m c')) :
  Calls Tryz.prog 19 #[v] w fun e w' => e = .returned (.bool (!l.any manyH)) ∧ Below w.heap.size w w' := by
 have H := Lib.hid (ContainsFunc85 v l manyH w h fun w' _ x hx => by
  obtain ⟨b, a, n, c, a', m, c', rfl⟩ := hs x hx
  exact few86 b a a' n c m c' w')
 generalize l.any manyH = r at *
 clear h hs
 go_enter Tryz.func19, Tryz.ntmps19
 go_wp2_with fail
 refine H.out.mono ?_
 rintro e w1 ⟨rfl, hb⟩
 go_wp2_with fail
 go_ret
 exact ⟨rfl, hb⟩
end Go.Proofs.YtccnkebkgegohaaGreatDoor
end
section
namespace Go.Proofs.YtccnkebkgegohaaGreatDoor
open Go.RowKit Go.Rel
set_option maxRecDepth 100000
end Go.Proofs.YtccnkebkgegohaaGreatDoor
end
section
namespace Go.Proofs.YtccnkebkgegohaaGreatDoor
open Go.RowKit Go.Rel
set_option maxRecDepth 100000
/-! the exported functions' results, one form for all ways -/
@[go_sem high] theorem eqStn (d : Nat) (s s' : Sol) (o o' : Int) (w : World) : (Op.equalIn (d+3) 37 (.agg #[.int .u64 (pl s 0), .int .u64 (pl s 1), .int .u64 (pl s 2), .int .u64 (pl s 3), .int .u64 (pl s 4), .int .u64 (pl s 5), .int .u64 (pl s 6), .int .u64 (pl s 7), .int .u8 o]) (.agg #[.int .u64 (pl s' 0), .int .u64 (pl s' 1), .int .u64 (pl s' 2), .int .u64 (pl s' 3), .int .u64 (pl s' 4), .int .u64 (pl s' 5), .int .u64 (pl s' 6), .int .u64 (pl s' 7), .int .u8 o'])).run Tryz.prog w = .ok ((s == s') && (o == o')) w := by
 rw [run_equalIn_struct w (d+2) 37 _ _ (by kernel_rfl) (by kernel_rfl)]
 go_simp
 split
 ·next h1 =>
  split
  ·next h2 => simp [h1, h2]
  ·next h2 => simp [h1, h2]
 ·next h1 => simp [h1]
/-- a returned history, and an error -/
def HRes (b : Sol) (l : List Sol) (M : List Ac) (E : Int) (w : World) (e : Ending) (w' : World) : Prop :=
 ∃ p n c q k d, e = .returned (.tuple #[.agg #[.int .u64 (pl b 0), .int .u64 (pl b 1), .int .u64 (pl b 2), .int .u64 (pl b 3), .int .u64 (pl b 4), .int .u64 (pl b 5), .int .u64 (pl b 6), .int .u64 (pl b 7), .slice p n c, .slice q k d], .int .i64 E]) ∧ SlS w' (.slice p n c) l ∧ SlA w' (.slice q k d) M ∧ Below w.heap.size w w'
theorem hres_own {b : Sol} {l : List Sol} {M : List Ac} {E : Int} {w w' : World} {base : Nat} {pv bv : Value} (hS : OwnS w' base pv l) (hA : OwnA w' base bv M) (hb : Below w.heap.size w w') : HRes b l M E w (.returned (.tuple #[.agg #[.int .u64 (pl b 0), .int .u64 (pl b 1), .int .u64 (pl b 2), .int .u64 (pl b 3), .int .u64 (pl b 4), .int .u64 (pl b 5), .int .u64 (pl b 6), .int .u64 (pl b 7), pv, bv], .int .i64 E])) w' := by
 obtain ⟨p, c, rfl, _, _⟩ := own_shape' hS
 obtain ⟨q, d, rfl, _, _⟩ := own_shape' hA
 exact ⟨p, _, c, q, _, d, rfl, hS.sl, hA.sl, hb⟩
theorem sl_nil {k : Nat} (w : World) : Sl w k (.slice none 0 0) [] := ⟨none, 0, rfl, Nat.le_refl _, by decide, .inl rfl⟩
theorem zero_hist : (.agg #[.int .u64 0, .int .u64 0, .int .u64 0, .int .u64 0, .int .u64 0, .int .u64 0, .int .u64 0, .int .u64 0, .slice none 0 0, .slice none 0 0] : Value) = .agg #[.int .u64 (pl 0 0), .int .u64 (pl 0 1), .int .u64 (pl 0 2), .int .u64 (pl 0 3), .int .u64 (pl 0 4), .int .u64 (pl 0 5), .int .u64 (pl 0 6), .int .u64 (pl 0 7), .slice none 0 0, .slice none 0 0] := by simp only [pl_zero]
theorem hres_zero {x : Int} {w w' : World} (hb : Below w.heap.size w w') : HRes 0 [] [] x w (.returned (.tuple #[.agg #[.int .u64 0, .int .u64 0, .int .u64 0, .int .u64 0, .int .u64 0, .int .u64 0, .int .u64 0, .int .u64 0, .slice none 0 0, .slice none 0 0], .int .i64 x])) w' := by
 rw [zero_hist]
 exact ⟨none, 0, 0, none, 0, 0, rfl, sl_nil w', sl_nil w', hb⟩
section
variable {b : Sol} {l : List Sol} {m : List Ac} {t : StB} {v av : Value}
theorem Normal_r (R : Runs b l m t) (w : World) (Hv : SlS w v l) (Hav : SlA w av m) : Calls Tryz.prog 55 #[.agg #[.int .u64 (pl b 0), .int .u64 (pl b 1), .int .u64 (pl b 2), .int .u64 (pl b 3), .int .u64 (pl b 4), .int .u64 (pl b 5), .int .u64 (pl b 6), .int .u64 (pl b 7), v, av]] w (HRes b l (nrm l m) 0 w) := by
 refine (Normal_good R.good w Hv Hav).mono fun e w' ⟨pv, bv, he, h1, h2, h3⟩ => ?_
 subst he
 rw [normalM_eq R.fine] at h2
 exact hres_own h1 h2 h3
theorem sl_take {w : World} {k i n c : Nat} {a : Option Addr} {xs : List (List Value)} (h : Sl w k (.slice a n c) xs) (hi : i ≤ n) : Sl w k (sliced a 0 i i k) (xs.take i) := by
 obtain ⟨a', c', he, h1, h2, h3⟩ := h
 cases he
 have hl : (xs.take i).length = i := by rw [List.length_take]; omega
 have e : sliced a 0 i i k = .slice a i i := by
  unfold sliced
  by_cases h0 : i = 0
  ·simp [h0]
  ·rcases h3 with rfl | ⟨b, off, rfl, _⟩
   ·simp at hi; omega
   ·simp [h0, Go.WideShapes.add_plain]
 rw [e]
 refine ⟨a, i, by rw [hl], by rw [hl]; exact Nat.le_refl _, by omega, ?_⟩
 rcases h3 with rfl | ⟨b, off, rfl, h4⟩
 ·exact .inl (by simp)
 ·refine .inr ⟨b, off, rfl, h4.1, fun p j u hu => h4.2 p j u ?_⟩
  obtain ⟨r, hr, hj⟩ := Option.bind_eq_some_iff.1 hu
  have hp : p < i := by have := (List.getElem?_eq_some_iff.1 hr).1; rw [hl] at this; exact this
  rw [List.getElem?_take_of_lt hp] at hr
  rw [hr]; exact hj
/-- few, of one, two, three histories -/
def fewB (h : List (List Sol × List Ac)) : Bool := !h.any fun x => many x.2.length x.1.length
end
theorem hv_sl1 {W : World} {g t : Nat} {b : Sol} {p q : Value} (h : Blk W g #[.int .u64 (pl b 0), .int .u64 (pl b 1), .int .u64 (pl b 2), .int .u64 (pl b 3), .int .u64 (pl b 4), .int .u64 (pl b 5), .int .u64 (pl b 6), .int .u64 (pl b 7), p, q] t) : Sl W 10 (.slice (some ⟨g, 0, none⟩) 1 1) ([((b, p, q) : Hv)].map hvL) :=
 Sl.ofBlk h rfl (by decide) (by simp) (by simp)
theorem few1 {g t : Nat} {b : Sol} {p q : Option Addr} {n c k d : Nat} (w : World) (h : Blk w g #[.int .u64 (pl b 0), .int .u64 (pl b 1), .int .u64 (pl b 2), .int .u64 (pl b 3), .int .u64 (pl b 4), .int .u64 (pl b 5), .int .u64 (pl b 6), .int .u64 (pl b 7), .slice p n c, .slice q k d] t) : Calls Tryz.prog 19 #[.slice (some ⟨g, 0, none⟩) 1 1] w fun e w' => e = .returned (.bool (!many k n)) ∧ Below w.heap.size w w' := by
 have := few_spec _ _ w (hv_sl1 h) (by simp)
 simpa [manyH] using this
end Go.Proofs.YtccnkebkgegohaaGreatDoor
end
section
namespace Go.Proofs.YtccnkebkgegohaaGreatDoor
open Go.RowKit Go.Rel
set_option maxRecDepth 100000
abbrev AliveH (w : World) : Prop := Hid (∀ w', Below w.heap.size w w' → Calls Tryz.prog 20 #[] w' fun e w'' => e = .returned (.bool true) ∧ Below w'.heap.size w' w'')
theorem alive_h (w : World) (hT : w.cell? ⟨5, 15, none⟩ = some (.int .u8 4)) : AliveH w :=
 Lib.hid fun w' hb => alive_spec w' ((hb.cell (p := ⟨5, 15, none⟩) (block_lt_of_cell hT)).trans hT)
end Go.Proofs.YtccnkebkgegohaaGreatDoor
end
section
namespace Go.Proofs.YtccnkebkgegohaaGreatDoor
open Go.RowKit Go.Rel
set_option maxRecDepth 100000
/-! TraceReduced: an act pair is put into a history -/
@[go_sem] theorem kinds0 (W : World) : (Instr.index 43 (.agg #[.int .u8 2, .int .u8 3, .int .u8 3, .int .u8 2]) (.int .i64 0)).run Tryz.prog W = .ok (.agg #[.int .u8 2, .int .u8 3]) W := by kernel_rfl
@[go_sem] theorem kinds1 (W : World) : (Instr.index 43 (.agg #[.int .u8 2, .int .u8 3, .int .u8 3, .int .u8 2]) (.int .i64 1)).run Tryz.prog W = .ok (.agg #[.int .u8 3, .int .u8 2]) W := by kernel_rfl
abbrev pairC (k1 k2 : Int) (n : Int) : Array Value := #[.int .u8 k1, .int .i64 n, .int .u64 0, .int .u64 0, .int .u64 0, .int .u64 0, .int .u64 0, .int .u64 0, .int .u64 0, .int .u64 0, .int .u8 k2, .int .i64 n, .int .u64 0, .int .u64 0, .int .u64 0, .int .u64 0, .int .u64 0, .int .u64 0, .int .u64 0, .int .u64 0]
@[irreducible] def VSN (xs : List Ac) (v : Value) (W : World) : Prop := SlN W v xs
@[irreducible] def VPair (k1 k2 n : Int) (v : Value) (W : World) : Prop := ∃ g, v = .slice (some ⟨g, 0, none⟩) 2 2 ∧ Blk W g (pairC k1 k2 n) 46
@[irreducible] def VTri (a b c : List Ac) (v : Value) (W : World) : Prop := ∃ g x y z, v = .slice (some ⟨g, 0, none⟩) 3 3 ∧ Blk W g #[x, y, z] 28 ∧ SlN W x a ∧ SlN W y b ∧ SlN W z c
def pairL (k1 k2 : Nat) (n : Int) : List Ac := [(k1, n, 0), (k2, n, 0)]
@[irreducible] def insL (k1 k2 : Nat) (n : Int) (K : Nat) (m : List Ac) : List Ac := m.take K ++ (pairL k1 k2 n ++ m.drop K)
@[irreducible] def VSA (xs : List Ac) (v : Value) (W : World) : Prop := SlA W v xs
theorem sln_take {w : World} {i n c : Nat} {a : Option Addr} {xs : List Ac} (h : SlA w (.slice a n c) xs) (hi : i ≤ n) : SlN w (.slice a i i) (xs.take i) := by
 have h1 := sl_take h hi
 rw [← List.map_take] at h1
 have e : sliced a 0 i i 10 = .slice a i i ∧ (a = none → i = 0) := by
  obtain ⟨a', c', he, h2, h3, h4⟩ := h
  cases he
  unfold sliced
  by_cases h0 : i = 0
  ·simp [h0]
  ·rcases h4 with h4 | ⟨b, off, rfl, _⟩
   ·rw [h4] at hi; simp at hi; omega
   ·simp [h0, Go.WideShapes.add_plain]
 rw [e.1] at h1
 exact ⟨h1, fun m d he => by cases he; exact e.2 rfl⟩
end Go.Proofs.YtccnkebkgegohaaGreatDoor
end
section
namespace Go.Proofs.YtccnkebkgegohaaGreatDoor
open Go.RowKit Go.Rel
set_option maxRecDepth 100000
section
variable {b : Sol} {l : List Sol} {g h : List Ac} {t u : StB} {v av v2 av2 : Value}
set_option maxHeartbeats 8000000 in
theorem Equal_r (R : Runs b l g t) (R2 : Runs b l h u) (w : World) (Hv : SlS w v l) (Hav : SlA w av g) (Hv2 : SlS w v2 l) (Hav2 : SlA w av2 h) :
  Calls Tryz.prog 42 #[.agg #[.int .u64 (pl b 0), .int .u64 (pl b 1), .int .u64 (pl b 2), .int .u64 (pl b 3), .int .u64 (pl b 4), .int .u64 (pl b 5), .int .u64 (pl b 6), .int .u64 (pl b 7), v, av], .agg #[.int .u64 (pl b 0), .int .u64 (pl b 1), .int .u64 (pl b 2), .int .u64 (pl b 3), .int .u64 (pl b 4), .int .u64 (pl b 5), .int .u64 (pl b 6), .int .u64 (pl b 7), v2, av2]] w fun e w' => e = .returned (.tuple #[.bool (nrm l g == nrm l h), .int .i64 0]) ∧ Below w.heap.size w w' := by
 have H := Lib.hid fun w' (hb : Below w.heap.size w w') => both_good R.good R2.good w' (Hv.mono hb) (Hav.mono hb) (Hv2.mono hb) (Hav2.mono hb)
 have hs : samePat b l b l = true := by simp [samePat]
 rw [hs] at H
 have hn := R.len
 have hn2 := R2.len
 have HN1 : Hid (actsAt g (leastI (depI (cellsOf l g)) (cmpN g) (upto g.length).length (upto g.length)) = nrm l g) := Lib.hid (normalM_eq R.fine)
 have HN2 : Hid (actsAt h (leastI (depI (cellsOf l h)) (cmpN h) (upto h.length).length (upto h.length)) = nrm l h) := Lib.hid (normalM_eq R2.fine)
 have HV := Lib.hid (And.intro Hv (And.intro Hav (And.intro Hv2 Hav2)))
 clear R R2 Hv Hav Hv2 Hav2 hs
 go_enter Tryz.func42, Tryz.ntmps42
 go_wp2_with fail
 refine (H.out _ bel_by).mono ?_
 rintro e w1 ⟨bp, bq, rfl, hP, hQ, hb⟩
 have hB1 : Below w.heap.size w w1 := bel_trans bel_by hb
 have HPQ := Lib.hid (And.intro hP hQ); clear hP hQ hb H
 go_wp2_with fail
 refine (indices_spec w1 HPQ.out.1 hn).mono ?_
 rintro e w2 ⟨u2, rfl, o2, hb2⟩
 have hB2 : Below w.heap.size w w2 := bel_trans hB1 hb2
 have HP2 := Lib.hid (And.intro (HPQ.out.1.grow hb2) (HPQ.out.2.grow hb2))
 have HO2 := Lib.hid o2.sl
 clear o2 hb2
 go_wp2_with fail
 refine (least_spec w2 HP2.out.1 (HV.out.2.1.mono hB2) hn u2 (upto g.length) HO2.out upto_range (by rw [upto_length]; exact hn)).mono ?_
 rintro e w3 ⟨u3, rfl, o3, hb3⟩
 have hB3 : Below w.heap.size w w3 := bel_trans hB2 hb3
 have HP3 := Lib.hid (And.intro (HP2.out.1.grow hb3) (HP2.out.2.grow hb3))
 rw [HN1.out] at o3
 have HO3 := Lib.hid o3.sl
 clear o3 hb3 HO2
 go_wp2_with fail
 refine (indices_spec w3 HP3.out.2 hn2).mono ?_
 rintro e w4 ⟨u4, rfl, o4, hb4⟩
 have hB4 : Below w.heap.size w w4 := bel_trans hB3 hb4
 have HP4 := Lib.hid (HP3.out.2.grow hb4)
 have HO4 := Lib.hid (And.intro (HO3.out.mono hb4) o4.sl)
 clear o4 hb4 HO3
 go_wp2_with fail
 refine (least_spec w4 HP4.out (HV.out.2.2.2.mono hB4) hn2 u4 (upto h.length) HO4.out.2 upto_range (by rw [upto_length]; exact hn2)).mono ?_
 rintro e w5 ⟨u5, rfl, o5, hb5⟩
 have hB5 : Below w.heap.size w w5 := bel_trans hB4 hb5
 rw [HN2.out] at o5
 have HO5 := Lib.hid (And.intro (HO4.out.1.mono hb5) o5.sl)
 clear o5 hb5 HO4
 go_wp2_with fail
 refine (EqualAc_spec _ _ _ _ w5 HO5.out.1 HO5.out.2).mono ?_
 rintro e w6 ⟨rfl, hb6⟩
 have hB6 : Below w.heap.size w w6 := bel_trans hB5 hb6
 go_wp2_with fail
 refine bodyPost_ret (by simp [results, Tryz.results42, go_sem]) rfl ⟨rfl, hB6⟩
/-- whether a history begins another one -/
def preB (l : List Sol) (g h : List Ac) : Bool := (beyA l g h).2.1.isEmpty
end
end Go.Proofs.YtccnkebkgegohaaGreatDoor
end
section
namespace Go.Proofs.YtccnkebkgegohaaGreatDoor
open Go.RowKit Go.Rel
set_option maxRecDepth 100000
/-- a world that grew by what a walk lays: found by its form -/
class BelI (w0 w : World) : Prop where
 out : Below w0.heap.size w0 w
instance (w : World) : BelI w w := ⟨bel_refl w⟩
instance (w0 w : World) [h : BelI w0 w] (o : Obj) : BelI w0 (w.alloc o) := ⟨bel_alloc h.out o⟩
instance (w0 w : World) [h : BelI w0 w] : BelI w0 w.drew := ⟨bel_drew h.out⟩
instance (w0 w : World) [h : BelI w0 w] (n : Nat) : BelI w0 (w.drewN n) := ⟨bel_drewN h.out n⟩
theorem bni {w0 w : World} [h : BelI w0 w] : Below w0.heap.size w0 w := h.out
theorem few_len {m n : Nat} (h : many m n = false) (h60 : m ≤ 60) : m ≤ 14 := by
 unfold many at h
 have := of_decide_eq_false h
 omega
end Go.Proofs.YtccnkebkgegohaaGreatDoor
end
section
namespace Go.Proofs.YtccnkebkgegohaaGreatDoor
open Go.RowKit Go.Rel
set_option maxRecDepth 100000
end Go.Proofs.YtccnkebkgegohaaGreatDoor
end
section
namespace Go.Proofs.YtccnkebkgegohaaGreatDoor
open Go.RowKit Go.Rel
set_option maxRecDepth 100000
end Go.Proofs.YtccnkebkgegohaaGreatDoor
end
section
namespace Go.Proofs.YtccnkebkgegohaaGreatDoor
open Go.RowKit Go.Rel
set_option maxRecDepth 100000
def nxtE (l : List Sol) (s : StB) (a : Ac) : Int := match nextM l (upI s) a with
 | .inl e => e
 | .inr _ => 0
end Go.Proofs.YtccnkebkgegohaaGreatDoor
end
section
namespace Go.Proofs.YtccnkebkgegohaaGreatDoor
open Go.RowKit Go.Rel
set_option maxRecDepth 100000
def I8 (B : Nat) (T : Array Value) (a b : Bool) (y : Value) (W : World) : Prop := a = true → ∃ k, y = .pointer (some ⟨k, 0, none⟩) ∧ B ≤ k ∧ (b = false → Blk W k #[.int .u64 0, .int .u64 0, .int .u64 0, .int .u64 0, .int .u64 0, .int .u64 0, .int .u64 0, .int .u64 0, .int .u8 0] 37) ∧ (b = true → Blk W k T 37)
theorem I8.grow {B : Nat} {T : Array Value} {a b : Bool} {y : Value} {W W' : World} (h : I8 B T a b y W) (hb : Below W.heap.size W W') : I8 B T a b y W' := by
 intro ha
 obtain ⟨k, hy, hk, h0, h1⟩ := h ha
 exact ⟨k, hy, hk, fun e => (h0 e).grow hb, fun e => (h1 e).grow hb⟩
theorem I8.made {B : Nat} {T : Array Value} {W : World} (hB : B ≤ W.heap.size) : I8 B T true false (.pointer (some ⟨W.heap.size, 0, none⟩)) (W.alloc (.cells #[.int .u64 0, .int .u64 0, .int .u64 0, .int .u64 0, .int .u64 0, .int .u64 0, .int .u64 0, .int .u64 0, .int .u8 0] 37)) := fun _ => ⟨_, rfl, hB, fun _ => Blk.new _ _ _, fun e => by cases e⟩
end Go.Proofs.YtccnkebkgegohaaGreatDoor
end
section
namespace Go.Proofs.YtccnkebkgegohaaGreatDoor
open Go.RowKit Go.Rel
set_option maxRecDepth 100000
/-! Run, of the reference: its loop -/
def runV : (Nat × Int) ⊕ Stn → Value
 | .inl x => .tuple #[.agg #[.int .u64 0, .int .u64 0, .int .u64 0, .int .u64 0, .int .u64 0, .int .u64 0, .int .u64 0, .int .u64 0, .int .u8 0], .int .i64 x.1, .int .i64 x.2]
 | .inr s => .tuple #[.agg #[.int .u64 (pl s.1 0), .int .u64 (pl s.1 1), .int .u64 (pl s.1 2), .int .u64 (pl s.1 3), .int .u64 (pl s.1 4), .int .u64 (pl s.1 5), .int .u64 (pl s.1 6), .int .u64 (pl s.1 7), .int .u8 s.2], .int .i64 0, .int .i64 0]
end Go.Proofs.YtccnkebkgegohaaGreatDoor
end
section
namespace Go.Proofs.YtccnkebkgegohaaGreatDoor
open Go.RowKit Go.Rel
set_option maxRecDepth 100000
def runT (r : (Nat × Int) ⊕ Stn) : Array Value := match r with
 | .inl _ => #[.int .u64 0, .int .u64 0, .int .u64 0, .int .u64 0, .int .u64 0, .int .u64 0, .int .u64 0, .int .u64 0, .int .u8 0]
 | .inr s => #[.int .u64 (pl s.1 0), .int .u64 (pl s.1 1), .int .u64 (pl s.1 2), .int .u64 (pl s.1 3), .int .u64 (pl s.1 4), .int .u64 (pl s.1 5), .int .u64 (pl s.1 6), .int .u64 (pl s.1 7), .int .u8 s.2]
end Go.Proofs.YtccnkebkgegohaaGreatDoor
end
section
namespace Go.Proofs.YtccnkebkgegohaaGreatDoor
open Go.RowKit Go.Rel
set_option maxRecDepth 100000
end Go.Proofs.YtccnkebkgegohaaGreatDoor
end
section
namespace Go.Proofs.YtccnkebkgegohaaGreatDoor
open Go.RowKit Go.Rel
set_option maxRecDepth 100000
/-! behind, of the reference -/
theorem step_append {P : Program} {ops : Array Oper} {R : World → World → Prop} {o : Oper} {a : Act} {φ : Value → World → Prop} {W w' : World} {x y : Operand} {t : TypeId} {v v7 v' : Value}
  (hgd : o.guard = none) (ho : o.op = .call { callee := .builtin .append, args := #[x, y], argTypes := #[t, t] }) (hs : a.eval x = v) (hx : a.eval y = v7)
  (hr : (Builtin.append_ #[t, t] o.type #[v, v7]).run P W = .ok v' w') (h : R W w' ∧ φ v' w') : Rel.step P ops R o a φ W := by
 unfold Rel.step
 have hw : Region.wanted o (yielded ops a.tmps) = true := by unfold Region.wanted; rw [hgd]
 rw [if_pos hw]
 unfold execOp
 simp only [ho, resolve, invoke, builtin, Sem.run_bind, Sem.run_pure, Result.andThen_ok, List.map_toArray, List.map_cons, List.map_nil, hs, hx, hr]
 exact h
def I9 (G : Nat) (c0 : Array Value) (f : Value → Array Value) (xs ys : List Ac) (a b c d e : Bool) (x y z r : Value) (W : World) : Prop := G + 1 ≤ W.heap.size ∧ (a = true → b = false → OwnA W (G + 1) x []) ∧ (b = true → c = false → OwnA W (G + 1) y xs) ∧ (c = true → OwnA W (G + 1) z (xs ++ ys)) ∧ (d = false → Blk W G c0 30) ∧ (d = true → Blk W G (f z) 30) ∧ (e = true → r = .agg (f z))
end Go.Proofs.YtccnkebkgegohaaGreatDoor
end
section
namespace Go.Proofs.YtccnkebkgegohaaGreatDoor
open Go Go.Tra
/-! ### neighbours exchanged; projections -/
def swp (m : List Ac) (i : Nat) : List Ac := (m.set i (m.getD (i + 1) (0, 0, 0))).set (i + 1) (m.getD i (0, 0, 0))
theorem apart_dep {l : List Sol} {m : List Ac} (F : Fine l m) {x y : Ac} (hx : x ∈ m) : (!meetsB (acCells l x) (acCells l y)) = !depA l x y := by rw [depA_meets (F.ne x hx)]
/-- of a list only two acts, as the law keeps them -/
def prj (a b : Ac) (m : List Ac) : List Ac := m.filter fun x => !((!(x == a)) && (!(x == b)))
def freeOrSame (l : List Sol) (g h : List Ac) (a b : Ac) : Bool := !meetsB (acCells l a) (acCells l b) || (prj a b g == prj a b h)
end Go.Proofs.YtccnkebkgegohaaGreatDoor
end
section
-- mk: Trh
namespace Go.Proofs.YtccnkebkgegohaaGreatDoor
open Go Go.Tra
def atN (m : List Ac) (i : Nat) : Ac := m.getD i (0, 0, 0)
/-- the act with an index can be the first one -/
def freeL (l : List Sol) (m : List Ac) (i : Nat) : Bool := (m.take i).all fun z => !meetsB (acCells l z) (acCells l (atN m i))
end Go.Proofs.YtccnkebkgegohaaGreatDoor
end
section
namespace Go.Proofs.YtccnkebkgegohaaGreatDoor
open Go Go.Tra
/-! ### the reference's way to the least list, and to turns -/
/-- the least one so far of those that can be first -/
def bestL (l : List Sol) (m : List Ac) : Nat → Int
 | 0 => -1
 | k + 1 => if freeL l m k && (decide (bestL l m k < 0) || decide (cmpA (atN m k) (atN m (bestL l m k).toNat) < 0)) then (k : Int) else bestL l m k
def dropL (m : List Ac) (i : Nat) : List Ac := m.take i ++ m.drop (i + 1)
def normR (l : List Sol) : Nat → List Ac → List Ac
 | 0, _ => []
 | n + 1, m => atN m (bestL l m m.length).toNat :: normR l n (dropL m (bestL l m m.length).toNat)
section
variable {l : List Sol} {m : List Ac}
structure BestIs (l : List Sol) (m : List Ac) (k i : Nat) (x : Ac) (xs : List Ac) : Prop where
 lt : i < k
 fr : ∀ z ∈ m.take i, depA l z (atN m i) = false
 frs : frs (depA l) [] (m.take k) = x :: xs
 min : atN m i = minV cmpA x xs
theorem dropL_len {i : Nat} (h : i < m.length) : (dropL m i).length = m.length - 1 := by
 unfold dropL
 rw [List.length_append, List.length_take, List.length_drop]
 omega
end
/-! turns -/
def oppR (x y : Ac) : Bool := !(y.1 == 1) && !(y.1 == x.1) && (y.2.1 == x.2.1)
def scanR (l : List Sol) (x : Ac) : List Ac → Nat → Option Nat
 | [], _ => none
 | y :: ys, k => if meetsB (acCells l x) (acCells l y) then (if oppR x y then some k else none) else scanR l x ys (k + 1)
def turnRf (l : List Sol) : List Ac → Nat → Option (Nat × Nat)
 | [], _ => none
 | x :: ys, i => if x.1 = 1 then turnRf l ys (i + 1) else match scanR l x ys (i + 1) with
  | some k => some (i, k)
  | none => turnRf l ys (i + 1)
def reduceR (l : List Sol) : Nat → List Ac → List Ac
 | 0, m => m
 | n + 1, m => match turnRf l m 0 with
  | none => m
  | some (i, k) => reduceR l n (dropL (dropL m k) i)
end Go.Proofs.YtccnkebkgegohaaGreatDoor
end
section
namespace Go.Proofs.YtccnkebkgegohaaGreatDoor
open Go Go.Tra
/-! ### in how many ways the acts of a set can stand first: the numbers stay small -/
def pc (t : Nat) : Nat → Nat
 | 0 => 0
 | j + 1 => pc t j + (if t.testBit j then 1 else 0)
theorem bit_or (s j i : Nat) : (s ||| 2 ^ j).testBit i = (s.testBit i || decide (i = j)) := by
 rw [Nat.testBit_or, Nat.testBit_two_pow]
 congr 1
 rw [Bool.eq_iff_iff]; simp; exact eq_comm
theorem pc_or {s j : Nat} (hj : s.testBit j = false) : ∀ n, pc (s ||| 2 ^ j) n = pc s n + (if j < n then 1 else 0)
 | 0 => by simp [pc]
 | n + 1 => by
  unfold pc
  rw [pc_or hj n, bit_or]
  by_cases h : n = j
  ·subst h; simp [hj]
  ·by_cases h2 : j < n
   ·rw [if_pos h2, if_pos (by omega : j < n + 1)]; simp [h]; omega
   ·rw [if_neg h2, if_neg (by omega : ¬ j < n + 1)]; simp [h]
theorem pc_le (t : Nat) : ∀ n, pc t n ≤ n
 | 0 => Nat.le_refl _
 | n + 1 => by unfold pc; have := pc_le t n; split <;> omega
/-- how many of the sets with one act less have been seen -/
def seen (s j t : Nat) : Nat → Nat
 | 0 => 0
 | i + 1 => seen s j t i + (if t.testBit i && (decide (t - 2 ^ i < s) || (decide (t - 2 ^ i = s) && decide (i < j))) then 1 else 0)
theorem seen_le (s j t : Nat) : ∀ n, seen s j t n ≤ n
 | 0 => Nat.le_refl _
 | n + 1 => by unfold seen; have := seen_le s j t n; split <;> omega
theorem seen_next (s t : Nat) : ∀ n m, n ≤ m → seen (s + 1) 0 t n = seen s m t n
 | 0, _, _ => rfl
 | n + 1, m, h => by
  unfold seen
  rw [seen_next s t n m (by omega)]
  congr 2
  rw [eq_iff_iff]
  simp only [Bool.and_eq_true, Bool.or_eq_true, decide_eq_true_eq]
  constructor
  ·rintro ⟨h1, h2⟩; exact ⟨h1, by omega⟩
  ·rintro ⟨h1, h2⟩; exact ⟨h1, by omega⟩
theorem seen_mono (s j t : Nat) : ∀ n, seen s j t n ≤ seen s (j + 1) t n
 | 0 => Nat.le_refl _
 | n + 1 => by
  unfold seen
  have ih := seen_mono s j t n
  by_cases h : (t.testBit n && (decide (t - 2 ^ n < s) || (decide (t - 2 ^ n = s) && decide (n < j)))) = true
  ·have h' : (t.testBit n && (decide (t - 2 ^ n < s) || (decide (t - 2 ^ n = s) && decide (n < j + 1)))) = true := by
    simp only [Bool.and_eq_true, Bool.or_eq_true, decide_eq_true_eq] at h ⊢
    exact ⟨h.1, by omega⟩
   rw [if_pos h, if_pos h']; omega
  ·rw [if_neg h]; split <;> omega
theorem or_sub {s j : Nat} (hj : s.testBit j = false) : s ||| 2 ^ j = s + 2 ^ j := by
 have h2 : s / 2 ^ j % 2 = 0 := by
  rw [Nat.testBit_eq_decide_div_mod_eq] at hj
  have := of_decide_eq_false hj
  omega
 have hr : s % 2 ^ (j + 1) < 2 ^ j := by
  rw [Nat.pow_succ, Nat.mod_mul, h2, Nat.mul_zero, Nat.add_zero]
  exact Nat.mod_lt _ (Nat.two_pow_pos j)
 have hs : s = 2 ^ (j + 1) * (s / 2 ^ (j + 1)) + s % 2 ^ (j + 1) := (Nat.div_add_mod _ _).symm
 generalize s / 2 ^ (j + 1) = q at *
 generalize s % 2 ^ (j + 1) = r at *
 have h3 : 2 ^ j + r < 2 ^ (j + 1) := by rw [Nat.pow_succ]; omega
 have h4 := Nat.two_pow_add_eq_or_of_lt hr 1
 rw [Nat.mul_one] at h4
 have h5 := Nat.two_pow_add_eq_or_of_lt h3 q
 have h6 := Nat.two_pow_add_eq_or_of_lt (show r < 2 ^ (j + 1) by omega) q
 rw [hs]
 rw [h6, Nat.or_assoc, Nat.or_comm r, ← h4, ← h5, ← h6]
 omega
theorem seen_step {s j : Nat} (hj : s.testBit j = false) : ∀ n, j < n → seen s j (s ||| 2 ^ j) n + 1 ≤ seen s (j + 1) (s ||| 2 ^ j) n
 | 0, h => by omega
 | n + 1, h => by
  by_cases e : n = j
  ·subst e
   unfold seen
   have := seen_mono s n (s ||| 2 ^ n) n
   have hs : s ||| 2 ^ n - 2 ^ n = s ||| 2 ^ n - 2 ^ n := rfl
   have hsub : (s ||| 2 ^ n) - 2 ^ n = s := by rw [or_sub hj]; omega
   rw [hsub, bit_or]
   simp
   omega
  ·have ih := seen_step hj n (by omega)
   unfold seen
   by_cases h2 : ((s ||| 2 ^ j).testBit n && (decide ((s ||| 2 ^ j) - 2 ^ n < s) || (decide ((s ||| 2 ^ j) - 2 ^ n = s) && decide (n < j)))) = true
   ·have h' : ((s ||| 2 ^ j).testBit n && (decide ((s ||| 2 ^ j) - 2 ^ n < s) || (decide ((s ||| 2 ^ j) - 2 ^ n = s) && decide (n < j + 1)))) = true := by
     simp only [Bool.and_eq_true, Bool.or_eq_true, decide_eq_true_eq] at h2 ⊢
     exact ⟨h2.1, by omega⟩
    rw [if_pos h2, if_pos h']; omega
   ·rw [if_neg h2]; split <;> omega
theorem pow_one14 (k : Nat) : (1 : Int) ≤ 14 ^ k := by
 have e : (14 : Int) ^ k = ((14 ^ k : Nat) : Int) := by rw [Int.natCast_pow]; rfl
 have := Nat.pow_pos (n := k) (by decide : 0 < 14)
 rw [e]; omega
/-- what is known of the numbers when set s is at act j -/
structure Small (n s j : Nat) (f : Nat → Int) : Prop where
 zero : f 0 = 1
 nn : ∀ t, 0 ≤ f t
 le : ∀ t, t ≠ 0 → f t * 14 ≤ (seen s j t n : Int) * 14 ^ pc t n
theorem Small.le1 {n s j : Nat} {f : Nat → Int} (h : Small n s j f) (hn : n ≤ 14) (t : Nat) : f t ≤ 14 ^ pc t n := by
 by_cases e : t = 0
 ·subst e; rw [h.zero]
  exact pow_one14 _
 ·have h1 := h.le t e
  have h2 : (seen s j t n : Int) ≤ 14 := by have := seen_le s j t n; omega
  have h3 : (0 : Int) ≤ 14 ^ pc t n := Int.pow_nonneg (by decide)
  have h4 : (seen s j t n : Int) * 14 ^ pc t n ≤ 14 * 14 ^ pc t n := Int.mul_le_mul_of_nonneg_right h2 h3
  omega
theorem pow14 {k n : Nat} (h : k ≤ n) (hn : n ≤ 14) : (14 : Int) ^ k ≤ 11112006825558016 := by
 have h1 : (14 : Nat) ^ k ≤ 14 ^ 14 := Nat.pow_le_pow_right (by decide) (by omega)
 have h2 : (14 : Nat) ^ 14 = 11112006825558016 := by decide
 rw [h2] at h1
 have e : (14 : Int) ^ k = ((14 ^ k : Nat) : Int) := by rw [Int.natCast_pow]; rfl
 rw [e]
 generalize (14 : Nat) ^ k = z at *
 omega
theorem Small.bound {n s j : Nat} {f : Nat → Int} (h : Small n s j f) (hn : n ≤ 14) (t : Nat) : 0 ≤ f t ∧ f t ≤ 11112006825558016 :=
 ⟨h.nn t, Int.le_trans (h.le1 hn t) (pow14 (pc_le t n) hn)⟩
theorem Small.skip {n s j : Nat} {f : Nat → Int} (h : Small n s j f) : Small n s (j + 1) f :=
 ⟨h.zero, h.nn, fun t ht => Int.le_trans (h.le t ht) (Int.mul_le_mul_of_nonneg_right (by have := seen_mono s j t n; omega) (Int.pow_nonneg (by decide)))⟩
theorem Small.next {n s : Nat} {f : Nat → Int} (h : Small n s n f) : Small n (s + 1) 0 f :=
 ⟨h.zero, h.nn, fun t ht => by rw [seen_next s t n n (Nat.le_refl _)]; exact h.le t ht⟩
theorem Small.step {n s j : Nat} {f : Nat → Int} (h : Small n s j f) (hn : n ≤ 14) (hj : j < n) (hb : s.testBit j = false) : Small n s (j + 1) (fun t => if t = s ||| 2 ^ j then f (s ||| 2 ^ j) + f s else f t) := by
 have hne : s ||| 2 ^ j ≠ 0 := by
  intro e
  have := bit_or s j j
  rw [e] at this
  simp at this
 refine ⟨by rw [if_neg (Ne.symm hne)]; exact h.zero, fun t => ?_, fun t ht => ?_⟩
 ·split
  ·exact Int.add_nonneg (h.nn _) (h.nn _)
  ·exact h.nn t
 ·by_cases e : t = s ||| 2 ^ j
  ·subst e
   rw [if_pos rfl]
   have h1 := h.le _ ht
   have h2 := h.le1 hn s
   have h3 := seen_step hb n hj
   have h4 := pc_or hb n
   rw [if_pos hj] at h4
   rw [h4, Int.pow_succ] at h1 ⊢
   have h3' : (seen s j (s ||| 2 ^ j) n : Int) + 1 ≤ seen s (j + 1) (s ||| 2 ^ j) n := by omega
   have h5 : (0 : Int) ≤ 14 ^ pc s n * 14 := Int.mul_nonneg (Int.pow_nonneg (by decide)) (by decide)
   have h6 := Int.mul_le_mul_of_nonneg_right h3' h5
   rw [Int.add_mul, Int.one_mul] at h6
   rw [Int.add_mul]
   refine Int.le_trans ?_ h6
   exact Int.add_le_add h1 (Int.mul_le_mul_of_nonneg_right h2 (by decide))
  ·rw [if_neg e]; exact h.skip.le t ht
end Go.Proofs.YtccnkebkgegohaaGreatDoor
end
