import Derived.Test.YtccnkebkgegohaaGreatDoorT
/-
  Given contracts of functions of the program, and laws for them, one behind the other.
-/
set_option linter.unusedVariables false
set_option linter.unusedSimpArgs false
set_option linter.unusedSectionVars false
section
namespace Go.Proofs.YtccnkebkgegohaaGreatDoor
open Go.RowKit Go.Rel
set_option maxRecDepth 100000
/-! histories in a slice; few -/
abbrev Hv := Sol × Value × Value
abbrev hvL (h : Hv) : List Value := [.int .u64 (pl h.1 0), .int .u64 (pl h.1 1), .int .u64 (pl h.1 2), .int .u64 (pl h.1 3), .int .u64 (pl h.1 4), .int .u64 (pl h.1 5), .int .u64 (pl h.1 6), .int .u64 (pl h.1 7), h.2.1, h.2.2]
abbrev hvV (h : Hv) : Value := .agg #[.int .u64 (pl h.1 0), .int .u64 (pl h.1 1), .int .u64 (pl h.1 2), .int .u64 (pl h.1 3), .int .u64 (pl h.1 4), .int .u64 (pl h.1 5), .int .u64 (pl h.1 6), .int .u64 (pl h.1 7), h.2.1, h.2.2]
theorem hv_cells {w : World} {b off : Nat} {l : List Hv} {k : Nat} {x : Hv} (h : Cells w b off 10 (l.map hvL)) (hx : l[k]? = some x) :
    w.cell? ⟨b, off + k * 10, none⟩ = some (.int .u64 (pl x.1 0)) ∧ w.cell? ⟨b, off + k * 10 + 1, none⟩ = some (.int .u64 (pl x.1 1)) ∧ w.cell? ⟨b, off + k * 10 + 2, none⟩ = some (.int .u64 (pl x.1 2)) ∧ w.cell? ⟨b, off + k * 10 + 3, none⟩ = some (.int .u64 (pl x.1 3)) ∧ w.cell? ⟨b, off + k * 10 + 4, none⟩ = some (.int .u64 (pl x.1 4)) ∧
    w.cell? ⟨b, off + k * 10 + 5, none⟩ = some (.int .u64 (pl x.1 5)) ∧ w.cell? ⟨b, off + k * 10 + 6, none⟩ = some (.int .u64 (pl x.1 6)) ∧ w.cell? ⟨b, off + k * 10 + 7, none⟩ = some (.int .u64 (pl x.1 7)) ∧ w.cell? ⟨b, off + k * 10 + 8, none⟩ = some x.2.1 ∧ w.cell? ⟨b, off + k * 10 + 9, none⟩ = some x.2.2 := by
  have hm : (l.map hvL)[k]? = some (hvL x) := by simp [hx]
  exact ⟨h.2 k 0 _ (by rw [hm]; rfl), h.2 k 1 _ (by rw [hm]; rfl), h.2 k 2 _ (by rw [hm]; rfl), h.2 k 3 _ (by rw [hm]; rfl), h.2 k 4 _ (by rw [hm]; rfl), h.2 k 5 _ (by rw [hm]; rfl), h.2 k 6 _ (by rw [hm]; rfl), h.2 k 7 _ (by rw [hm]; rfl), h.2 k 8 _ (by rw [hm]; rfl), h.2 k 9 _ (by rw [hm]; rfl)⟩
def many (m n : Nat) : Bool := decide ((14 < m ∧ m ≤ 60) ∨ 100 < m ∨ 10 < n)
set_option maxHeartbeats 4000000 in
theorem few86 (b : Sol) (a a' : Option Addr) (n c m c' : Nat) (w : World) : Calls Tryz.prog 86 #[.agg #[.int .u64 (pl b 0), .int .u64 (pl b 1), .int .u64 (pl b 2), .int .u64 (pl b 3), .int .u64 (pl b 4), .int .u64 (pl b 5), .int .u64 (pl b 6), .int .u64 (pl b 7), .slice a n c, .slice a' m c']] w fun e w' => e = .returned (.bool (many m n)) ∧ Below w.heap.size w w' := by
  go_enter Tryz.func86, Tryz.ntmps86
  go_wp2_with fail
  all_goals go_ret
  all_goals refine ⟨ret_bool ?_, bel_by⟩
  all_goals (unfold many; rw [Bool.eq_iff_iff, decide_eq_true_iff]; first | omega | (simp; omega))
set_option maxHeartbeats 2000000 in
theorem IndexFunc140 (v : Value) (l : List Hv) (p : Hv → Bool) (w : World) (h : Sl w 10 v (l.map hvL))
    (hf : ∀ w', Below w.heap.size w w' → ∀ x ∈ l, Calls Tryz.prog 86 #[hvV x] w' fun e w'' => e = .returned (.bool (p x)) ∧ Below w'.heap.size w' w'') :
    Calls Tryz.prog 140 #[v, .func (.func 86) #[] #[]] w fun e w' => e = .returned (.int .i64 (idx p l)) ∧ Below w.heap.size w w' := by
  rcases h.cases with ⟨hl, a, c, rfl, hm⟩ | ⟨b, off, c, rfl, hc, hm, hpos, hcs⟩
  · have hl' : l = [] := by simpa using hl
    subst hl'
    clear hl
    go_enter Tryz.func140, Tryz.ntmps140
    go_wp2
    refine wp_loop_rounds 1 ?_
    rw [rounds_succ]
    go_wp2
    go_ret
    exact ⟨rfl, Below.refl _ _⟩
  · rw [List.length_map] at hc hpos ⊢
    have H := Lib.hid hcs; clear hcs h
    have HF := Lib.hid hf; clear hf
    generalize hn : l.length = n at hc hpos ⊢
    have HN := Lib.hid hn; clear hn
    go_enter Tryz.func140, Tryz.ntmps140
    go_wp2_with fail
    go_loopw [8] (fun i wr => ∃ k : Nat, k ≤ n ∧ i = .int .i64 k ∧ Hid (∀ (j : Nat) (y : Hv), j < k → l[j]? = some y → p y = false) ∧ Below w.heap.size w wr) (fun i _ => n - (intOf i).toNat)
    case atStart => exact ⟨0, Nat.zero_le _, rfl, fun j y hj => by omega, Below.refl _ _⟩
    case round =>
      obtain ⟨k, hk, rfl, HP, hbel⟩ := hrel
      by_cases hlt : k < n
      · have hx : l[k]? = some (l[k]'(by rw [HN.out]; exact hlt)) := by simp
        have hcc := hv_cells (H.out.mono hbel H.out.1) hx
        have hmem := List.mem_of_getElem? hx
        generalize l[k]'(by rw [HN.out]; exact hlt) = x at hx hcc hmem
        obtain ⟨c0, c1, c2, c3, c4, c5, c6, c7, c8, c9⟩ := hcc
        have HX := Lib.hid hx; clear hx
        have HM := Lib.hid hmem; clear hmem
        have hsz := hbel.size
        go_wp2_with fail
        refine (HF.out _ hbel x HM.out).mono ?_
        rintro e w2 ⟨rfl, hb2⟩
        have hB : Below w.heap.size w w2 := bel_trans hbel hb2
        clear hb2 c0 c1 c2 c3 c4 c5 c6 c7 c8 c9
        cases hp : p x with
        | true =>
          go_wp2_with fail
          go_ret
          exact ⟨ret_int (idx_found HX.out hp HP.out).symm, hB⟩
        | false =>
          go_wp2_with fail
          go_roundw
          case rel => exact ⟨k + 1, by omega, by go_num, fun j y hj hy => (by
            rcases Nat.lt_or_eq_of_le (Nat.le_of_lt_succ hj) with h | h
            · exact HP.out j y h hy
            · subst h; rw [HX.out] at hy; cases hy; exact hp), hB⟩
          case measure => simp [intOf]; omega
      · go_wp2_with fail
        go_ret
        exact ⟨ret_int (idx_none (fun j y hy => HP.out j y (by have := (List.getElem?_eq_some_iff.1 hy).1; rw [HN.out] at this; omega) hy)).symm, hbel⟩
set_option maxHeartbeats 2000000 in
theorem ContainsFunc85 (v : Value) (l : List Hv) (p : Hv → Bool) (w : World) (h : Sl w 10 v (l.map hvL))
    (hf : ∀ w', Below w.heap.size w w' → ∀ x ∈ l, Calls Tryz.prog 86 #[hvV x] w' fun e w'' => e = .returned (.bool (p x)) ∧ Below w'.heap.size w' w'') :
    Calls Tryz.prog 85 #[v, .func (.func 86) #[] #[]] w fun e w' => e = .returned (.bool (l.any p)) ∧ Below w.heap.size w w' := by
  have hge := idx_ge p l
  have hany : Hid (l.any p = decide (0 ≤ idx p l)) := by
    show _ = _
    rw [Bool.eq_iff_iff, decide_eq_true_eq, idx_nonneg]
  have hidx := Lib.hid (IndexFunc140 v l p w h hf)
  generalize idx p l = i at hge hany hidx
  clear hf h
  go_enter Tryz.func85, Tryz.ntmps85
  go_wp2_with fail
  refine hidx.out.mono ?_
  rintro e w1 ⟨rfl, hb⟩
  go_wp2_with fail
  go_ret
  refine ⟨?_, hb⟩
  rw [hany.out]; rfl
/-- how many acts, pieces a history has -/
def manyH (h : Hv) : Bool := match h.2.1, h.2.2 with
  | .slice _ n _, .slice _ m _ => many m n
  | _, _ => false
set_option maxHeartbeats 2000000 in
theorem few_spec (v : Value) (l : List Hv) (w : World) (h : Sl w 10 v (l.map hvL)) (hs : ∀ x ∈ l, ∃ b a n c a' m c', x = (b, .slice a n c, .slice a' m c')) :
    Calls Tryz.prog 19 #[v] w fun e w' => e = .returned (.bool (!l.any manyH)) ∧ Below w.heap.size w w' := by
  have H := Lib.hid (ContainsFunc85 v l manyH w h fun w' _ x hx => by
    obtain ⟨b, a, n, c, a', m, c', rfl⟩ := hs x hx
    exact few86 b a a' n c m c' w')
  generalize l.any manyH = r at *
  clear h hs
  go_enter Tryz.func19, Tryz.ntmps19
  go_wp2_with fail
  refine H.out.mono ?_
  rintro e w1 ⟨rfl, hb⟩
  go_wp2_with fail
  go_ret
  exact ⟨rfl, hb⟩
end Go.Proofs.YtccnkebkgegohaaGreatDoor
end
section
namespace Go.Proofs.YtccnkebkgegohaaGreatDoor
open Go.RowKit Go.Rel
set_option maxRecDepth 100000
abbrev AliveH (w : World) : Prop := Hid (∀ w', Below w.heap.size w w' → Calls Tryz.prog 20 #[] w' fun e w'' => e = .returned (.bool true) ∧ Below w'.heap.size w' w'')
theorem alive_h (w : World) (hT : w.cell? ⟨5, 15, none⟩ = some (.int .u8 4)) : AliveH w :=
  Lib.hid fun w' hb => alive_spec w' ((hb.cell (p := ⟨5, 15, none⟩) (block_lt_of_cell hT)).trans hT)
end Go.Proofs.YtccnkebkgegohaaGreatDoor
end
section
namespace Go.Proofs.YtccnkebkgegohaaGreatDoor
open Go.RowKit Go.Rel
set_option maxRecDepth 100000
/-- a world that grew by what a walk lays: found by its form -/
class BelI (w0 w : World) : Prop where
  out : Below w0.heap.size w0 w
instance (w : World) : BelI w w := ⟨bel_refl w⟩
instance (w0 w : World) [h : BelI w0 w] (o : Obj) : BelI w0 (w.alloc o) := ⟨bel_alloc h.out o⟩
instance (w0 w : World) [h : BelI w0 w] : BelI w0 w.drew := ⟨bel_drew h.out⟩
instance (w0 w : World) [h : BelI w0 w] (n : Nat) : BelI w0 (w.drewN n) := ⟨bel_drewN h.out n⟩
theorem bni {w0 w : World} [h : BelI w0 w] : Below w0.heap.size w0 w := h.out
theorem few_len {m n : Nat} (h : many m n = false) (h60 : m ≤ 60) : m ≤ 14 := by
  unfold many at h
  have := of_decide_eq_false h
  omega
end Go.Proofs.YtccnkebkgegohaaGreatDoor
end
