import Derived.Test.YtccnkebkgegohaaGreatDoorG11
/-
  Given contracts of functions of the program, and laws for them, one behind the other.
-/
set_option linter.unusedVariables false
set_option linter.unusedSimpArgs false
set_option linter.unusedSectionVars false
section
namespace Go.Proofs.YtccnkebkgegohaaGreatDoor
open Go.RowKit Go.Rel
set_option maxRecDepth 100000
def cmpI (a b : Int) : Int := if a < b then -1 else if b < a then 1 else 0
set_option maxHeartbeats 1000000 in
theorem nan202 (a : Int) (w : World) : Calls Tryz.prog 202 #[.int .u8 a] w fun e w' => e = .returned (.bool false) ∧ w' = w := by
  go_enter Tryz.func202, Tryz.ntmps202
  go_wp2_with fail
  go_ret
  exact ⟨ret_bool (by simp), rfl⟩
set_option maxHeartbeats 1000000 in
theorem cmp169 (a b : Int) (w : World) : Calls Tryz.prog 169 #[.int .u8 a, .int .u8 b] w fun e w' => e = .returned (.int .i64 (cmpI a b)) ∧ w' = w := by
  unfold cmpI
  by_cases h1 : a < b
  · rw [if_pos h1]
    go_enter Tryz.func169, Tryz.ntmps169
    go_wp2_with fail
    refine (nan202 a _).mono ?_
    rintro e w1 ⟨rfl, rfl⟩
    go_wp2_with fail
    refine (nan202 b _).mono ?_
    rintro e w2 ⟨rfl, rfl⟩
    go_wp2_with fail
    go_ret
    exact ⟨rfl, rfl⟩
  · rw [if_neg h1]
    by_cases h2 : b < a
    · rw [if_pos h2]
      go_enter Tryz.func169, Tryz.ntmps169
      go_wp2_with fail
      refine (nan202 a _).mono ?_
      rintro e w1 ⟨rfl, rfl⟩
      go_wp2_with fail
      refine (nan202 b _).mono ?_
      rintro e w2 ⟨rfl, rfl⟩
      go_wp2_with fail
      go_ret
      exact ⟨rfl, rfl⟩
    · rw [if_neg h2]
      go_enter Tryz.func169, Tryz.ntmps169
      go_wp2_with fail
      refine (nan202 a _).mono ?_
      rintro e w1 ⟨rfl, rfl⟩
      go_wp2_with fail
      refine (nan202 b _).mono ?_
      rintro e w2 ⟨rfl, rfl⟩
      go_wp2_with fail
      go_ret
      exact ⟨rfl, rfl⟩
set_option maxHeartbeats 1000000 in
theorem nan203 (a : Int) (w : World) : Calls Tryz.prog 203 #[.int .i64 a] w fun e w' => e = .returned (.bool false) ∧ w' = w := by
  go_enter Tryz.func203, Tryz.ntmps203
  go_wp2_with fail
  go_ret
  exact ⟨ret_bool (by simp), rfl⟩
set_option maxHeartbeats 1000000 in
theorem cmp170 (a b : Int) (w : World) : Calls Tryz.prog 170 #[.int .i64 a, .int .i64 b] w fun e w' => e = .returned (.int .i64 (cmpI a b)) ∧ w' = w := by
  unfold cmpI
  by_cases h1 : a < b
  · rw [if_pos h1]
    go_enter Tryz.func170, Tryz.ntmps170
    go_wp2_with fail
    refine (nan203 a _).mono ?_
    rintro e w1 ⟨rfl, rfl⟩
    go_wp2_with fail
    refine (nan203 b _).mono ?_
    rintro e w2 ⟨rfl, rfl⟩
    go_wp2_with fail
    go_ret
    exact ⟨rfl, rfl⟩
  · rw [if_neg h1]
    by_cases h2 : b < a
    · rw [if_pos h2]
      go_enter Tryz.func170, Tryz.ntmps170
      go_wp2_with fail
      refine (nan203 a _).mono ?_
      rintro e w1 ⟨rfl, rfl⟩
      go_wp2_with fail
      refine (nan203 b _).mono ?_
      rintro e w2 ⟨rfl, rfl⟩
      go_wp2_with fail
      go_ret
      exact ⟨rfl, rfl⟩
    · rw [if_neg h2]
      go_enter Tryz.func170, Tryz.ntmps170
      go_wp2_with fail
      refine (nan203 a _).mono ?_
      rintro e w1 ⟨rfl, rfl⟩
      go_wp2_with fail
      refine (nan203 b _).mono ?_
      rintro e w2 ⟨rfl, rfl⟩
      go_wp2_with fail
      go_ret
      exact ⟨rfl, rfl⟩
set_option maxHeartbeats 1000000 in
theorem nan223 (a : Int) (w : World) : Calls Tryz.prog 223 #[.int .u64 a] w fun e w' => e = .returned (.bool false) ∧ w' = w := by
  go_enter Tryz.func223, Tryz.ntmps223
  go_wp2_with fail
  go_ret
  exact ⟨ret_bool (by simp), rfl⟩
set_option maxHeartbeats 1000000 in
theorem cmp204 (a b : Int) (w : World) : Calls Tryz.prog 204 #[.int .u64 a, .int .u64 b] w fun e w' => e = .returned (.int .i64 (cmpI a b)) ∧ w' = w := by
  unfold cmpI
  by_cases h1 : a < b
  · rw [if_pos h1]
    go_enter Tryz.func204, Tryz.ntmps204
    go_wp2_with fail
    refine (nan223 a _).mono ?_
    rintro e w1 ⟨rfl, rfl⟩
    go_wp2_with fail
    refine (nan223 b _).mono ?_
    rintro e w2 ⟨rfl, rfl⟩
    go_wp2_with fail
    go_ret
    exact ⟨rfl, rfl⟩
  · rw [if_neg h1]
    by_cases h2 : b < a
    · rw [if_pos h2]
      go_enter Tryz.func204, Tryz.ntmps204
      go_wp2_with fail
      refine (nan223 a _).mono ?_
      rintro e w1 ⟨rfl, rfl⟩
      go_wp2_with fail
      refine (nan223 b _).mono ?_
      rintro e w2 ⟨rfl, rfl⟩
      go_wp2_with fail
      go_ret
      exact ⟨rfl, rfl⟩
    · rw [if_neg h2]
      go_enter Tryz.func204, Tryz.ntmps204
      go_wp2_with fail
      refine (nan223 a _).mono ?_
      rintro e w1 ⟨rfl, rfl⟩
      go_wp2_with fail
      refine (nan223 b _).mono ?_
      rintro e w2 ⟨rfl, rfl⟩
      go_wp2_with fail
      go_ret
      exact ⟨rfl, rfl⟩
/-- the first of two lists' comparisons that is not 0 -/
def cmpL : List Int → List Int → Int
  | a :: as', b :: bs => if cmpI a b = 0 then cmpL as' bs else cmpI a b
  | _, _ => 0
theorem cmpL_at {l m : List Int} (hl : l.length = m.length) : ∀ {k : Nat}, (∀ (j : Nat) (x y : Int), j < k → l[j]? = some x → m[j]? = some y → cmpI x y = 0) → cmpL l m = cmpL (l.drop k) (m.drop k) := by
  induction l generalizing m with
  | nil => intro k _; cases m with
    | nil => simp
    | cons b m => simp at hl
  | cons a l ih =>
    cases m with
    | nil => simp at hl
    | cons b m =>
      intro k h
      cases k with
      | zero => rfl
      | succ k =>
        have h0 := h 0 a b (by omega) rfl rfl
        simp only [List.drop_succ_cons]
        rw [cmpL, if_pos h0]
        exact ih (by simpa using hl) (fun j x y hj hx hy => h (j + 1) x y (by omega) (by simpa using hx) (by simpa using hy))
theorem cmpL_here {l m : List Int} {k : Nat} {x y : Int} (hx : l[k]? = some x) (hy : m[k]? = some y) : cmpL (l.drop k) (m.drop k) = if cmpI x y = 0 then cmpL (l.drop (k + 1)) (m.drop (k + 1)) else cmpI x y := by
  rw [List.drop_eq_getElem_cons (List.getElem?_eq_some_iff.1 hx).1, List.drop_eq_getElem_cons (List.getElem?_eq_some_iff.1 hy).1, (List.getElem?_eq_some_iff.1 hx).2, (List.getElem?_eq_some_iff.1 hy).2]; rfl
abbrev u64L (i : Int) : List Value := [.int .u64 i]
theorem u64_cell {w : World} {b off : Nat} {l : List Int} (h : Cells w b off 1 (l.map u64L)) {k : Nat} {x : Int} (hx : l[k]? = some x) : w.cell? ⟨b, off + k, none⟩ = some (.int .u64 x) := by
  have := h.2 k 0 (.int .u64 x) (by simp [hx])
  simpa using this
set_option maxHeartbeats 2000000 in
theorem CompareU (b off b' off' c c' n : Nat) (l m : List Int) (w : World) (h1 : Cells w b off 1 (l.map u64L)) (h2 : Cells w b' off' 1 (m.map u64L)) (hl : l.length = n) (hm : m.length = n) (hn : n ≤ 8) :
    Calls Tryz.prog 171 #[.slice (some ⟨b, off, none⟩) n c, .slice (some ⟨b', off', none⟩) n c'] w fun e w' => e = .returned (.int .i64 (cmpL l m)) ∧ w' = w := by
  have H1 := Lib.hid h1; have H2 := Lib.hid h2; clear h1 h2
  have HL := Lib.hid (And.intro hl hm); clear hl hm
  have lb := H1.out.1
  have lb' := H2.out.1
  go_enter Tryz.func171, Tryz.ntmps171
  go_wp2_with fail
  go_loopw [11] (fun i wr => ∃ k : Nat, k ≤ n ∧ i = .int .i64 k ∧ Hid (cmpL l m = cmpL (l.drop k) (m.drop k)) ∧ wr = w) (fun i _ => n - (intOf i).toNat)
  case atStart => exact ⟨0, Nat.zero_le _, rfl, Lib.hid (show cmpL l m = cmpL (l.drop 0) (m.drop 0) from rfl), rfl⟩
  case round =>
    obtain ⟨k, hk, rfl, HP, rfl⟩ := hrel
    by_cases hlt : k < n
    · have hx : l[k]? = some (l[k]'(by rw [HL.out.1]; exact hlt)) := by simp
      have hy : m[k]? = some (m[k]'(by rw [HL.out.2]; exact hlt)) := by simp
      generalize l[k]'(by rw [HL.out.1]; exact hlt) = x at hx
      generalize m[k]'(by rw [HL.out.2]; exact hlt) = y at hy
      have c0 := u64_cell H1.out hx
      have c1 := u64_cell H2.out hy
      have HX := Lib.hid (cmpL_here hx hy); clear hx hy
      go_wp2_with fail
      refine (cmp204 x y _).mono ?_
      rintro e w2 ⟨rfl, rfl⟩
      generalize hr : cmpI x y = r at HX
      by_cases h0 : r = 0
      · subst h0
        go_wp2_with fail
        go_roundw
        case rel => exact ⟨k + 1, by omega, by go_num, HP.out.trans (by simpa using HX.out), trivial⟩
        case measure => simp [intOf]; omega
      · have hne : (r != 0) = true := by simpa using h0
        go_wp2_with fail
        go_ret
        exact ⟨ret_int (HP.out.trans (HX.out.trans (if_neg h0))).symm, rfl⟩
    · have hkn : k = n := by omega
      subst hkn
      have hz : cmpL l m = 0 := by
        rw [HP.out, List.drop_of_length_le (by rw [HL.out.1]; exact Nat.le_refl _)]; rfl
      have HZ := Lib.hid hz; clear hz
      go_wp2_with fail
      go_ret
      exact ⟨ret_int HZ.out.symm, rfl⟩
end Go.Proofs.YtccnkebkgegohaaGreatDoor
end
section
namespace Go.Proofs.YtccnkebkgegohaaGreatDoor
open Go.RowKit Go.Rel
set_option maxRecDepth 100000
def or3 (x y z : Int) : Int := if x = 0 then (if y = 0 then z else y) else x
set_option maxHeartbeats 4000000 in
theorem Or_spec (g : Nat) (x y z : Int) (w : World) (hg : g < w.heap.size) (c0 : w.cell? ⟨g, 0, none⟩ = some (.int .i64 x)) (c1 : w.cell? ⟨g, 1, none⟩ = some (.int .i64 y)) (c2 : w.cell? ⟨g, 2, none⟩ = some (.int .i64 z)) :
    Calls Tryz.prog 168 #[.slice (some ⟨g, 0, none⟩) 3 3] w fun e w' => e = .returned (.int .i64 (or3 x y z)) ∧ w' = w := by
  unfold or3
  by_cases hx : x = 0
  · rw [if_pos hx]
    subst hx
    by_cases hy : y = 0
    · rw [if_pos hy]
      subst hy
      by_cases hz : z = 0
      · subst hz
        go_enter Tryz.func168, Tryz.ntmps168
        go_wp2_with fail
        refine wp_loop_rounds 4 ?_
        rw [rounds_succ]
        go_wp2_with fail
        rw [rounds_succ]
        go_wp2_with fail
        rw [rounds_succ]
        go_wp2_with fail
        rw [rounds_succ]
        go_wp2_with fail
        go_ret
        exact ⟨rfl, rfl⟩
      · have hne : (z != 0) = true := by simpa using hz
        clear hz
        go_enter Tryz.func168, Tryz.ntmps168
        go_wp2_with fail
        refine wp_loop_rounds 4 ?_
        rw [rounds_succ]
        go_wp2_with fail
        rw [rounds_succ]
        go_wp2_with fail
        rw [rounds_succ]
        go_wp2_with fail
        go_ret
        exact ⟨rfl, rfl⟩
    · rw [if_neg hy]
      have hne : (y != 0) = true := by simpa using hy
      clear hy
      go_enter Tryz.func168, Tryz.ntmps168
      go_wp2_with fail
      refine wp_loop_rounds 4 ?_
      rw [rounds_succ]
      go_wp2_with fail
      rw [rounds_succ]
      go_wp2_with fail
      go_ret
      exact ⟨rfl, rfl⟩
  · rw [if_neg hx]
    have hne : (x != 0) = true := by simpa using hx
    clear hx
    go_enter Tryz.func168, Tryz.ntmps168
    go_wp2_with fail
    refine wp_loop_rounds 4 ?_
    rw [rounds_succ]
    go_wp2_with fail
    go_ret
    exact ⟨rfl, rfl⟩
/-- the planes of a solid -/
def planes (s : Sol) : List Int := [pl s 0, pl s 1, pl s 2, pl s 3, pl s 4, pl s 5, pl s 6, pl s 7]
/-- compare -/
def cmpA (a b : Ac) : Int := or3 (cmpI a.1 b.1) (cmpI a.2.1 b.2.1) (cmpL (planes a.2.2) (planes b.2.2))
theorem planes_cells {w : World} {g : Nat} {x y : Value} {s : Sol} {t : TypeId} (h : Blk w g #[x, y, .int .u64 (pl s 0), .int .u64 (pl s 1), .int .u64 (pl s 2), .int .u64 (pl s 3), .int .u64 (pl s 4), .int .u64 (pl s 5), .int .u64 (pl s 6), .int .u64 (pl s 7)] t) : Cells w g 2 1 ((planes s).map u64L) := by
  refine ⟨h.lt, fun i j u hu => ?_⟩
  rw [h.cell]
  have hi : i < 8 := by
    rcases Nat.lt_or_ge i 8 with h | h
    · exact h
    · rw [List.getElem?_eq_none (by simpa [planes] using h)] at hu; simp at hu
  obtain rfl | rfl | rfl | rfl | rfl | rfl | rfl | rfl : i = 0 ∨ i = 1 ∨ i = 2 ∨ i = 3 ∨ i = 4 ∨ i = 5 ∨ i = 6 ∨ i = 7 := by omega
  all_goals (
    have hj : j = 0 := by
      rcases Nat.eq_zero_or_pos j with h | h
      · exact h
      · simp [planes] at hu
        obtain ⟨j', rfl⟩ : ∃ j', j = j' + 1 := ⟨j - 1, by omega⟩
        simp at hu
    subst hj
    simpa [planes] using hu)
set_option maxHeartbeats 4000000 in
theorem compare_spec (a b : Ac) (w : World) : Calls Tryz.prog 130 #[.agg #[.int .u8 a.1, .int .i64 a.2.1, .int .u64 (pl a.2.2 0), .int .u64 (pl a.2.2 1), .int .u64 (pl a.2.2 2), .int .u64 (pl a.2.2 3), .int .u64 (pl a.2.2 4), .int .u64 (pl a.2.2 5), .int .u64 (pl a.2.2 6), .int .u64 (pl a.2.2 7)], .agg #[.int .u8 b.1, .int .i64 b.2.1, .int .u64 (pl b.2.2 0), .int .u64 (pl b.2.2 1), .int .u64 (pl b.2.2 2), .int .u64 (pl b.2.2 3), .int .u64 (pl b.2.2 4), .int .u64 (pl b.2.2 5), .int .u64 (pl b.2.2 6), .int .u64 (pl b.2.2 7)]] w fun e w' => e = .returned (.int .i64 (cmpA a b)) ∧ Below w.heap.size w w' := by
  have HL := Lib.hid (CompareU · 2 · 2 8 8 8 (planes a.2.2) (planes b.2.2))
  have h4 := fun w => cmp169 a.1 b.1 w
  have h9 := fun w => cmp170 a.2.1 b.2.1 w
  unfold cmpA
  generalize cmpI a.1 b.1 = x at h4 ⊢
  generalize cmpI a.2.1 b.2.1 = y at h9 ⊢
  generalize cmpL (planes a.2.2) (planes b.2.2) = z at HL ⊢
  have H4 := Lib.hid h4; have H9 := Lib.hid h9; clear h4 h9
  go_enter Tryz.func130, Tryz.ntmps130
  go_wp2_with fail
  refine wp_region_grow 17 [Is (.pointer (some ⟨w.heap.size, 0, none⟩)), Is (.int .u8 a.1), Is (.pointer (some ⟨w.heap.size + 1, 0, none⟩)), Is (.int .u8 b.1), Is (.int .i64 x), Is (.pointer (some ⟨w.heap.size, 1, none⟩)), Is (.int .i64 a.2.1), Is (.pointer (some ⟨w.heap.size + 1, 1, none⟩)), Is (.int .i64 b.2.1), Is (.int .i64 y), Is (.pointer (some ⟨w.heap.size, 2, none⟩)), Is (.slice (some ⟨w.heap.size, 2, none⟩) 8 8), Is (.pointer (some ⟨w.heap.size + 1, 2, none⟩)), Is (.slice (some ⟨w.heap.size + 1, 2, none⟩) 8 8), Is (.int .i64 z), fun v W => ∃ g, v = .slice (some ⟨g, 0, none⟩) 3 3 ∧ Blk W g #[.int .i64 x, .int .i64 y, .int .i64 z] 3, Is (.int .i64 (or3 x y z))] (by kernel_rfl) (by kernel_rfl) rfl ⟨fun _ _ _ h _ => h, fun _ _ _ h _ => h, fun _ _ _ h _ => h, fun _ _ _ h _ => h, fun _ _ _ h _ => h, fun _ _ _ h _ => h, fun _ _ _ h _ => h, fun _ _ _ h _ => h, fun _ _ _ h _ => h, fun _ _ _ h _ => h, fun _ _ _ h _ => h, fun _ _ _ h _ => h, fun _ _ _ h _ => h, fun _ _ _ h _ => h, fun _ _ _ h _ => h, (fun _ _ _ h g => h.elim fun b hb => ⟨b, hb.1, hb.2.grow g⟩), fun _ _ _ h _ => h, trivial⟩ ?_
  simp only [List.take_succ_cons, List.take_zero, List.drop_succ_cons, List.drop_zero]
  refine rel_cons ?_ (fun v0 => ?_)
  · intro w1 hb hF
    have hc := (Grows.cells hb).1
    have hf := (Grows.cells hb).2
    try simp [facts, Is] at hF
    go_simp
    exact Grows.refl _
  refine rel_cons ?_ (fun v1 => ?_)
  · intro w1 hb hF
    have hc := (Grows.cells hb).1
    have hf := (Grows.cells hb).2
    try simp [facts, Is] at hF
    go_simp
    exact Grows.refl _
  refine rel_cons ?_ (fun v2 => ?_)
  · intro w1 hb hF
    have hc := (Grows.cells hb).1
    have hf := (Grows.cells hb).2
    try simp [facts, Is] at hF
    go_simp
    exact Grows.refl _
  refine rel_cons ?_ (fun v3 => ?_)
  · intro w1 hb hF
    have hc := (Grows.cells hb).1
    have hf := (Grows.cells hb).2
    try simp [facts, Is] at hF
    go_simp
    exact Grows.refl _
  refine rel_cons ?_ (fun v4 => ?_)
  · intro w1 hb hF
    have hc := (Grows.cells hb).1
    have hf := (Grows.cells hb).2
    try simp [facts, Is] at hF
    go_simp
    refine (H4.out _).mono ?_
    rintro e w4 ⟨rfl, rfl⟩
    exact ⟨rfl, Grows.refl _⟩
  refine rel_cons ?_ (fun v5 => ?_)
  · intro w1 hb hF
    have hc := (Grows.cells hb).1
    have hf := (Grows.cells hb).2
    try simp [facts, Is] at hF
    go_simp
    exact Grows.refl _
  refine rel_cons ?_ (fun v6 => ?_)
  · intro w1 hb hF
    have hc := (Grows.cells hb).1
    have hf := (Grows.cells hb).2
    try simp [facts, Is] at hF
    go_simp
    exact Grows.refl _
  refine rel_cons ?_ (fun v7 => ?_)
  · intro w1 hb hF
    have hc := (Grows.cells hb).1
    have hf := (Grows.cells hb).2
    try simp [facts, Is] at hF
    go_simp
    exact Grows.refl _
  refine rel_cons ?_ (fun v8 => ?_)
  · intro w1 hb hF
    have hc := (Grows.cells hb).1
    have hf := (Grows.cells hb).2
    try simp [facts, Is] at hF
    go_simp
    exact Grows.refl _
  refine rel_cons ?_ (fun v9 => ?_)
  · intro w1 hb hF
    have hc := (Grows.cells hb).1
    have hf := (Grows.cells hb).2
    try simp [facts, Is] at hF
    go_simp
    refine (H9.out _).mono ?_
    rintro e w4 ⟨rfl, rfl⟩
    exact ⟨rfl, Grows.refl _⟩
  refine rel_cons ?_ (fun v10 => ?_)
  · intro w1 hb hF
    have hc := (Grows.cells hb).1
    have hf := (Grows.cells hb).2
    try simp [facts, Is] at hF
    go_simp
    exact Grows.refl _
  refine rel_cons ?_ (fun v11 => ?_)
  · intro w1 hb hF
    have hc := (Grows.cells hb).1
    have hf := (Grows.cells hb).2
    try simp [facts, Is] at hF
    go_simp
    exact Grows.refl _
  refine rel_cons ?_ (fun v12 => ?_)
  · intro w1 hb hF
    have hc := (Grows.cells hb).1
    have hf := (Grows.cells hb).2
    try simp [facts, Is] at hF
    go_simp
    exact Grows.refl _
  refine rel_cons ?_ (fun v13 => ?_)
  · intro w1 hb hF
    have hc := (Grows.cells hb).1
    have hf := (Grows.cells hb).2
    try simp [facts, Is] at hF
    go_simp
    exact Grows.refl _
  refine rel_cons ?_ (fun v14 => ?_)
  · intro w1 hb hF
    have hc := (Grows.cells hb).1
    have hf := (Grows.cells hb).2
    try simp [facts, Is] at hF
    have bA : Blk w1 w.heap.size #[.int .u8 a.1, .int .i64 a.2.1, .int .u64 (pl a.2.2 0), .int .u64 (pl a.2.2 1), .int .u64 (pl a.2.2 2), .int .u64 (pl a.2.2 3), .int .u64 (pl a.2.2 4), .int .u64 (pl a.2.2 5), .int .u64 (pl a.2.2 6), .int .u64 (pl a.2.2 7)] 46 := Blk.grow (by repeat (first | with_reducible assumption | (refine Blk.at _ _ ?_; (simp; done)) | with_reducible refine Blk.alloc ?_ _ | with_reducible refine Blk.drew ?_ | with_reducible refine Blk.rowS ?_ _ | with_reducible refine Blk.rowO ?_ _ (by simp))) hb
    have bB : Blk w1 (w.heap.size + 1) #[.int .u8 b.1, .int .i64 b.2.1, .int .u64 (pl b.2.2 0), .int .u64 (pl b.2.2 1), .int .u64 (pl b.2.2 2), .int .u64 (pl b.2.2 3), .int .u64 (pl b.2.2 4), .int .u64 (pl b.2.2 5), .int .u64 (pl b.2.2 6), .int .u64 (pl b.2.2 7)] 46 := Blk.grow (by repeat (first | with_reducible assumption | (refine Blk.at _ _ ?_; (simp; done)) | with_reducible refine Blk.alloc ?_ _ | with_reducible refine Blk.drew ?_ | with_reducible refine Blk.rowS ?_ _ | with_reducible refine Blk.rowO ?_ _ (by simp))) hb
    have HC := Lib.hid (HL.out w.heap.size (w.heap.size + 1) w1 (planes_cells bA) (planes_cells bB) rfl rfl (by omega))
    clear bA bB
    go_simp
    refine HC.out.mono ?_
    rintro e w4 ⟨rfl, rfl⟩
    exact ⟨rfl, Grows.refl _⟩
  refine rel_cons ?_ (fun v15 => ?_)
  · intro w1 hb hF
    have hc := (Grows.cells hb).1
    have hf := (Grows.cells hb).2
    try simp [facts, Is] at hF
    go_simp
    exact ⟨bel_alloc (Grows.refl _) _, Blk.at _ _ rfl⟩
  refine rel_cons ?_ (fun v16 => ?_)
  · intro w1 hb hF
    have hc := (Grows.cells hb).1
    have hf := (Grows.cells hb).2
    try simp [facts, Is] at hF
    refine Exists.elim hF.1 (fun g hg => ?_)
    have hv := hg.1
    subst hv
    have HO := Lib.hid (Or_spec g x y z w1 hg.2.lt (hg.2.cell 0) (hg.2.cell 1) (hg.2.cell 2))
    clear hg hF
    go_simp
    refine HO.out.mono ?_
    rintro e w4 ⟨rfl, rfl⟩
    exact ⟨rfl, Grows.refl _⟩
  refine rel_nil ?_
  intro w1 hb hF
  simp [Is, Nat.forall_lt_succ_right] at hF
  have e0 := hF.1.1.1.1.1.1.1.1.1.1.1.1.1.1.1.1
  have e1 := hF.1.1.1.1.1.1.1.1.1.1.1.1.1.1.1.2
  have e2 := hF.1.1.1.1.1.1.1.1.1.1.1.1.1.1.2
  have e3 := hF.1.1.1.1.1.1.1.1.1.1.1.1.1.2
  have e4 := hF.1.1.1.1.1.1.1.1.1.1.1.1.2
  have e5 := hF.1.1.1.1.1.1.1.1.1.1.1.2
  have e6 := hF.1.1.1.1.1.1.1.1.1.1.2
  have e7 := hF.1.1.1.1.1.1.1.1.1.2
  have e8 := hF.1.1.1.1.1.1.1.1.2
  have e9 := hF.1.1.1.1.1.1.1.2
  have e10 := hF.1.1.1.1.1.1.2
  have e11 := hF.1.1.1.1.1.2
  have e12 := hF.1.1.1.1.2
  have e13 := hF.1.1.1.2
  have e14 := hF.1.1.2
  have e15 := hF.1.2
  have e16 := hF.2
  clear hF
  simp only [Act.put, List.setIfInBounds_toArray, List.set_cons_succ, List.set_cons_zero, e0, e1, e2, e3, e4, e5, e6, e7, e8, e9, e10, e11, e12, e13, e14, e16]
  clear e0 e1 e2 e3 e4 e5 e6 e7 e8 e9 e10 e11 e12 e13 e14 e16
  go_wp2_with fail
  go_ret
  exact ⟨rfl, bel_trans (by repeat (first | with_reducible exact bel_refl _ | with_reducible assumption | with_reducible refine bel_drewN ?_ _ | with_reducible refine bel_drew ?_ | with_reducible refine bel_alloc ?_ _ | with_reducible refine bel_row ?_ ?_ _ | with_reducible refine bel_set ?_ ?_ _ | refine bel_trans ?_ (by with_reducible assumption) | (simp; done) | (simp; omega))) hb⟩
end Go.Proofs.YtccnkebkgegohaaGreatDoor
end
section
namespace Go.Proofs.YtccnkebkgegohaaGreatDoor
open Go.RowKit Go.Rel
set_option maxRecDepth 100000
set_option maxHeartbeats 4000000 in
theorem least1 {bp : Nat} {blank : Sol} {v av : Value} {l : List Sol} {acts : List Ac} {s : Stn} (w : World) (HP : PastAt bp blank v av l acts s w) (Ha : SlA w av acts) (bt : Nat) (hbt : w.cell? ⟨bt, 0, none⟩ = some (.pointer (some ⟨bp, 0, none⟩))) (j i : Nat) (x y : Ac) (hj : acts[j]? = some x) (hi : acts[i]? = some y) :
    Calls Tryz.prog 147 #[.int .i64 j, .int .i64 i, .pointer (some ⟨bt, 0, none⟩)] w fun e w' => e = .returned (.int .i64 (cmpA x y)) ∧ Below w.heap.size w w' := by
  obtain ⟨dv, hpast, _⟩ := HP.past
  rcases Ha.cases with ⟨hl, _⟩ | ⟨b, off, c, rfl, hc, hm, hpos, hcs⟩
  · have : acts = [] := by simpa using hl
    subst this
    simp at hj
  have hjl : j < acts.length := (List.getElem?_eq_some_iff.1 hj).1
  have hil : i < acts.length := (List.getElem?_eq_some_iff.1 hi).1
  rw [List.length_map] at *
  obtain ⟨c0, c1, c2, c3, c4, c5, c6, c7, c8, c9⟩ := ac_cells hcs hj
  obtain ⟨d0, d1, d2, d3, d4, d5, d6, d7, d8, d9⟩ := ac_cells hcs hi
  have HH := Lib.hid (compare_spec x y)
  generalize cmpA x y = r at HH ⊢
  generalize acts.length = n at *
  have cp := hpast.cell
  have lp := hpast.lt
  have lb := hcs.1
  have lbt : bt < w.heap.size := block_lt_of_cell hbt
  clear hpast HP Ha hcs hj hi
  go_enter Tryz.func147, Tryz.ntmps147
  go_wp2_with fail
  refine wp_region_grow 15 [Is (.pointer (some ⟨bp, 0, none⟩)), Is (.pointer (some ⟨bp, 0, none⟩)), Is (.pointer (some ⟨bp, 9, none⟩)), Is (.slice (some ⟨b, off, none⟩) n c), Is (.int .i64 j), Is (.pointer (some ⟨b, off + j * 10, none⟩)), Is (.agg #[.int .u8 x.1, .int .i64 x.2.1, .int .u64 (pl x.2.2 0), .int .u64 (pl x.2.2 1), .int .u64 (pl x.2.2 2), .int .u64 (pl x.2.2 3), .int .u64 (pl x.2.2 4), .int .u64 (pl x.2.2 5), .int .u64 (pl x.2.2 6), .int .u64 (pl x.2.2 7)]), Is (.pointer (some ⟨bp, 0, none⟩)), Is (.pointer (some ⟨bp, 0, none⟩)), Is (.pointer (some ⟨bp, 9, none⟩)), Is (.slice (some ⟨b, off, none⟩) n c), Is (.int .i64 i), Is (.pointer (some ⟨b, off + i * 10, none⟩)), Is (.agg #[.int .u8 y.1, .int .i64 y.2.1, .int .u64 (pl y.2.2 0), .int .u64 (pl y.2.2 1), .int .u64 (pl y.2.2 2), .int .u64 (pl y.2.2 3), .int .u64 (pl y.2.2 4), .int .u64 (pl y.2.2 5), .int .u64 (pl y.2.2 6), .int .u64 (pl y.2.2 7)]), Is (.int .i64 r)] (by kernel_rfl) (by kernel_rfl) rfl ⟨fun _ _ _ h _ => h, fun _ _ _ h _ => h, fun _ _ _ h _ => h, fun _ _ _ h _ => h, fun _ _ _ h _ => h, fun _ _ _ h _ => h, fun _ _ _ h _ => h, fun _ _ _ h _ => h, fun _ _ _ h _ => h, fun _ _ _ h _ => h, fun _ _ _ h _ => h, fun _ _ _ h _ => h, fun _ _ _ h _ => h, fun _ _ _ h _ => h, fun _ _ _ h _ => h, trivial⟩ ?_
  simp only [List.take_succ_cons, List.take_zero, List.drop_succ_cons, List.drop_zero]
  refine rel_cons ?_ (fun v0 => ?_)
  · intro w1 hb hF
    have hc := (Grows.cells hb).1
    have hf := (Grows.cells hb).2
    try simp [facts, Is] at hF
    go_simp
    exact Grows.refl _
  refine rel_cons ?_ (fun v1 => ?_)
  · intro w1 hb hF
    have hc := (Grows.cells hb).1
    have hf := (Grows.cells hb).2
    try simp [facts, Is] at hF
    go_simp
    exact Grows.refl _
  refine rel_cons ?_ (fun v2 => ?_)
  · intro w1 hb hF
    have hc := (Grows.cells hb).1
    have hf := (Grows.cells hb).2
    try simp [facts, Is] at hF
    go_simp
    exact Grows.refl _
  refine rel_cons ?_ (fun v3 => ?_)
  · intro w1 hb hF
    have hc := (Grows.cells hb).1
    have hf := (Grows.cells hb).2
    try simp [facts, Is] at hF
    go_simp
    exact Grows.refl _
  refine rel_cons ?_ (fun v4 => ?_)
  · intro w1 hb hF
    have hc := (Grows.cells hb).1
    have hf := (Grows.cells hb).2
    try simp [facts, Is] at hF
    go_simp
    exact Grows.refl _
  refine rel_cons ?_ (fun v5 => ?_)
  · intro w1 hb hF
    have hc := (Grows.cells hb).1
    have hf := (Grows.cells hb).2
    try simp [facts, Is] at hF
    go_simp
    exact Grows.refl _
  refine rel_cons ?_ (fun v6 => ?_)
  · intro w1 hb hF
    have hc := (Grows.cells hb).1
    have hf := (Grows.cells hb).2
    try simp [facts, Is] at hF
    go_simp
    exact Grows.refl _
  refine rel_cons ?_ (fun v7 => ?_)
  · intro w1 hb hF
    have hc := (Grows.cells hb).1
    have hf := (Grows.cells hb).2
    try simp [facts, Is] at hF
    go_simp
    exact Grows.refl _
  refine rel_cons ?_ (fun v8 => ?_)
  · intro w1 hb hF
    have hc := (Grows.cells hb).1
    have hf := (Grows.cells hb).2
    try simp [facts, Is] at hF
    go_simp
    exact Grows.refl _
  refine rel_cons ?_ (fun v9 => ?_)
  · intro w1 hb hF
    have hc := (Grows.cells hb).1
    have hf := (Grows.cells hb).2
    try simp [facts, Is] at hF
    go_simp
    exact Grows.refl _
  refine rel_cons ?_ (fun v10 => ?_)
  · intro w1 hb hF
    have hc := (Grows.cells hb).1
    have hf := (Grows.cells hb).2
    try simp [facts, Is] at hF
    go_simp
    exact Grows.refl _
  refine rel_cons ?_ (fun v11 => ?_)
  · intro w1 hb hF
    have hc := (Grows.cells hb).1
    have hf := (Grows.cells hb).2
    try simp [facts, Is] at hF
    go_simp
    exact Grows.refl _
  refine rel_cons ?_ (fun v12 => ?_)
  · intro w1 hb hF
    have hc := (Grows.cells hb).1
    have hf := (Grows.cells hb).2
    try simp [facts, Is] at hF
    go_simp
    exact Grows.refl _
  refine rel_cons ?_ (fun v13 => ?_)
  · intro w1 hb hF
    have hc := (Grows.cells hb).1
    have hf := (Grows.cells hb).2
    try simp [facts, Is] at hF
    go_simp
    exact Grows.refl _
  refine rel_cons ?_ (fun v14 => ?_)
  · intro w1 hb hF
    have hc := (Grows.cells hb).1
    have hf := (Grows.cells hb).2
    try simp [facts, Is] at hF
    go_simp
    refine (HH.out _).mono ?_
    rintro e w4 ⟨rfl, hb4⟩
    exact ⟨rfl, hb4⟩
  refine rel_nil ?_
  intro w1 hb hF
  simp [Is, Nat.forall_lt_succ_right] at hF
  have e0 := hF.1.1.1.1.1.1.1.1.1.1.1.1.1.1
  have e1 := hF.1.1.1.1.1.1.1.1.1.1.1.1.1.2
  have e2 := hF.1.1.1.1.1.1.1.1.1.1.1.1.2
  have e3 := hF.1.1.1.1.1.1.1.1.1.1.1.2
  have e4 := hF.1.1.1.1.1.1.1.1.1.1.2
  have e5 := hF.1.1.1.1.1.1.1.1.1.2
  have e6 := hF.1.1.1.1.1.1.1.1.2
  have e7 := hF.1.1.1.1.1.1.1.2
  have e8 := hF.1.1.1.1.1.1.2
  have e9 := hF.1.1.1.1.1.2
  have e10 := hF.1.1.1.1.2
  have e11 := hF.1.1.1.2
  have e12 := hF.1.1.2
  have e13 := hF.1.2
  have e14 := hF.2
  clear hF
  simp only [Act.put, List.setIfInBounds_toArray, List.set_cons_succ, List.set_cons_zero, e0, e1, e2, e3, e4, e5, e6, e7, e8, e9, e10, e11, e12, e13, e14]
  clear e0 e1 e2 e3 e4 e5 e6 e7 e8 e9 e10 e11 e12 e13 e14
  go_wp2_with fail
  go_ret
  exact ⟨rfl, hb⟩
/-- the least by a comparison, the first of the least -/
def minF (f : Int → Int → Int) (m : Int) : List Int → Int
  | [] => m
  | x :: xs => minF f (if f x m < 0 then x else m) xs
theorem minF_at (f : Int → Int → Int) {l : List Int} {k : Nat} {x m : Int} (hx : l[k]? = some x) : minF f m (l.drop k) = minF f (if f x m < 0 then x else m) (l.drop (k + 1)) := by
  rw [List.drop_eq_getElem_cons (List.getElem?_eq_some_iff.1 hx).1, (List.getElem?_eq_some_iff.1 hx).2]; rfl
set_option maxHeartbeats 4000000 in
theorem MinFunc147 (v : Value) (l : List Int) (c0 : Value) (f : Int → Int → Int) (x0 : Int) (w : World) (h : SlI w v l) (h0 : l[0]? = some x0)
    (hf : ∀ w', Below w.heap.size w w' → ∀ x ∈ l, ∀ y ∈ l, Calls Tryz.prog 147 #[.int .i64 x, .int .i64 y, c0] w' fun e w'' => e = .returned (.int .i64 (f x y)) ∧ Below w'.heap.size w' w'') :
    Calls Tryz.prog 146 #[v, .func (.func 147) #[] #[c0]] w fun e w' => e = .returned (.int .i64 (minF f x0 (l.drop 1))) ∧ Below w.heap.size w w' := by
  rcases h.cases with ⟨hl, _⟩ | ⟨b, off, c, rfl, hc, hm, hpos, hcs⟩
  · have hl' : l = [] := by simpa using hl
    subst hl'
    simp at h0
  rw [List.length_map] at hc hpos ⊢
  have H := Lib.hid hcs
  have HF := Lib.hid hf; clear hf h
  have lb := hcs.1
  have cz : w.cell? ⟨b, off, none⟩ = some (.int .i64 x0) := by simpa using int_cell hcs h0
  clear hcs
  have HM := Lib.hid (List.mem_of_getElem? h0); clear h0
  generalize hn : l.length = n at hc hpos ⊢
  have HN := Lib.hid hn; clear hn
  go_enter Tryz.func146, Tryz.ntmps146
  go_wp2_with fail
  go_loopw [5, 6] (fun m i wr => ∃ k : Nat, ∃ z : Int, k ≤ n ∧ i = .int .i64 k ∧ m = .int .i64 z ∧ Hid (z ∈ l ∧ minF f x0 (l.drop 1) = minF f z (l.drop k)) ∧ Below w.heap.size w wr) (fun _ i _ => n - (intOf i).toNat)
  case atStart => exact ⟨1, x0, by omega, rfl, rfl, Lib.hid ⟨HM.out, rfl⟩, Below.refl _ _⟩
  case round =>
    obtain ⟨k, z, hk, rfl, rfl, HP, hbel⟩ := hrel
    by_cases hlt : k < n
    · have hx : l[k]? = some (l[k]'(by rw [HN.out]; exact hlt)) := by simp
      have cx := int_cell (H.out.mono hbel H.out.1) hx
      have hmem := List.mem_of_getElem? hx
      generalize l[k]'(by rw [HN.out]; exact hlt) = x at hx cx hmem
      have HX := Lib.hid (minF_at f (m := z) hx); clear hx
      have HMX := Lib.hid hmem; clear hmem
      have hsz := hbel.size
      go_wp2_with fail
      refine (HF.out _ hbel x HMX.out z HP.out.1).mono ?_
      rintro e w2 ⟨rfl, hb2⟩
      have hB : Below w.heap.size w w2 := bel_trans hbel hb2
      have cx2 := (hb2.cell (p := ⟨b, off + k, none⟩) (show b < wr.heap.size by omega)).trans cx
      have hs2 := hb2.size
      clear hb2 cx
      by_cases hr : f x z < 0
      · rw [if_pos hr] at HX
        go_wp2_with fail
        go_roundw
        case rel => exact ⟨k + 1, x, by omega, by go_num, rfl, ⟨HMX.out, HP.out.2.trans HX.out⟩, hB⟩
        case measure => simp [intOf]; omega
      · rw [if_neg hr] at HX
        go_wp2_with fail
        go_roundw
        case rel => exact ⟨k + 1, z, by omega, by go_num, rfl, ⟨HP.out.1, HP.out.2.trans HX.out⟩, hB⟩
        case measure => simp [intOf]; omega
    · have hkn : k = n := by omega
      subst hkn
      have hz : minF f x0 (l.drop 1) = z := by
        rw [HP.out.2, List.drop_of_length_le (by rw [HN.out]; exact Nat.le_refl _)]; rfl
      have HZ := Lib.hid hz; clear hz
      go_wp2_with fail
      go_ret
      exact ⟨ret_int HZ.out.symm, hbel⟩
end Go.Proofs.YtccnkebkgegohaaGreatDoor
end
section
namespace Go.Proofs.YtccnkebkgegohaaGreatDoor
open Go.RowKit Go.Rel
set_option maxRecDepth 100000
theorem run_clear_row {P : Program} (w : World) (t e ty : TypeId) (z : Value) (ht : P.underlying t = some (.slice e)) (hv : ∀ w, (zeroValue e).run P w = .ok z w) (hz : z.cells = #[z]) (h1 : z.oneCell' = true) (g o n c : Nat) (hn : 0 < n)
    (cur : Array Value) (tt : TypeId) (hg : w.heap[g]? = some (.cells cur tt (0, 0))) (hfit : o + n ≤ cur.size) :
    (Builtin.clear_ #[t] ty #[.slice (some ⟨g, o, none⟩) n c]).run P w = .ok (.tuple #[]) (w.setRow g (cur.toList.take o ++ List.replicate n z ++ cur.toList.drop (o + n)).toArray) := by
  have hzc : (Builtin.zeroCells z.cells n).toList = List.replicate n z := by
    rw [hz]
    simp [Builtin.zeroCells]
    apply List.ext_getElem
    · simp
    · intro i h1 h2
      simp [Nat.mod_one]
  have hst := run_storeCells_at P g o tt (List.replicate n z) 0 cur w hg (by simpa using hfit) (by intro v hv'; rw [List.eq_of_mem_replicate hv']; exact h1)
  simp only [Nat.add_zero, List.length_replicate] at hst
  obtain ⟨m, rfl⟩ : ∃ m, n = m + 1 := ⟨n - 1, by omega⟩
  simp [Builtin.clear_, run_underlying ht, hv, hzc, hst]
theorem wpList_clear_row {P : Program} {w : World} {ops : Array Oper} {rest : List Oper} {o : Oper} {a : Act} {Q : Exit → Act → World → Prop} (hgd : o.guard = none) (x : Operand) (t e : TypeId)
    (ho : o.op = .call { callee := .builtin .clear, args := #[x], argTypes := #[t] }) (z : Value) (ht : P.underlying t = some (.slice e)) (hv : ∀ w, (zeroValue e).run P w = .ok z w) (hz : z.cells = #[z]) (h1 : z.oneCell' = true) (g of n c : Nat) (hn : 0 < n)
    (cur : Array Value) (tt : TypeId) (hx : a.eval x = .slice (some ⟨g, of, none⟩) n c) (hg : w.heap[g]? = some (.cells cur tt (0, 0))) (hfit : of + n ≤ cur.size)
    (h : wpList P ops Q rest (a.put o.dst (.tuple #[])) (w.setRow g (cur.toList.take of ++ List.replicate n z ++ cur.toList.drop (of + n)).toArray)) : wpList P ops Q (o :: rest) a w :=
  wpList_plain hgd fun _ hK => by
    have hr := run_clear_row (P := P) w t e o.type z ht hv hz h1 g of n c hn cur tt hg hfit
    unfold Oper.wp execOp
    simp only [ho, resolve, invoke, builtin, Sem.run_bind, Sem.run_pure, Result.andThen_ok, List.map_toArray, List.map_cons, List.map_nil, hx, hr]
    exact hK _ _ h
/-- what a round of DeleteFunc knows: i are kept of the first j -/
structure InvDel (base g cap n : Nat) (l : List Int) (p : Int → Bool) (i j : Nat) (w W : World) : Prop where
  mk ::
  blk : ∃ cur : Array Value, Blk W g cur 3 ∧ cur.size = cap ∧ cur.toList.take i = (((l.take j).filter fun x => !p x).map (Value.int .i64)) ∧ ∀ (t : Nat) (x : Int), j ≤ t → l[t]? = some x → cur[t]? = some (.int .i64 x)
  len : ((l.take j).filter fun x => !p x).length = i
  bel : Below base w W
section
variable {base g cap n : Nat} {l : List Int} {p : Int → Bool} {i j : Nat} {w W W' : World}
theorem InvDel.grow (H : InvDel base g cap n l p i j w W) (hb : Below W.heap.size W W') (hbase : base ≤ W.heap.size) : InvDel base g cap n l p i j w W' :=
  ⟨let ⟨cur, h1, h2, h3, h4⟩ := H.blk; ⟨cur, h1.grow hb, h2, h3, h4⟩, H.len, H.bel.trans (hb.mono hbase)⟩
theorem InvDel.gone (H : InvDel base g cap n l p i j w W) {x : Int} (hx : l[j]? = some x) (hp : p x = true) : InvDel base g cap n l p i (j + 1) w W := by
  have e : (l.take (j + 1)).filter (fun x => !p x) = (l.take j).filter fun x => !p x := by
    rw [List.take_add_one, hx]; simp [hp]
  obtain ⟨cur, h1, h2, h3, h4⟩ := H.blk
  exact ⟨⟨cur, h1, h2, by rw [e]; exact h3, fun t y ht => h4 t y (by omega)⟩, by rw [e]; exact H.len, H.bel⟩
theorem InvDel.kept (H : InvDel base g cap n l p i j w W) {x : Int} (hx : l[j]? = some x) (hp : p x = false) (hg : base ≤ g) (hcap : l.length ≤ cap) : InvDel base g cap n l p (i + 1) (j + 1) w (W.setCell ⟨g, i, none⟩ (.int .i64 x)) := by
  have e : (l.take (j + 1)).filter (fun x => !p x) = ((l.take j).filter fun x => !p x) ++ [x] := by
    rw [List.take_add_one, hx]; simp [hp]
  have hj : j < l.length := (List.getElem?_eq_some_iff.1 hx).1
  have hij : i ≤ j := by
    rw [← H.len]; exact Nat.le_trans (List.length_filter_le _ _) (by rw [List.length_take]; omega)
  obtain ⟨cur, h1, h2, h3, h4⟩ := H.blk
  have hi : i < cur.size := by omega
  refine ⟨⟨cur.setIfInBounds i (.int .i64 x), h1.set i _, by simpa using h2, ?_, fun t y ht hy => ?_⟩, by rw [e]; simp [H.len], H.bel.setCell hg _⟩
  · rw [e, List.map_append, ← h3, Array.toList_setIfInBounds, List.take_add_one, List.take_set_of_le (Nat.le_refl _)]
    simp [hi]
  · rw [Array.getElem?_setIfInBounds_ne (by omega)]
    exact h4 t y (by omega) hy
theorem InvDel.cells (H : InvDel base g cap n l p i j w W) {x : Int} (hx : l[j]? = some x) (hcap : l.length ≤ cap) : W.cell? ⟨g, j, none⟩ = some (.int .i64 x) ∧ W.frozen? ⟨g, i, none⟩ = false ∧ (∃ z, W.cell? ⟨g, i, none⟩ = some z) ∧ g < W.heap.size ∧ i ≤ j := by
  have hj : j < l.length := (List.getElem?_eq_some_iff.1 hx).1
  have hij : i ≤ j := by
    rw [← H.len]; exact Nat.le_trans (List.length_filter_le _ _) (by rw [List.length_take]; omega)
  obtain ⟨cur, h1, h2, h3, h4⟩ := H.blk
  exact ⟨(h1.cell j).trans (h4 j x (Nat.le_refl _) hx), h1.free i, ⟨cur[i]'(by omega), by rw [h1.cell]; simp [show i < cur.size by omega]⟩, h1.lt, hij⟩
end
end Go.Proofs.YtccnkebkgegohaaGreatDoor
end
