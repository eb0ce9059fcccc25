import Derived.Test.YtccnkebkgegohaaGreatDoorG07
import Derived.OwnWalk
import Derived.Maps.AppendAt
import Derived.Lib.SliceRun
/-
  Given contracts of functions of the program, and laws for them, one behind the other.
-/
set_option linter.unusedVariables false
set_option linter.unusedSimpArgs false
set_option linter.unusedSectionVars false
section
namespace Go.Proofs.YtccnkebkgegohaaGreatDoor
open Go.RowKit Go.Rel
set_option maxRecDepth 100000
/-- what a history comes to: the act that is refused and why, or the last stand -/
def begunM (blank : Sol) (l : List Sol) (acts : List Ac) : (Nat × Int) ⊕ Stn :=
 if chkPat blank l = 0 then (if acts.length ≤ 60 then runM l 0 (blank, 0) acts else .inl (0, 2)) else .inl (0, chkPat blank l)
theorem nextM_bad {l : List Sol} {s : Stn} {a : Ac} {e : Int} (h : nextM l s a = .inl e) : e ≠ 0 := by
 unfold nextM at h
 split at h
 ·split at h
  ·cases h
  ·rename_i hne; cases h; exact hne
 ·cases h; decide
theorem runM_bad {l : List Sol} : ∀ {acts : List Ac} {k : Nat} {s : Stn} {x : Nat × Int}, runM l k s acts = .inl x → x.2 ≠ 0
 | [], _, _, _, h => by cases h
 | a :: rest, k, s, x, h => by
  unfold runM at h
  split at h
  ·rename_i e he; cases h; exact nextM_bad he
  ·exact runM_bad h
theorem begunM_bad {blank : Sol} {l : List Sol} {acts : List Ac} {x : Nat × Int} (h : begunM blank l acts = .inl x) : (x.2 != 0) = true := by
 have : x.2 ≠ 0 := by
  unfold begunM at h
  split at h
  ·split at h
   ·exact runM_bad h
   ·cases h; decide
  ·rename_i hne; cases h; exact hne
 simpa using this
theorem begunM_good {blank : Sol} {l : List Sol} {acts : List Ac} {s : Stn} (h : begunM blank l acts = .inr s) : chkPat blank l = 0 ∧ acts.length ≤ 60 ∧ runM l 0 (blank, 0) acts = .inr s := by
 unfold begunM at h
 split at h
 ·rename_i h0
  split at h
  ·rename_i h1; exact ⟨h0, h1, h⟩
  ·cases h
 ·cases h
theorem chkPat_ok {blank : Sol} {l : List Sol} (h : chkPat blank l = 0) : l.length ≤ 8 := by
 unfold chkPat at h
 split at h
 ·cases h
 ·omega
theorem begun_spec (blank : Sol) (v av : Value) (l : List Sol) (acts : List Ac) (w : World) (Hv : SlS w v l) (Hav : SlA w av acts) :
  Calls Tryz.prog 89 #[.agg #[.int .u64 (pl blank 0), .int .u64 (pl blank 1), .int .u64 (pl blank 2), .int .u64 (pl blank 3), .int .u64 (pl blank 4), .int .u64 (pl blank 5), .int .u64 (pl blank 6), .int .u64 (pl blank 7), v, av]] w (BegunP w blank v av l acts (begunM blank l acts)) := by
 have H34 := fun w' (hb : Below w.heap.size w w') => CheckPattern_spec blank v l w' (Hv.mono hb)
 unfold begunM
 by_cases hz : chkPat blank l = 0
 ·rw [if_pos hz]
  by_cases hn : acts.length ≤ 60
  ·rw [if_pos hn]
   exact begun_main blank v av l acts w Hv Hav hz (chkPat_ok hz) hn _ rfl
  ·rw [if_neg hn]
   rw [hz] at H34
   obtain ⟨a, c, rfl, hcn, hcm, hcells⟩ := Hav
   rw [List.length_map]
   exact (begun_long blank v a acts.length c w (by omega) H34).mono fun e w' h => ⟨h.2, h.1⟩
 ·rw [if_neg hz]
  exact (begun_pat blank v av w _ (by simpa using hz) H34).mono fun e w' h => ⟨h.2, h.1⟩
theorem begun_bad {blank : Sol} {v av : Value} {l : List Sol} {acts : List Ac} {x : Nat × Int} (h : begunM blank l acts = .inl x) (w : World) (Hv : SlS w v l) (Hav : SlA w av acts) :
  Calls Tryz.prog 89 #[.agg #[.int .u64 (pl blank 0), .int .u64 (pl blank 1), .int .u64 (pl blank 2), .int .u64 (pl blank 3), .int .u64 (pl blank 4), .int .u64 (pl blank 5), .int .u64 (pl blank 6), .int .u64 (pl blank 7), v, av]] w fun e w' => e = .returned (.tuple #[.pointer none, .int .i64 x.1, .int .i64 x.2]) ∧ Below w.heap.size w w' := by
 have := begun_spec blank v av l acts w Hv Hav
 rw [h] at this
 exact this.mono fun e w' h => ⟨h.2, h.1⟩
theorem begun_good {blank : Sol} {v av : Value} {l : List Sol} {acts : List Ac} {s : Stn} (h : begunM blank l acts = .inr s) (w : World) (Hv : SlS w v l) (Hav : SlA w av acts) :
  Calls Tryz.prog 89 #[.agg #[.int .u64 (pl blank 0), .int .u64 (pl blank 1), .int .u64 (pl blank 2), .int .u64 (pl blank 3), .int .u64 (pl blank 4), .int .u64 (pl blank 5), .int .u64 (pl blank 6), .int .u64 (pl blank 7), v, av]] w fun e w' => ∃ bp, e = .returned (.tuple #[.pointer (some ⟨bp, 0, none⟩), .int .i64 0, .int .i64 0]) ∧ w.heap.size ≤ bp ∧ PastAt bp blank v av l acts s w' ∧ Below w.heap.size w w' := by
 have := begun_spec blank v av l acts w Hv Hav
 rw [h] at this
 exact this.mono fun e w' ⟨hb, bp, h1, h2, h3⟩ => ⟨bp, h2, h1, h3, hb⟩
/-- Check -/
def checkR (blank : Sol) (l : List Sol) (acts : List Ac) : Nat × Int := match begunM blank l acts with
 | .inl x => x
 | .inr _ => (0, 0)
set_option maxHeartbeats 1000000 in
theorem Check_spec (blank : Sol) (v av : Value) (l : List Sol) (acts : List Ac) (w : World) (Hv : SlS w v l) (Hav : SlA w av acts) :
  Calls Tryz.prog 27 #[.agg #[.int .u64 (pl blank 0), .int .u64 (pl blank 1), .int .u64 (pl blank 2), .int .u64 (pl blank 3), .int .u64 (pl blank 4), .int .u64 (pl blank 5), .int .u64 (pl blank 6), .int .u64 (pl blank 7), v, av]] w fun e w' => e = .returned (.tuple #[.int .i64 (checkR blank l acts).1, .int .i64 (checkR blank l acts).2]) ∧ Below w.heap.size w w' := by
 have key : ∀ w', Below w.heap.size w w' → Calls Tryz.prog 89 #[.agg #[.int .u64 (pl blank 0), .int .u64 (pl blank 1), .int .u64 (pl blank 2), .int .u64 (pl blank 3), .int .u64 (pl blank 4), .int .u64 (pl blank 5), .int .u64 (pl blank 6), .int .u64 (pl blank 7), v, av]] w' fun e w'' => ∃ p, e = .returned (.tuple #[.pointer p, .int .i64 (checkR blank l acts).1, .int .i64 (checkR blank l acts).2]) ∧ Below w'.heap.size w' w'' := by
  intro w' hb
  unfold checkR
  cases h : begunM blank l acts with
  | inl x => exact (begun_bad h w' (Hv.mono hb) (Hav.mono hb)).mono fun e w'' ⟨h1, h2⟩ => ⟨_, h1, h2⟩
  | inr s => exact (begun_good h w' (Hv.mono hb) (Hav.mono hb)).mono fun e w'' ⟨bp, h1, _, _, h2⟩ => ⟨_, h1, h2⟩
 generalize checkR blank l acts = x at key ⊢
 have H := Lib.hid key; clear key Hv Hav
 go_enter Tryz.func27, Tryz.ntmps27
 go_wp2_with fail
 refine (H.out _ bel_by).mono ?_
 rintro e w1 ⟨p, rfl, hb⟩
 go_wp2_with fail
 go_ret2
 exact ⟨rfl, bel_by⟩
set_option maxHeartbeats 1000000 in
theorem Stand_bad {blank : Sol} {v av : Value} {l : List Sol} {acts : List Ac} {x : Nat × Int} (h : begunM blank l acts = .inl x) (w : World) (Hv : SlS w v l) (Hav : SlA w av acts) :
  Calls Tryz.prog 22 #[.agg #[.int .u64 (pl blank 0), .int .u64 (pl blank 1), .int .u64 (pl blank 2), .int .u64 (pl blank 3), .int .u64 (pl blank 4), .int .u64 (pl blank 5), .int .u64 (pl blank 6), .int .u64 (pl blank 7), v, av]] w fun e w' => e = .returned (.tuple #[.agg #[.int .u64 0, .int .u64 0, .int .u64 0, .int .u64 0, .int .u64 0, .int .u64 0, .int .u64 0, .int .u64 0, .int .u8 0], .int .i64 x.2]) ∧ Below w.heap.size w w' := by
 have H := Lib.hid fun w' (hb : Below w.heap.size w w') => begun_bad h w' (Hv.mono hb) (Hav.mono hb)
 have hne := begunM_bad h
 clear h Hv Hav
 go_enter Tryz.func22, Tryz.ntmps22
 go_wp2_with fail
 refine (H.out _ bel_by).mono ?_
 rintro e w1 ⟨rfl, hb⟩
 have b1 : Blk w1 (w.heap.size + 1) #[.int .u64 0, .int .u64 0, .int .u64 0, .int .u64 0, .int .u64 0, .int .u64 0, .int .u64 0, .int .u64 0, .int .u8 0] 37 := Blk.grow blk_by hb
 have r1 := b1.row
 rw [← b1.rw]
 clear b1
 go_wp2_with fail
 refine bodyPost_ret (by simp [results, Tryz.results22, go_sem, *]) rfl ⟨rfl, bel_by⟩
set_option maxHeartbeats 1000000 in
theorem Stand_good {blank : Sol} {v av : Value} {l : List Sol} {acts : List Ac} {s : Stn} (h : begunM blank l acts = .inr s) (w : World) (Hv : SlS w v l) (Hav : SlA w av acts) :
  Calls Tryz.prog 22 #[.agg #[.int .u64 (pl blank 0), .int .u64 (pl blank 1), .int .u64 (pl blank 2), .int .u64 (pl blank 3), .int .u64 (pl blank 4), .int .u64 (pl blank 5), .int .u64 (pl blank 6), .int .u64 (pl blank 7), v, av]] w fun e w' => e = .returned (.tuple #[.agg #[.int .u64 (pl s.1 0), .int .u64 (pl s.1 1), .int .u64 (pl s.1 2), .int .u64 (pl s.1 3), .int .u64 (pl s.1 4), .int .u64 (pl s.1 5), .int .u64 (pl s.1 6), .int .u64 (pl s.1 7), .int .u8 s.2], .int .i64 0]) ∧ Below w.heap.size w w' := by
 have H := Lib.hid fun w' (hb : Below w.heap.size w w') => begun_good h w' (Hv.mono hb) (Hav.mono hb)
 clear h Hv Hav
 go_enter Tryz.func22, Tryz.ntmps22
 go_wp2_with fail
 refine (H.out _ bel_by).mono ?_
 rintro e w1 ⟨bp, rfl, hbp, hP, hb⟩
 refine Veil.out ?_
 obtain ⟨dv, hpast, _⟩ := hP.past
 refine Veil.on ?_
 have b1 : Blk w1 (w.heap.size + 1) #[.int .u64 0, .int .u64 0, .int .u64 0, .int .u64 0, .int .u64 0, .int .u64 0, .int .u64 0, .int .u64 0, .int .u8 0] 37 := Blk.grow blk_by hb
 have hne : bp ≠ w.heap.size + 1 := by simp only [World.size_alloc] at hbp; omega
 have c0 := hpast.cell
 have r1 := b1.row
 rw [← b1.rw]
 clear b1 hP hpast
 go_wp2_with fail
 refine bodyPost_ret (by simp [results, Tryz.results22, go_sem, *]) rfl ⟨rfl, bel_by⟩
end Go.Proofs.YtccnkebkgegohaaGreatDoor
end
section
namespace Go.Proofs.YtccnkebkgegohaaGreatDoor
open Go.RowKit Go.Rel
set_option maxRecDepth 100000
/-! ### LISTS OF NUMBERS -/
abbrev intL (i : Int) : List Value := [.int .i64 i]
abbrev SlI (w : World) (v : Value) (l : List Int) : Prop := Sl w 1 v (l.map intL)
theorem int_cell {w : World} {b off : Nat} {l : List Int} (h : Cells w b off 1 (l.map intL)) {k : Nat} {x : Int} (hx : l[k]? = some x) : w.cell? ⟨b, off + k, none⟩ = some (.int .i64 x) := by
 have := h.2 k 0 (.int .i64 x) (by simp [hx])
 simpa using this
set_option maxHeartbeats 1000000 in
theorem IndexInt_spec (v : Value) (l : List Int) (s : Int) (w : World) (h : SlI w v l) :
  Calls Tryz.prog 128 #[v, .int .i64 s] w fun e w' => e = .returned (.int .i64 (idx (fun x => s == x) l)) ∧ w' = w := by
 rcases h.cases with ⟨hl, a, c, rfl, hm⟩ | ⟨b, off, c, rfl, hc, hm, hpos, hcs⟩
 ·have hl' : l = [] := by simpa using hl
  subst hl'
  clear hl
  go_enter Tryz.func128, Tryz.ntmps128
  go_wp2
  refine wp_loop_rounds 1 ?_
  rw [rounds_succ]
  go_wp2
  go_ret
  exact ⟨rfl, rfl⟩
 ·rw [List.length_map] at hc hpos ⊢
  have hb := hcs.1
  have H := Lib.hid hcs; clear hcs h
  generalize hn : l.length = n at hc hpos ⊢
  have HN := Lib.hid hn; clear hn
  go_enter Tryz.func128, Tryz.ntmps128
  go_wp2
  go_loopw [8] (fun i wr => ∃ k : Nat, k ≤ n ∧ i = .int .i64 k ∧ Hid (∀ (j : Nat) (y : Int), j < k → l[j]? = some y → (s == y) = false) ∧ wr = w) (fun i _ => n - (intOf i).toNat)
  case atStart => exact ⟨0, Nat.zero_le _, rfl, fun j y hj => by omega, rfl⟩
  case round =>
   obtain ⟨k, hk, rfl, HP, rfl⟩ := hrel
   by_cases hlt : k < n
   ·obtain ⟨x, hx⟩ : ∃ x, l[k]? = some x := ⟨l[k]'(by rw [HN.out]; exact hlt), by simp [HN.out, hlt]⟩
    have c0 := int_cell H.out hx
    have HX := Lib.hid hx; clear hx
    go_wp2
    ·have he : (s == x) = true := by assumption
     go_ret
     exact ⟨ret_int (idx_found HX.out he HP.out).symm, rfl⟩
    ·have he : (s == x) = false := by assumption
     go_roundw
     case rel => exact ⟨k + 1, by omega, by go_num, fun j y hj hy => by
      rcases Nat.lt_or_eq_of_le (Nat.le_of_lt_succ hj) with h | h
      ·exact HP.out j y h hy
      ·subst h; rw [HX.out] at hy; cases hy; exact he, trivial⟩
     case measure => simp [intOf]; omega
   ·go_wp2
    go_ret
    exact ⟨ret_int (idx_none (fun j y hy => HP.out j y (by have := (List.getElem?_eq_some_iff.1 hy).1; rw [HN.out] at this; omega) hy)).symm, rfl⟩
set_option maxHeartbeats 1000000 in
theorem ContainsInt_spec (v : Value) (l : List Int) (s : Int) (w : World) (h : SlI w v l) :
  Calls Tryz.prog 68 #[v, .int .i64 s] w fun e w' => e = .returned (.bool (l.contains s)) ∧ w' = w := by
 have hge := idx_ge (fun x => s == x) l
 have hany : Hid (l.contains s = decide (0 ≤ idx (fun x => s == x) l)) := by
  show _ = _
  rw [Bool.eq_iff_iff, decide_eq_true_eq, idx_nonneg]
  simp
 have hidx := Lib.hid (IndexInt_spec v l s w h)
 generalize idx (fun x => s == x) l = i at hge hany hidx
 go_enter Tryz.func68, Tryz.ntmps68
 go_wp2_with fail
 refine hidx.out.mono ?_
 rintro e w1 ⟨rfl, rfl⟩
 go_wp2_with fail
 go_ret
 refine ⟨?_, rfl⟩
 rw [hany.out]; rfl
end Go.Proofs.YtccnkebkgegohaaGreatDoor
end
section
namespace Go.Proofs.YtccnkebkgegohaaGreatDoor
open Go.RowKit Go.Rel
set_option maxRecDepth 100000
theorem info3 : (Tryz.prog.info? 3).map (fun i => (i.zero, i.size, i.bytes)) = some (some (.int .i64 0), 1, 8) := by kernel_rfl
theorem info46 : (Tryz.prog.info? 46).map (fun i => (i.zero, i.size, i.bytes)) = some (some (.agg #[.int .u8 0, .int .i64 0, .int .u64 0, .int .u64 0, .int .u64 0, .int .u64 0, .int .u64 0, .int .u64 0, .int .u64 0, .int .u64 0]), 10, 80) := by kernel_rfl
theorem info24 : (Tryz.prog.info? 24).map (fun i => (i.zero, i.size, i.bytes)) = some (some (.agg #[.int .u64 0, .int .u64 0, .int .u64 0, .int .u64 0, .int .u64 0, .int .u64 0, .int .u64 0, .int .u64 0]), 8, 64) := by kernel_rfl
/-- a list of numbers in memory of one's own -/
abbrev OwnI (W : World) (base : Nat) (v : Value) (l : List Int) : Prop := W.ownsRow base 3 1 v l.length (l.map (Value.int .i64))
theorem own_shape' {w : World} {base : Nat} {e : TypeId} {size : Nat} {v : Value} {n : Nat} {xs : List Value} (h : w.ownsRow base e size v n xs) : ∃ p c, v = .slice p n c ∧ n ≤ c ∧ c ≤ 9223372036854775807 := by
 rcases h.2 with ⟨rfl, rfl⟩ | ⟨g, cap, cur, rfl, _, _, h1, h2, _⟩
 ·exact ⟨_, _, rfl, Nat.le_refl _, by omega⟩
 ·exact ⟨_, _, rfl, h1, by unfold maxLen at h2; omega⟩
theorem own_weak {w : World} {base base' : Nat} {e : TypeId} {size : Nat} {v : Value} {n : Nat} {xs : List Value} (h : w.ownsRow base e size v n xs) (hb : base' ≤ base) : w.ownsRow base' e size v n xs := by
 refine ⟨h.1, ?_⟩
 rcases h.2 with h | ⟨g, cap, cur, e, hbg, rest⟩
 ·exact .inl h
 ·exact .inr ⟨g, cap, cur, e, Nat.le_trans hb hbg, rest⟩
/-- what one owns reads as a list -/
theorem own_sl {w : World} {base : Nat} {e : TypeId} {size : Nat} {v : Value} {xs : List Value} {ls : List (List Value)} (hs : ∀ r ∈ ls, r.length = size) (hx : ls.flatten = xs) (h : w.ownsRow base e size v ls.length xs) : Sl w size v ls := by
 rcases h.2 with ⟨rfl, h0⟩ | ⟨g, cap, cur, rfl, hb, hg, hnc, hcm, hcs, htake⟩
 ·have : ls = [] := List.eq_nil_of_length_eq_zero h0
  subst this
  exact ⟨none, 0, rfl, Nat.le_refl _, by omega, .inl rfl⟩
 ·refine ⟨some ⟨g, 0, none⟩, cap, rfl, hnc, by unfold maxLen at hcm; omega, .inr ⟨g, 0, rfl, (Array.getElem?_eq_some_iff.1 hg).1, fun i j u hu => ?_⟩⟩
  rw [Nat.zero_add, cell_of_row w g _ cur e (0, 0) hg]
  have key : ∀ (ls : List (List Value)) (i j : Nat) (u : Value), (∀ r ∈ ls, r.length = size) → (ls[i]?).bind (·[j]?) = some u → (ls.flatten)[i * size + j]? = some u := by
   intro ls
   induction ls with
   | nil => intro i j u _ h; simp at h
   | cons r rest ih =>
    intro i j u hr h
    have hrl : r.length = size := hr r (by simp)
    cases i with
    | zero =>
     have h' : r[j]? = some u := by simpa using h
     have hj : j < r.length := (List.getElem?_eq_some_iff.1 h').1
     simp only [List.flatten_cons, Nat.zero_mul, Nat.zero_add]
     rw [List.getElem?_append_left hj]; exact h'
    | succ i =>
     have h' : (rest[i]?).bind (·[j]?) = some u := by simpa using h
     have := ih i j u (fun r' h' => hr r' (by simp [h'])) h'
     simp only [List.flatten_cons]
     rw [List.getElem?_append_right (by rw [hrl, Nat.add_mul]; omega), hrl, show (i + 1) * size + j - size = i * size + j by rw [Nat.add_mul]; omega]
     exact this
  have h1 := key ls i j u hs hu
  rw [hx, ← htake, List.getElem?_take] at h1
  split at h1
  ·rw [← Array.getElem?_toList]; exact h1
  ·cases h1
theorem flat_int (l : List Int) : (l.map intL).flatten = l.map (Value.int .i64) := by
 induction l with
 | nil => rfl
 | cons a l ih => simp [ih]
theorem OwnI.sl {W : World} {base : Nat} {v : Value} {l : List Int} (h : OwnI W base v l) : SlI W v l :=
 own_sl (fun r hr => by obtain ⟨i, _, rfl⟩ := List.mem_map.1 hr; rfl) (flat_int l) (by rw [List.length_map]; exact h)
/-- the numbers below n -/
def upto (n : Nat) : List Int := (List.range n).map (fun i : Nat => (i : Int))
theorem upto_length (n : Nat) : (upto n).length = n := by simp [upto]
theorem upto_succ (n : Nat) : upto (n + 1) = upto n ++ [(n : Int)] := by simp [upto, List.range_succ]
set_option maxHeartbeats 2000000 in
theorem indices_spec {bp : Nat} {blank : Sol} {v av : Value} {l : List Sol} {acts : List Ac} {s : Stn} (w : World) (HP : PastAt bp blank v av l acts s w) (hn : acts.length ≤ 60) :
  Calls Tryz.prog 90 #[.pointer (some ⟨bp, 0, none⟩)] w fun e w' => ∃ u, e = .returned u ∧ OwnI w' w.heap.size u (upto acts.length) ∧ Below w.heap.size w w' := by
 obtain ⟨dv, hpast, hown⟩ := HP.past
 obtain ⟨dp, dc, rfl, hdc, hdm⟩ := own_shape' hown
 have c0 := hpast.cell
 have lp := hpast.lt
 obtain ⟨i0, hi, hz0, hz1, hz2⟩ := info_parts info3
 have HI0 := Lib.hid (And.intro hi (And.intro hz0 (And.intro hz1 hz2))); clear hi hz0 hz1 hz2
 clear hown hpast HP
 generalize acts.length = n at *
 go_enter Tryz.func90, Tryz.ntmps90
 go_wp2_with fail
 go_loopw [3, 10] (fun u i wr => ∃ k : Nat, k ≤ n ∧ i = .int .i64 k ∧ Hid (OwnI wr w.heap.size u (upto k)) ∧ Below w.heap.size w wr) (fun _ i _ => n - (intOf i).toNat)
 case atStart => exact ⟨0, Nat.zero_le _, rfl, Lib.hid (show OwnI w w.heap.size (.slice none 0 0) (upto 0) from World.ownsRow_nil _ _ _ _), Below.refl _ _⟩
 case round =>
  obtain ⟨k, hk, rfl, hO, hbel⟩ := hrel
  have hsz := hbel.size
  by_cases hlt : k < n
  ·have hx := hO.out
   unfold OwnI at hx
   rw [upto_length] at hx
   have HX := Lib.hid hx; clear hx
   go_wp2_with (first
    | (at_builtin; refine wpList_append_own _ rfl _ _ 104 rfl w.heap.size 3 i0 (.int .i64 0) 1 8 Tryz.underlying104 HI0.out.1 HI0.out.2.1 HI0.out.2.2.1 HI0.out.2.2.2 rfl (by decide) _ _ _ rfl (HX.out.alloc _) ⟨wr.heap.size, 0, none⟩ 1 1 [.int .i64 k] rfl rfl (cell_one_new _ _ _) (fun x hx => by simp at hx; subst hx; rfl) (by unfold maxLen; omega) (by omega) (by simp; omega) ?_; intro v' w3 hown' hgrow3 hnil3))
   go_roundw
   case rel => exact ⟨k + 1, by omega, by go_num, by show OwnI _ _ _ _; unfold OwnI; rw [upto_length, upto_succ, List.map_append]; exact hown', (bel_alloc hbel _).grown hgrow3 (by simp; omega) (fun j hj => (HX.out.lt j hj).1)⟩
   case measure => simp [intOf]; omega
  ·have hkn : k = n := by omega
   subst hkn
   go_wp2_with fail
   go_ret
   exact ⟨_, rfl, hO.out, hbel⟩
end Go.Proofs.YtccnkebkgegohaaGreatDoor
end
section
namespace Go.Proofs.YtccnkebkgegohaaGreatDoor
open Go.RowKit Go.Rel
set_option maxRecDepth 100000
theorem flat_get {size : Nat} : ∀ (ls : List (List Value)) (m : Nat) (u : Value), (∀ r ∈ ls, r.length = size) → (ls.flatten)[m]? = some u → ∃ i j, m = i * size + j ∧ (ls[i]?).bind (·[j]?) = some u
 | [], m, u, _, h => by simp at h
 | r :: rest, m, u, hr, h => by
  have hrl : r.length = size := hr r (by simp)
  simp only [List.flatten_cons] at h
  by_cases hm : m < r.length
  ·rw [List.getElem?_append_left hm] at h
   exact ⟨0, m, by omega, by simpa using h⟩
  ·rw [List.getElem?_append_right (by omega)] at h
   obtain ⟨i, j, e, h'⟩ := flat_get rest _ u (fun r' h' => hr r' (by simp [h'])) h
   exact ⟨i + 1, j, by rw [Nat.add_mul]; omega, by simpa using h'⟩
theorem Cells.flat {w : World} {b off size : Nat} {ls : List (List Value)} (h : Cells w b off size ls) (hs : ∀ r ∈ ls, r.length = size) : ∀ m u, (ls.flatten)[m]? = some u → w.cell? ((⟨b, off, none⟩ : Addr).add m) = some u := by
 intro m u hu
 obtain ⟨i, j, rfl, h'⟩ := flat_get ls m u hs hu
 have hadd : (⟨b, off, none⟩ : Addr).add (i * size + j) = ⟨b, off + i * size + j, none⟩ := by rw [Addr.add_lit, Nat.add_assoc]
 rw [hadd]
 exact h.2 i j u h'
theorem flat_len {size : Nat} : ∀ (ls : List (List Value)), (∀ r ∈ ls, r.length = size) → ls.flatten.length = ls.length * size
 | [], _ => by simp
 | r :: rest, h => by
  simp only [List.flatten_cons, List.length_append, List.length_cons]
  rw [flat_len rest (fun r' h' => h r' (by simp [h'])), h r (by simp), Nat.add_mul]; omega
set_option maxHeartbeats 2000000 in
theorem cloneRow (v : Value) (ls : List (List Value)) (w : World) (h : Sl w 1 v ls) (hs : ∀ r ∈ ls, r.length = 1) (hone : ∀ u ∈ ls.flatten, u.oneCell' = true) (hm : ls.length ≤ 1048576) :
  Calls Tryz.prog 148 #[v] w fun e w' => ∃ u, e = .returned u ∧ w'.ownsRow w.heap.size 3 1 u ls.length ls.flatten ∧ Below w.heap.size w w' := by
 obtain ⟨a, c, rfl, hc, hcm, hcells⟩ := h
 have hlen := flat_len ls hs
 obtain ⟨i0, hi, hz0, hz1, hz2⟩ := info_parts info3
 have HI0 := Lib.hid (And.intro hi (And.intro hz0 (And.intro hz1 hz2))); clear hi hz0 hz1 hz2
 have heq := fun w => Lib.run_eql_slice_nil (P := Tryz.prog) w 104 3 a ls.length c 0 0 Tryz.underlying104
 cases a with
 | none =>
  have hl : ls = [] := by
   rcases hcells with h | ⟨b, off, h, _⟩
   ·exact h
   ·cases h
  subst hl
  clear hcells
  simp only [List.length_nil] at heq ⊢
  go_enter Tryz.func148, Tryz.ntmps148
  go_wp2_with fail
  go_ret
  exact ⟨_, rfl, World.ownsRow_nil _ _ _ _, Below.refl _ _⟩
 | some ad =>
  have hn : ∀ j u, (ls.flatten)[j]? = some u → (w.alloc (.cells #[] 3)).cell? (ad.add j) = some u := by
   rcases hcells with h | ⟨b, off, h, hcs⟩
   ·subst h; intro j u hu; simp at hu
   ·cases h
    exact (hcs.mono (bel_alloc (bel_refl w) _) hcs.1).flat hs
  have HN := Lib.hid hn; clear hn hcells
  have HL := Lib.hid hlen; clear hlen
  have HO := Lib.hid hone; clear hone hs
  generalize ls.flatten = fl at *
  generalize ls.length = n at *
  go_enter Tryz.func148, Tryz.ntmps148
  go_wp2_with (first
   | (at_builtin; refine wpList_append_own _ rfl _ _ 104 rfl w.heap.size 3 i0 (.int .i64 0) 1 8 Tryz.underlying104 HI0.out.1 HI0.out.2.1 HI0.out.2.2.1 HI0.out.2.2.2 rfl (by decide) _ 0 [] rfl (World.ownsRow_made w #[] 0 (Nat.le_refl _) (by unfold maxLen; omega) (by simp)) ad n c fl rfl HL.out HN.out HO.out (by unfold maxLen; omega) (by omega) (by simp) ?_; intro v' w3 hown' hgrow3 hnil3))
  have hO : w3.ownsRow w.heap.size 3 1 v' n fl := by simpa using hown'
  have hB : Below w.heap.size w w3 := (bel_alloc (bel_refl w) _).grown hgrow3 (by simp) (fun j hj => by cases hj; exact Nat.le_refl _)
  have HH := Lib.hid (And.intro hO hB); clear hO hB hown' hgrow3 hnil3
  go_wp2_with fail
  go_ret
  exact ⟨_, rfl, HH.out.1, HH.out.2⟩
set_option maxHeartbeats 2000000 in
theorem cloneAc (v : Value) (ls : List (List Value)) (w : World) (h : Sl w 10 v ls) (hs : ∀ r ∈ ls, r.length = 10) (hone : ∀ u ∈ ls.flatten, u.oneCell' = true) (hm : ls.length ≤ 1048576) :
  Calls Tryz.prog 75 #[v] w fun e w' => ∃ u, e = .returned u ∧ w'.ownsRow w.heap.size 46 10 u ls.length ls.flatten ∧ Below w.heap.size w w' := by
 obtain ⟨a, c, rfl, hc, hcm, hcells⟩ := h
 have hlen := flat_len ls hs
 obtain ⟨i0, hi, hz0, hz1, hz2⟩ := info_parts info46
 have HI0 := Lib.hid (And.intro hi (And.intro hz0 (And.intro hz1 hz2))); clear hi hz0 hz1 hz2
 have heq := fun w => Lib.run_eql_slice_nil (P := Tryz.prog) w 28 46 a ls.length c 0 0 Tryz.underlying28
 cases a with
 | none =>
  have hl : ls = [] := by
   rcases hcells with h | ⟨b, off, h, _⟩
   ·exact h
   ·cases h
  subst hl
  clear hcells
  simp only [List.length_nil] at heq ⊢
  go_enter Tryz.func75, Tryz.ntmps75
  go_wp2_with fail
  go_ret
  exact ⟨_, rfl, World.ownsRow_nil _ _ _ _, Below.refl _ _⟩
 | some ad =>
  have hn : ∀ j u, (ls.flatten)[j]? = some u → (w.alloc (.cells #[] 46)).cell? (ad.add j) = some u := by
   rcases hcells with h | ⟨b, off, h, hcs⟩
   ·subst h; intro j u hu; simp at hu
   ·cases h
    exact (hcs.mono (bel_alloc (bel_refl w) _) hcs.1).flat hs
  have HN := Lib.hid hn; clear hn hcells
  have HL := Lib.hid hlen; clear hlen
  have HO := Lib.hid hone; clear hone hs
  generalize ls.flatten = fl at *
  generalize ls.length = n at *
  go_enter Tryz.func75, Tryz.ntmps75
  go_wp2_with (first
   | (at_builtin; refine wpList_append_own _ rfl _ _ 28 rfl w.heap.size 46 i0 (.agg #[.int .u8 0, .int .i64 0, .int .u64 0, .int .u64 0, .int .u64 0, .int .u64 0, .int .u64 0, .int .u64 0, .int .u64 0, .int .u64 0]) 10 80 Tryz.underlying28 HI0.out.1 HI0.out.2.1 HI0.out.2.2.1 HI0.out.2.2.2 rfl (by decide) _ 0 [] rfl (World.ownsRow_made w #[] 0 (Nat.le_refl _) (by unfold maxLen; omega) (by simp)) ad n c fl rfl HL.out HN.out HO.out (by unfold maxLen; omega) (by omega) (by simp) ?_; intro v' w3 hown' hgrow3 hnil3))
  have hO : w3.ownsRow w.heap.size 46 10 v' n fl := by simpa using hown'
  have hB : Below w.heap.size w w3 := (bel_alloc (bel_refl w) _).grown hgrow3 (by simp) (fun j hj => by cases hj; exact Nat.le_refl _)
  have HH := Lib.hid (And.intro hO hB); clear hO hB hown' hgrow3 hnil3
  go_wp2_with fail
  go_ret
  exact ⟨_, rfl, HH.out.1, HH.out.2⟩
set_option maxHeartbeats 2000000 in
theorem cloneSol (v : Value) (ls : List (List Value)) (w : World) (h : Sl w 8 v ls) (hs : ∀ r ∈ ls, r.length = 8) (hone : ∀ u ∈ ls.flatten, u.oneCell' = true) (hm : ls.length ≤ 1048576) :
  Calls Tryz.prog 74 #[v] w fun e w' => ∃ u, e = .returned u ∧ w'.ownsRow w.heap.size 24 8 u ls.length ls.flatten ∧ Below w.heap.size w w' := by
 obtain ⟨a, c, rfl, hc, hcm, hcells⟩ := h
 have hlen := flat_len ls hs
 obtain ⟨i0, hi, hz0, hz1, hz2⟩ := info_parts info24
 have HI0 := Lib.hid (And.intro hi (And.intro hz0 (And.intro hz1 hz2))); clear hi hz0 hz1 hz2
 have heq := fun w => Lib.run_eql_slice_nil (P := Tryz.prog) w 25 24 a ls.length c 0 0 Tryz.underlying25
 cases a with
 | none =>
  have hl : ls = [] := by
   rcases hcells with h | ⟨b, off, h, _⟩
   ·exact h
   ·cases h
  subst hl
  clear hcells
  simp only [List.length_nil] at heq ⊢
  go_enter Tryz.func74, Tryz.ntmps74
  go_wp2_with fail
  go_ret
  exact ⟨_, rfl, World.ownsRow_nil _ _ _ _, Below.refl _ _⟩
 | some ad =>
  have hn : ∀ j u, (ls.flatten)[j]? = some u → (w.alloc (.cells #[] 24)).cell? (ad.add j) = some u := by
   rcases hcells with h | ⟨b, off, h, hcs⟩
   ·subst h; intro j u hu; simp at hu
   ·cases h
    exact (hcs.mono (bel_alloc (bel_refl w) _) hcs.1).flat hs
  have HN := Lib.hid hn; clear hn hcells
  have HL := Lib.hid hlen; clear hlen
  have HO := Lib.hid hone; clear hone hs
  generalize ls.flatten = fl at *
  generalize ls.length = n at *
  go_enter Tryz.func74, Tryz.ntmps74
  go_wp2_with (first
   | (at_builtin; refine wpList_append_own _ rfl _ _ 25 rfl w.heap.size 24 i0 (.agg #[.int .u64 0, .int .u64 0, .int .u64 0, .int .u64 0, .int .u64 0, .int .u64 0, .int .u64 0, .int .u64 0]) 8 64 Tryz.underlying25 HI0.out.1 HI0.out.2.1 HI0.out.2.2.1 HI0.out.2.2.2 rfl (by decide) _ 0 [] rfl (World.ownsRow_made w #[] 0 (Nat.le_refl _) (by unfold maxLen; omega) (by simp)) ad n c fl rfl HL.out HN.out HO.out (by unfold maxLen; omega) (by omega) (by simp) ?_; intro v' w3 hown' hgrow3 hnil3))
  have hO : w3.ownsRow w.heap.size 24 8 v' n fl := by simpa using hown'
  have hB : Below w.heap.size w w3 := (bel_alloc (bel_refl w) _).grown hgrow3 (by simp) (fun j hj => by cases hj; exact Nat.le_refl _)
  have HH := Lib.hid (And.intro hO hB); clear hO hB hown' hgrow3 hnil3
  go_wp2_with fail
  go_ret
  exact ⟨_, rfl, HH.out.1, HH.out.2⟩
end Go.Proofs.YtccnkebkgegohaaGreatDoor
end
section
namespace Go.Proofs.YtccnkebkgegohaaGreatDoor
open Go.RowKit Go.Rel
set_option maxRecDepth 100000
/-- solids, acts in memory of one's own -/
abbrev OwnS (W : World) (base : Nat) (v : Value) (l : List Sol) : Prop := W.ownsRow base 24 8 v l.length ((l.map solL).flatten)
abbrev OwnA (W : World) (base : Nat) (v : Value) (l : List Ac) : Prop := W.ownsRow base 46 10 v l.length ((l.map acL).flatten)
theorem OwnS.sl {W : World} {base : Nat} {v : Value} {l : List Sol} (h : OwnS W base v l) : SlS W v l :=
 own_sl (fun r hr => by obtain ⟨i, _, rfl⟩ := List.mem_map.1 hr; rfl) rfl (by rw [List.length_map]; exact h)
theorem OwnA.sl {W : World} {base : Nat} {v : Value} {l : List Ac} (h : OwnA W base v l) : SlA W v l :=
 own_sl (fun r hr => by obtain ⟨i, _, rfl⟩ := List.mem_map.1 hr; rfl) rfl (by rw [List.length_map]; exact h)
theorem one_sol {l : List Sol} : ∀ u ∈ (l.map solL).flatten, u.oneCell' = true := by
 intro u hu
 obtain ⟨r, hr, hu⟩ := List.mem_flatten.1 hu
 obtain ⟨x, _, rfl⟩ := List.mem_map.1 hr
 simp at hu
 rcases hu with rfl | rfl | rfl | rfl | rfl | rfl | rfl | rfl <;> rfl
theorem one_ac {l : List Ac} : ∀ u ∈ (l.map acL).flatten, u.oneCell' = true := by
 intro u hu
 obtain ⟨r, hr, hu⟩ := List.mem_flatten.1 hu
 obtain ⟨x, _, rfl⟩ := List.mem_map.1 hr
 simp at hu
 rcases hu with rfl | rfl | rfl | rfl | rfl | rfl | rfl | rfl | rfl | rfl <;> rfl
theorem CloneSol_spec (v : Value) (l : List Sol) (w : World) (h : SlS w v l) (hm : l.length ≤ 1048576) :
  Calls Tryz.prog 74 #[v] w fun e w' => ∃ u, e = .returned u ∧ OwnS w' w.heap.size u l ∧ Below w.heap.size w w' := by
 have := cloneSol v (l.map solL) w h (fun r hr => by obtain ⟨i, _, rfl⟩ := List.mem_map.1 hr; rfl) one_sol (by simpa using hm)
 rwa [List.length_map] at this
theorem CloneAc_spec (v : Value) (l : List Ac) (w : World) (h : SlA w v l) (hm : l.length ≤ 1048576) :
  Calls Tryz.prog 75 #[v] w fun e w' => ∃ u, e = .returned u ∧ OwnA w' w.heap.size u l ∧ Below w.heap.size w w' := by
 have := cloneAc v (l.map acL) w h (fun r hr => by obtain ⟨i, _, rfl⟩ := List.mem_map.1 hr; rfl) one_ac (by simpa using hm)
 rwa [List.length_map] at this
theorem CloneInt_spec (v : Value) (l : List Int) (w : World) (h : SlI w v l) (hm : l.length ≤ 1048576) :
  Calls Tryz.prog 148 #[v] w fun e w' => ∃ u, e = .returned u ∧ OwnI w' w.heap.size u l ∧ Below w.heap.size w w' := by
 have := cloneRow v (l.map intL) w h (fun r hr => by obtain ⟨i, _, rfl⟩ := List.mem_map.1 hr; rfl) (by rw [flat_int]; intro u hu; obtain ⟨x, _, rfl⟩ := List.mem_map.1 hu; rfl) (by simpa using hm)
 rw [List.length_map, flat_int] at this
 exact this
@[irreducible] def VSol (base : Nat) (l : List Sol) (v : Value) (W : World) : Prop := OwnS W base v l
@[irreducible] def VAc (base : Nat) (l : List Ac) (v : Value) (W : World) : Prop := OwnA W base v l
@[irreducible] def VPat (base : Nat) (blank : Sol) (l : List Sol) (v : Value) (W : World) : Prop := ∃ pv, v = .agg #[.int .u64 (pl blank 0), .int .u64 (pl blank 1), .int .u64 (pl blank 2), .int .u64 (pl blank 3), .int .u64 (pl blank 4), .int .u64 (pl blank 5), .int .u64 (pl blank 6), .int .u64 (pl blank 7), pv] ∧ OwnS W base pv l
@[irreducible] def VHist (base : Nat) (blank : Sol) (l : List Sol) (la : List Ac) (v : Value) (W : World) : Prop := ∃ pv av, v = .agg #[.int .u64 (pl blank 0), .int .u64 (pl blank 1), .int .u64 (pl blank 2), .int .u64 (pl blank 3), .int .u64 (pl blank 4), .int .u64 (pl blank 5), .int .u64 (pl blank 6), .int .u64 (pl blank 7), pv, av] ∧ OwnS W base pv l ∧ OwnA W base av la
theorem VSol.stable {base : Nat} {l : List Sol} (v : Value) (W W' : World) (h : VSol base l v W) (g : Grows W W') : VSol base l v W' := by unfold VSol at *; exact own_grow h g
theorem VAc.stable {base : Nat} {l : List Ac} (v : Value) (W W' : World) (h : VAc base l v W) (g : Grows W W') : VAc base l v W' := by unfold VAc at *; exact own_grow h g
theorem VPat.stable {base : Nat} {blank : Sol} {l : List Sol} (v : Value) (W W' : World) (h : VPat base blank l v W) (g : Grows W W') : VPat base blank l v W' := by
 unfold VPat at *; obtain ⟨pv, h1, h2⟩ := h; exact ⟨pv, h1, own_grow h2 g⟩
theorem VHist.stable {base : Nat} {blank : Sol} {l : List Sol} {la : List Ac} (v : Value) (W W' : World) (h : VHist base blank l la v W) (g : Grows W W') : VHist base blank l la v W' := by
 unfold VHist at *; obtain ⟨pv, av, h1, h2, h3⟩ := h; exact ⟨pv, av, h1, own_grow h2 g, own_grow h3 g⟩
set_option maxHeartbeats 4000000 in
theorem with_spec {bp : Nat} {blank : Sol} {v av : Value} {l : List Sol} {acts : List Ac} {s : Stn} (w : World) (HP : PastAt bp blank v av l acts s w) (Hv : SlS w v l) (h8 : l.length ≤ 8) (u : Value) (la : List Ac) (Hu : SlA w u la) (hm : la.length ≤ 1048576) :
  Calls Tryz.prog 92 #[.pointer (some ⟨bp, 0, none⟩), u] w fun e w' => ∃ pv bv, e = .returned (.agg #[.int .u64 (pl blank 0), .int .u64 (pl blank 1), .int .u64 (pl blank 2), .int .u64 (pl blank 3), .int .u64 (pl blank 4), .int .u64 (pl blank 5), .int .u64 (pl blank 6), .int .u64 (pl blank 7), pv, bv]) ∧ OwnS w' w.heap.size pv l ∧ OwnA w' w.heap.size bv la ∧ Below w.heap.size w w' := by
 have H1 := Lib.hid fun w' (hb : Below w.heap.size w w') => CloneSol_spec v l w' (Hv.mono hb) (by omega)
 have H2 := Lib.hid fun w' (hb : Below w.heap.size w w') => CloneAc_spec u la w' (Hu.mono hb) hm
 obtain ⟨dv, hpast, hown⟩ := HP.past
 have c0 := hpast.cell
 have lp := hpast.lt
 clear HP Hv Hu hown hpast
 go_enter Tryz.func92, Tryz.ntmps92
 go_wp2_with fail
 refine wp_region_grow 15 [Is (.pointer (some ⟨bp, 0, none⟩)), Is (.pointer (some ⟨bp, 0, none⟩)), Is (.pointer (some ⟨bp, 0, none⟩)), Is (.pointer (some ⟨bp, 0, none⟩)), Is (.agg #[.int .u64 (pl blank 0), .int .u64 (pl blank 1), .int .u64 (pl blank 2), .int .u64 (pl blank 3), .int .u64 (pl blank 4), .int .u64 (pl blank 5), .int .u64 (pl blank 6), .int .u64 (pl blank 7)]), Is (.pointer (some ⟨bp, 0, none⟩)), Is (.pointer (some ⟨bp, 0, none⟩)), Is (.pointer (some ⟨bp, 0, none⟩)), Is (.pointer (some ⟨bp, 8, none⟩)), Is v, VSol (w.heap.size + 1) l, VPat (w.heap.size + 1) blank l, Is u, VAc (w.heap.size + 1) la, VHist (w.heap.size + 1) blank l la] (by kernel_rfl) (by kernel_rfl) rfl ⟨fun _ _ _ h _ => h, fun _ _ _ h _ => h, fun _ _ _ h _ => h, fun _ _ _ h _ => h, fun _ _ _ h _ => h, fun _ _ _ h _ => h, fun _ _ _ h _ => h, fun _ _ _ h _ => h, fun _ _ _ h _ => h, fun _ _ _ h _ => h, VSol.stable, VPat.stable, fun _ _ _ h _ => h, VAc.stable, VHist.stable, trivial⟩ ?_
 simp only [List.take_succ_cons, List.take_zero, List.drop_succ_cons, List.drop_zero]
 iterate 10 (refine rel_cons ?_ (fun _ => ?_); · intro w1 hb hF; have hc := (Grows.cells hb).1; have hf := (Grows.cells hb).2; (try simp [facts, Is] at hF); go_simp; exact Grows.refl _)
 refine rel_cons ?_ (fun v10 => ?_)
 ·intro w1 hb hF; have hc := (Grows.cells hb).1; have hf := (Grows.cells hb).2; try simp [facts, Is] at hF
  have hbw : Below w.heap.size w w1 := bel_trans bel_by hb
  have hsz := hb.size
  simp only [World.size_alloc] at hsz
  go_simp
  refine (H1.out _ hbw).mono ?_
  rintro e w2 ⟨x, rfl, hO, hB⟩
  exact ⟨_, rfl, hB, by unfold VSol; exact own_weak hO hsz⟩
 refine rel_cons ?_ (fun v11 => ?_)
 ·intro w1 hb hF; have hc := (Grows.cells hb).1; have hf := (Grows.cells hb).2; try simp [facts, Is] at hF
  have hV := hF.2
  unfold VSol at hV
  refine Exists.elim (own_shape' hV) (fun p h => Exists.elim h (fun c h => ?_))
  have hv := h.1
  subst hv
  have HV : Hid (VPat (w.heap.size + 1) blank l (.agg #[.int .u64 (pl blank 0), .int .u64 (pl blank 1), .int .u64 (pl blank 2), .int .u64 (pl blank 3), .int .u64 (pl blank 4), .int .u64 (pl blank 5), .int .u64 (pl blank 6), .int .u64 (pl blank 7), .slice p l.length c]) w1) := (by show VPat _ _ _ _ _; unfold VPat; exact ⟨_, rfl, hV⟩)
  clear hV h
  go_simp
  exact ⟨Grows.refl _, HV.out⟩
 refine rel_cons ?_ (fun v12 => ?_)
 ·intro w1 hb hF; have hc := (Grows.cells hb).1; have hf := (Grows.cells hb).2; try simp [facts, Is] at hF
  go_simp
  exact Grows.refl _
 refine rel_cons ?_ (fun v13 => ?_)
 ·intro w1 hb hF; have hc := (Grows.cells hb).1; have hf := (Grows.cells hb).2; try simp [facts, Is] at hF
  have hbw : Below w.heap.size w w1 := bel_trans bel_by hb
  have hsz := hb.size
  simp only [World.size_alloc] at hsz
  go_simp
  refine (H2.out _ hbw).mono ?_
  rintro e w2 ⟨x, rfl, hO, hB⟩
  exact ⟨_, rfl, hB, by unfold VAc; exact own_weak hO hsz⟩
 refine rel_cons ?_ (fun v14 => ?_)
 ·intro w1 hb hF; have hc := (Grows.cells hb).1; have hf := (Grows.cells hb).2; try simp [facts, Is] at hF
  have hV := hF.1
  have hA := hF.2
  unfold VPat at hV
  unfold VAc at hA
  refine Exists.elim hV (fun pv h => ?_)
  have hv := h.1
  subst hv
  have HV : Hid (VHist (w.heap.size + 1) blank l la (.agg #[.int .u64 (pl blank 0), .int .u64 (pl blank 1), .int .u64 (pl blank 2), .int .u64 (pl blank 3), .int .u64 (pl blank 4), .int .u64 (pl blank 5), .int .u64 (pl blank 6), .int .u64 (pl blank 7), pv, v13]) w1) := by show VHist _ _ _ _ _ _; unfold VHist; exact ⟨_, _, rfl, h.2, hA⟩
  refine Exists.elim (own_shape' h.2) (fun p h => Exists.elim h (fun c h => ?_))
  refine Exists.elim (own_shape' hA) (fun p' h' => Exists.elim h' (fun c' h' => ?_))
  have hv := h.1
  have hv' := h'.1
  subst hv
  subst hv'
  clear hV h hA h'
  go_simp
  exact ⟨Grows.refl _, HV.out⟩
 refine rel_nil ?_
 intro w1 hb hF
 simp [Is, Nat.forall_lt_succ_right] at hF
 have e0 := hF.1.1.1.1.1.1.1.1.1.1.1.1.1.1
 have e1 := hF.1.1.1.1.1.1.1.1.1.1.1.1.1.2
 have e2 := hF.1.1.1.1.1.1.1.1.1.1.1.1.2
 have e3 := hF.1.1.1.1.1.1.1.1.1.1.1.2
 have e4 := hF.1.1.1.1.1.1.1.1.1.1.2
 have e5 := hF.1.1.1.1.1.1.1.1.1.2
 have e6 := hF.1.1.1.1.1.1.1.1.2
 have e7 := hF.1.1.1.1.1.1.1.2
 have e8 := hF.1.1.1.1.1.1.2
 have e9 := hF.1.1.1.1.1.2
 have e10 := hF.1.1.1.1.2
 have e11 := hF.1.1.1.2
 have e12 := hF.1.1.2
 have e13 := hF.1.2
 have e14 := hF.2
 clear hF
 simp only [Act.put, List.setIfInBounds_toArray, List.set_cons_succ, List.set_cons_zero, e0, e1, e2, e3, e4, e5, e6, e7, e8, e9, e12]
 clear e0 e1 e2 e3 e4 e5 e6 e7 e8 e9 e12
 unfold VHist at e14
 refine Veil.out ?_
 obtain ⟨pv, bv, rfl, hS, hA⟩ := e14
 refine Veil.on ?_
 have hsz := hb.size
 simp only [World.size_alloc] at hsz
 have hbw : Below w.heap.size w w1 := bel_trans bel_by hb
 have b1 : Blk w1 w.heap.size #[.int .u64 0, .int .u64 0, .int .u64 0, .int .u64 0, .int .u64 0, .int .u64 0, .int .u64 0, .int .u64 0, .slice none 0 0, .slice none 0 0] 30 := Blk.grow blk_by hb
 have HO := Lib.hid (And.intro hS hA)
 refine Veil.out ?_
 obtain ⟨p, c, hp, _, _⟩ := own_shape' hS
 obtain ⟨p', c', hp', _, _⟩ := own_shape' hA
 subst hp
 subst hp'
 refine Veil.on ?_
 clear hS hA
 have r1 := b1.row
 rw [← b1.rw]
 clear b1 hb
 go_wp2_with fail
 refine bodyPost_ret (by simp [results, Tryz.results92, go_sem, *]) rfl ⟨_, _, rfl, own_weak (own_row HO.out.1 (by omega) _) (by omega), own_weak (own_row HO.out.2 (by omega) _) (by omega), bel_by⟩
end Go.Proofs.YtccnkebkgegohaaGreatDoor
end
