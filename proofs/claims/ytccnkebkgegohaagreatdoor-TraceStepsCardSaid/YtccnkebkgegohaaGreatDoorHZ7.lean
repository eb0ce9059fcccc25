import Derived.Test.YtccnkebkgegohaaGreatDoorHTrp
/-
  Given contracts of functions of the program, and laws for them, one behind the other.
-/
set_option linter.unusedVariables false
set_option linter.unusedSimpArgs false
set_option linter.unusedSectionVars false
section
namespace Go.Proofs.YtccnkebkgegohaaGreatDoor
open Go.RowKit Go.Rel
set_option maxRecDepth 100000
/-! Steps of a bad history; lists of lists compared; Normal and Equal of the reference -/
set_option maxHeartbeats 4000000 in
theorem Steps_bad {b : Sol} {v av : Value} {l : List Sol} {m : List Ac} {x : Nat × Int} (h : begunM b l m = .inl x) (w : World) (Hv : SlS w v l) (Hav : SlA w av m) :
  Calls Tryz.prog 69 #[.agg #[.int .u64 (pl b 0), .int .u64 (pl b 1), .int .u64 (pl b 2), .int .u64 (pl b 3), .int .u64 (pl b 4), .int .u64 (pl b 5), .int .u64 (pl b 6), .int .u64 (pl b 7), v, av]] w fun e w' => e = .returned (.tuple #[.slice none 0 0, .int .i64 x.2]) ∧ Below w.heap.size w w' := by
 have H := Lib.hid fun w' (hb : Below w.heap.size w w') => begun_bad h w' (Hv.mono hb) (Hav.mono hb)
 have hne := begunM_bad h
 clear h Hv Hav
 go_enter Tryz.func69, Tryz.ntmps69
 go_wp2_with fail
 refine (H.out _ bel_by).mono ?_
 rintro e w1 ⟨rfl, hb⟩
 have hB1 : Below w.heap.size w w1 := bel_trans bel_by hb
 clear hb
 go_wp2_with fail
 refine bodyPost_ret (by simp [results, Tryz.results69, go_sem]) rfl ⟨rfl, hB1⟩
theorem sl1_at {W : World} {q : Option Addr} {n c : Nat} {vs : List Value} {j : Nat} {x : Value} (h : Sl W 1 (.slice q n c) (vs.map fun x => [x])) (hx : vs[j]? = some x) : ∃ b o, q = some ⟨b, o, none⟩ ∧ b < W.heap.size ∧ ∀ W', Below W.heap.size W W' → ∀ (k : Nat) (y : Value), vs[k]? = some y → W'.cell? ⟨b, o + k, none⟩ = some y := by
 rcases Sl.cases h with ⟨hl, _⟩ | ⟨b, o, c', he, _, _, _, hc⟩
 ·have : vs = [] := by simpa using hl
  subst this; cases hx
 ·injection he with h1 _ _
  refine ⟨b, o, h1, hc.1, fun W' hb k y hk => ?_⟩
  have := (hc.mono hb hc.1).2 k 0 y (by simp [hk])
  simpa using this
end Go.Proofs.YtccnkebkgegohaaGreatDoor
end
section
namespace Go.Proofs.YtccnkebkgegohaaGreatDoor
open Go.RowKit Go.Rel
set_option maxRecDepth 100000
/-- a list of lists of acts, in memory -/
def LLst (W : World) (u : Value) (ps : List (Value × List Ac)) : Prop := Sl W 1 u (ps.map fun p => [p.1]) ∧ ∀ p ∈ ps, SlN W p.1 p.2
theorem LLst.mono {W W' : World} {u : Value} {ps : List (Value × List Ac)} (h : LLst W u ps) (hb : Below W.heap.size W W') : LLst W' u ps := ⟨Sl.mono h.1 hb, fun p hp => (h.2 p hp).mono hb⟩
def SRes (SS : List (List Ac)) (E : Int) (w : World) (e : Ending) (w' : World) : Prop := ∃ u ps, e = .returned (.tuple #[u, .int .i64 E]) ∧ List.map (fun p : Value × List Ac => p.2) ps = SS ∧ LLst w' u ps ∧ Below w.heap.size w w'
end Go.Proofs.YtccnkebkgegohaaGreatDoor
end
section
namespace Go.Proofs.YtccnkebkgegohaaGreatDoor
open Go.RowKit Go.Rel
set_option maxRecDepth 100000
/-! the closures of the law of steps -/
theorem Indep_fineX {b : Sol} {l : List Sol} {m : List Ac} (hp : chkPat b l = 0) (F : Fine l m) {x y : Ac} (hx : x ∈ m) (hy : y ∈ m) {v : Value} (w : World) (Hv : SlS w v l) :
  Calls Tryz.prog 32 #[.agg #[.int .u64 (pl b 0), .int .u64 (pl b 1), .int .u64 (pl b 2), .int .u64 (pl b 3), .int .u64 (pl b 4), .int .u64 (pl b 5), .int .u64 (pl b 6), .int .u64 (pl b 7), v], .agg #[.int .u8 x.1, .int .i64 x.2.1, .int .u64 (pl x.2.2 0), .int .u64 (pl x.2.2 1), .int .u64 (pl x.2.2 2), .int .u64 (pl x.2.2 3), .int .u64 (pl x.2.2 4), .int .u64 (pl x.2.2 5), .int .u64 (pl x.2.2 6), .int .u64 (pl x.2.2 7)], .agg #[.int .u8 y.1, .int .i64 y.2.1, .int .u64 (pl y.2.2 0), .int .u64 (pl y.2.2 1), .int .u64 (pl y.2.2 2), .int .u64 (pl y.2.2 3), .int .u64 (pl y.2.2 4), .int .u64 (pl y.2.2 5), .int .u64 (pl y.2.2 6), .int .u64 (pl y.2.2 7)]] w fun e w' => e = .returned (.tuple #[.bool (apartB l x y), .int .i64 0]) ∧ Below w.heap.size w w' := by
 have hs := Independent_spec b v l x y w Hv
 have hx0 : chkAc b l x = 0 := by unfold chkAc; rw [if_pos hp, if_pos (F.fit x hx)]
 have hy0 : chkAc b l y = 0 := by unfold chkAc; rw [if_pos hp, if_pos (F.fit y hy)]
 have hi : indErr b l x y = 0 := by unfold indErr; rw [if_pos hx0, hy0]
 rw [hi] at hs
 exact hs
theorem indep_hidX {b : Sol} {l : List Sol} {m : List Ac} (hp : chkPat b l = 0) (F : Fine l m) {x y : Ac} (hx : x ∈ m) (hy : y ∈ m) {v : Value} (w : World) (Hv : SlS w v l) {fr : Bool} (hf : apartB l x y = fr) :
  Hid (∀ w', Below w.heap.size w w' → Calls Tryz.prog 32 #[.agg #[.int .u64 (pl b 0), .int .u64 (pl b 1), .int .u64 (pl b 2), .int .u64 (pl b 3), .int .u64 (pl b 4), .int .u64 (pl b 5), .int .u64 (pl b 6), .int .u64 (pl b 7), v], .agg #[.int .u8 x.1, .int .i64 x.2.1, .int .u64 (pl x.2.2 0), .int .u64 (pl x.2.2 1), .int .u64 (pl x.2.2 2), .int .u64 (pl x.2.2 3), .int .u64 (pl x.2.2 4), .int .u64 (pl x.2.2 5), .int .u64 (pl x.2.2 6), .int .u64 (pl x.2.2 7)], .agg #[.int .u8 y.1, .int .i64 y.2.1, .int .u64 (pl y.2.2 0), .int .u64 (pl y.2.2 1), .int .u64 (pl y.2.2 2), .int .u64 (pl y.2.2 3), .int .u64 (pl y.2.2 4), .int .u64 (pl y.2.2 5), .int .u64 (pl y.2.2 6), .int .u64 (pl y.2.2 7)]] w' fun e w'' => e = .returned (.tuple #[.bool fr, .int .i64 0]) ∧ Below w'.heap.size w' w'') := by
 subst hf
 exact Lib.hid fun w' hw => Indep_fineX hp F hx hy w' (Hv.mono hw)
set_option maxHeartbeats 2000000 in
theorem free70 {b : Sol} {p q : Option Addr} {n c k d : Nat} {l : List Sol} {m : List Ac} (hp : chkPat b l = 0) (F : Fine l m) {x y : Ac} (hx : x ∈ m) (hy : y ∈ m) (bh : Nat) (w : World) (Hv : SlS w (.slice p n c) l) (g0 : Blk w bh #[.int .u64 (pl b 0), .int .u64 (pl b 1), .int .u64 (pl b 2), .int .u64 (pl b 3), .int .u64 (pl b 4), .int .u64 (pl b 5), .int .u64 (pl b 6), .int .u64 (pl b 7), .slice p n c, .slice q k d] 30) :
  Calls Tryz.prog 70 #[.agg #[.int .u8 x.1, .int .i64 x.2.1, .int .u64 (pl x.2.2 0), .int .u64 (pl x.2.2 1), .int .u64 (pl x.2.2 2), .int .u64 (pl x.2.2 3), .int .u64 (pl x.2.2 4), .int .u64 (pl x.2.2 5), .int .u64 (pl x.2.2 6), .int .u64 (pl x.2.2 7)], .agg #[.int .u8 y.1, .int .i64 y.2.1, .int .u64 (pl y.2.2 0), .int .u64 (pl y.2.2 1), .int .u64 (pl y.2.2 2), .int .u64 (pl y.2.2 3), .int .u64 (pl y.2.2 4), .int .u64 (pl y.2.2 5), .int .u64 (pl y.2.2 6), .int .u64 (pl y.2.2 7)], .pointer (some ⟨bh, 0, none⟩)] w fun e w' => e = .returned (.bool (apartB l x y)) ∧ Below w.heap.size w w' := by
 obtain ⟨r, hr⟩ : ∃ r, apartB l x y = r := ⟨_, rfl⟩
 have HI := indep_hidX hp F hx hy w Hv hr
 rw [hr]
 have c0 := g0.cell
 have l0 := g0.lt
 clear hx hy hp F hr Hv
 go_enter Tryz.func70, Tryz.ntmps70
 go_wp2_with fail
 refine (HI.out _ bel_by).mono ?_
 rintro e w1 ⟨rfl, hb⟩
 have hB1 : Below w.heap.size w w1 := bel_trans bel_by hb
 clear hb c0 l0 g0
 go_wp2_with fail
 refine bodyPost_ret (v := .bool r) (by simp [results, Tryz.results70, go_sem]) rfl ⟨rfl, hB1⟩
set_option maxHeartbeats 2000000 in
theorem not72 {x y : Ac} {r : Bool} (bh bf ba : Nat) (w : World) (g1 : Blk w bf #[.func (.func 70) #[] #[.pointer (some ⟨bh, 0, none⟩)]] 86) (g2 : Blk w ba #[.int .u8 x.1, .int .i64 x.2.1, .int .u64 (pl x.2.2 0), .int .u64 (pl x.2.2 1), .int .u64 (pl x.2.2 2), .int .u64 (pl x.2.2 3), .int .u64 (pl x.2.2 4), .int .u64 (pl x.2.2 5), .int .u64 (pl x.2.2 6), .int .u64 (pl x.2.2 7)] 46)
  (H : Hid (∀ w', Below w.heap.size w w' → Calls Tryz.prog 70 #[.agg #[.int .u8 x.1, .int .i64 x.2.1, .int .u64 (pl x.2.2 0), .int .u64 (pl x.2.2 1), .int .u64 (pl x.2.2 2), .int .u64 (pl x.2.2 3), .int .u64 (pl x.2.2 4), .int .u64 (pl x.2.2 5), .int .u64 (pl x.2.2 6), .int .u64 (pl x.2.2 7)], .agg #[.int .u8 y.1, .int .i64 y.2.1, .int .u64 (pl y.2.2 0), .int .u64 (pl y.2.2 1), .int .u64 (pl y.2.2 2), .int .u64 (pl y.2.2 3), .int .u64 (pl y.2.2 4), .int .u64 (pl y.2.2 5), .int .u64 (pl y.2.2 6), .int .u64 (pl y.2.2 7)], .pointer (some ⟨bh, 0, none⟩)] w' fun e w'' => e = .returned (.bool r) ∧ Below w'.heap.size w' w'')) :
  Calls Tryz.prog 72 #[.agg #[.int .u8 y.1, .int .i64 y.2.1, .int .u64 (pl y.2.2 0), .int .u64 (pl y.2.2 1), .int .u64 (pl y.2.2 2), .int .u64 (pl y.2.2 3), .int .u64 (pl y.2.2 4), .int .u64 (pl y.2.2 5), .int .u64 (pl y.2.2 6), .int .u64 (pl y.2.2 7)], .pointer (some ⟨bf, 0, none⟩), .pointer (some ⟨ba, 0, none⟩)] w fun e w' => e = .returned (.bool (!r)) ∧ Below w.heap.size w w' := by
 have c1 := g1.cell
 have l1 := g1.lt
 have c2 := g2.cell
 have l2 := g2.lt
 go_enter Tryz.func72, Tryz.ntmps72
 go_wp2_with fail
 refine (H.out _ bel_by).mono ?_
 rintro e w1 ⟨rfl, hb⟩
 have hB1 : Below w.heap.size w w1 := bel_trans bel_by hb
 clear hb c1 l1 c2 l2 g1 g2
 go_wp2_with fail
 refine bodyPost_ret (v := .bool (!r)) (by simp [results, Tryz.results72, go_sem]) rfl ⟨rfl, hB1⟩
set_option maxHeartbeats 2000000 in
theorem IndexFunc131_72 (v : Value) (l : List Ac) (c0 c1 : Value) (p : Ac → Bool) (w : World) (h : SlA w v l)
  (hf : ∀ w', Below w.heap.size w w' → ∀ x ∈ l, Calls Tryz.prog 72 #[.agg #[.int .u8 x.1, .int .i64 x.2.1, .int .u64 (pl x.2.2 0), .int .u64 (pl x.2.2 1), .int .u64 (pl x.2.2 2), .int .u64 (pl x.2.2 3), .int .u64 (pl x.2.2 4), .int .u64 (pl x.2.2 5), .int .u64 (pl x.2.2 6), .int .u64 (pl x.2.2 7)], c0, c1] w' fun e w'' => e = .returned (.bool (p x)) ∧ Below w'.heap.size w' w'') :
  Calls Tryz.prog 131 #[v, .func (.func 72) #[] #[c0, c1]] w fun e w' => e = .returned (.int .i64 (idx p l)) ∧ Below w.heap.size w w' := by
 rcases h.cases with ⟨hl, a, c, rfl, hm⟩ | ⟨b, off, c, rfl, hc, hm, hpos, hcs⟩
 ·have hl' : l = [] := by simpa using hl
  subst hl'
  clear hl
  go_enter Tryz.func131, Tryz.ntmps131
  go_wp2
  refine wp_loop_rounds 1 ?_
  rw [rounds_succ]
  go_wp2
  go_ret
  exact ⟨rfl, Below.refl _ _⟩
 ·rw [List.length_map] at hc hpos ⊢
  have H := Lib.hid hcs; clear hcs h
  have HF := Lib.hid hf; clear hf
  generalize hn : l.length = n at hc hpos ⊢
  have HN := Lib.hid hn; clear hn
  go_enter Tryz.func131, Tryz.ntmps131
  go_wp2_with fail
  go_loopw [8] (fun i wr => ∃ k : Nat, k ≤ n ∧ i = .int .i64 k ∧ Hid (∀ (j : Nat) (y : Ac), j < k → l[j]? = some y → p y = false) ∧ Below w.heap.size w wr) (fun i _ => n - (intOf i).toNat)
  case atStart => exact ⟨0, Nat.zero_le _, rfl, fun j y hj => by omega, Below.refl _ _⟩
  case round =>
   obtain ⟨k, hk, rfl, HP, hbel⟩ := hrel
   by_cases hlt : k < n
   ·have hx : l[k]? = some (l[k]'(by rw [HN.out]; exact hlt)) := by simp
    have hmem := List.mem_of_getElem? hx
    generalize l[k]'(by rw [HN.out]; exact hlt) = x at hx hmem
    obtain ⟨a0, a1, a2, a3, a4, a5, a6, a7, a8, a9⟩ := ac_cells (H.out.mono hbel H.out.1) hx
    have HX := Lib.hid hx; clear hx
    have HM := Lib.hid hmem; clear hmem
    have hsz := hbel.size
    go_wp2_with fail
    clear a0 a1 a2 a3 a4 a5 a6 a7 a8 a9
    refine (HF.out _ hbel x HM.out).mono ?_
    rintro e w2 ⟨rfl, hb2⟩
    have hB : Below w.heap.size w w2 := bel_trans hbel hb2
    clear hb2
    cases hp : p x with
    | true =>
     go_wp2_with fail
     go_ret
     exact ⟨ret_int (idx_found HX.out hp HP.out).symm, hB⟩
    | false =>
     go_wp2_with fail
     go_roundw
     case rel => exact ⟨k + 1, by omega, by go_num, fun j y hj hy => (by
      rcases Nat.lt_or_eq_of_le (Nat.le_of_lt_succ hj) with h | h
      ·exact HP.out j y h hy
      ·subst h; rw [HX.out] at hy; cases hy; exact hp), hB⟩
     case measure => simp [intOf]; omega
   ·go_wp2_with fail
    go_ret
    exact ⟨ret_int (idx_none (fun j y hy => HP.out j y (by have := (List.getElem?_eq_some_iff.1 hy).1; rw [HN.out] at this; omega) hy)).symm, hbel⟩
set_option maxHeartbeats 2000000 in
theorem ContainsFunc71_72 (v : Value) (l : List Ac) (c0 c1 : Value) (p : Ac → Bool) (w : World) (h : SlA w v l)
  (hf : ∀ w', Below w.heap.size w w' → ∀ x ∈ l, Calls Tryz.prog 72 #[.agg #[.int .u8 x.1, .int .i64 x.2.1, .int .u64 (pl x.2.2 0), .int .u64 (pl x.2.2 1), .int .u64 (pl x.2.2 2), .int .u64 (pl x.2.2 3), .int .u64 (pl x.2.2 4), .int .u64 (pl x.2.2 5), .int .u64 (pl x.2.2 6), .int .u64 (pl x.2.2 7)], c0, c1] w' fun e w'' => e = .returned (.bool (p x)) ∧ Below w'.heap.size w' w'') :
  Calls Tryz.prog 71 #[v, .func (.func 72) #[] #[c0, c1]] w fun e w' => e = .returned (.bool (l.any p)) ∧ Below w.heap.size w w' := by
 have hge := idx_ge p l
 have hany : Hid (l.any p = decide (0 ≤ idx p l)) := by
  show _ = _
  rw [Bool.eq_iff_iff, decide_eq_true_eq, idx_nonneg]
 have hidx := Lib.hid (IndexFunc131_72 v l c0 c1 p w h hf)
 generalize idx p l = i at hge hany hidx
 clear hf h
 go_enter Tryz.func71, Tryz.ntmps71
 go_wp2_with fail
 refine hidx.out.mono ?_
 rintro e w1 ⟨rfl, hb⟩
 go_wp2_with fail
 go_ret
 refine ⟨?_, hb⟩
 rw [hany.out]; rfl
set_option maxHeartbeats 2000000 in
theorem not73 {x y : Ac} {r : Bool} (bh bf ba : Nat) (w : World) (g1 : Blk w bf #[.func (.func 70) #[] #[.pointer (some ⟨bh, 0, none⟩)]] 86) (g2 : Blk w ba #[.int .u8 x.1, .int .i64 x.2.1, .int .u64 (pl x.2.2 0), .int .u64 (pl x.2.2 1), .int .u64 (pl x.2.2 2), .int .u64 (pl x.2.2 3), .int .u64 (pl x.2.2 4), .int .u64 (pl x.2.2 5), .int .u64 (pl x.2.2 6), .int .u64 (pl x.2.2 7)] 46)
  (H : Hid (∀ w', Below w.heap.size w w' → Calls Tryz.prog 70 #[.agg #[.int .u8 x.1, .int .i64 x.2.1, .int .u64 (pl x.2.2 0), .int .u64 (pl x.2.2 1), .int .u64 (pl x.2.2 2), .int .u64 (pl x.2.2 3), .int .u64 (pl x.2.2 4), .int .u64 (pl x.2.2 5), .int .u64 (pl x.2.2 6), .int .u64 (pl x.2.2 7)], .agg #[.int .u8 y.1, .int .i64 y.2.1, .int .u64 (pl y.2.2 0), .int .u64 (pl y.2.2 1), .int .u64 (pl y.2.2 2), .int .u64 (pl y.2.2 3), .int .u64 (pl y.2.2 4), .int .u64 (pl y.2.2 5), .int .u64 (pl y.2.2 6), .int .u64 (pl y.2.2 7)], .pointer (some ⟨bh, 0, none⟩)] w' fun e w'' => e = .returned (.bool r) ∧ Below w'.heap.size w' w'')) :
  Calls Tryz.prog 73 #[.agg #[.int .u8 y.1, .int .i64 y.2.1, .int .u64 (pl y.2.2 0), .int .u64 (pl y.2.2 1), .int .u64 (pl y.2.2 2), .int .u64 (pl y.2.2 3), .int .u64 (pl y.2.2 4), .int .u64 (pl y.2.2 5), .int .u64 (pl y.2.2 6), .int .u64 (pl y.2.2 7)], .pointer (some ⟨bf, 0, none⟩), .pointer (some ⟨ba, 0, none⟩)] w fun e w' => e = .returned (.bool (!r)) ∧ Below w.heap.size w w' := by
 have c1 := g1.cell
 have l1 := g1.lt
 have c2 := g2.cell
 have l2 := g2.lt
 go_enter Tryz.func73, Tryz.ntmps73
 go_wp2_with fail
 refine (H.out _ bel_by).mono ?_
 rintro e w1 ⟨rfl, hb⟩
 have hB1 : Below w.heap.size w w1 := bel_trans bel_by hb
 clear hb c1 l1 c2 l2 g1 g2
 go_wp2_with fail
 refine bodyPost_ret (v := .bool (!r)) (by simp [results, Tryz.results73, go_sem]) rfl ⟨rfl, hB1⟩
set_option maxHeartbeats 2000000 in
theorem IndexFunc131_73 (v : Value) (l : List Ac) (c0 c1 : Value) (p : Ac → Bool) (w : World) (h : SlA w v l)
  (hf : ∀ w', Below w.heap.size w w' → ∀ x ∈ l, Calls Tryz.prog 73 #[.agg #[.int .u8 x.1, .int .i64 x.2.1, .int .u64 (pl x.2.2 0), .int .u64 (pl x.2.2 1), .int .u64 (pl x.2.2 2), .int .u64 (pl x.2.2 3), .int .u64 (pl x.2.2 4), .int .u64 (pl x.2.2 5), .int .u64 (pl x.2.2 6), .int .u64 (pl x.2.2 7)], c0, c1] w' fun e w'' => e = .returned (.bool (p x)) ∧ Below w'.heap.size w' w'') :
  Calls Tryz.prog 131 #[v, .func (.func 73) #[] #[c0, c1]] w fun e w' => e = .returned (.int .i64 (idx p l)) ∧ Below w.heap.size w w' := by
 rcases h.cases with ⟨hl, a, c, rfl, hm⟩ | ⟨b, off, c, rfl, hc, hm, hpos, hcs⟩
 ·have hl' : l = [] := by simpa using hl
  subst hl'
  clear hl
  go_enter Tryz.func131, Tryz.ntmps131
  go_wp2
  refine wp_loop_rounds 1 ?_
  rw [rounds_succ]
  go_wp2
  go_ret
  exact ⟨rfl, Below.refl _ _⟩
 ·rw [List.length_map] at hc hpos ⊢
  have H := Lib.hid hcs; clear hcs h
  have HF := Lib.hid hf; clear hf
  generalize hn : l.length = n at hc hpos ⊢
  have HN := Lib.hid hn; clear hn
  go_enter Tryz.func131, Tryz.ntmps131
  go_wp2_with fail
  go_loopw [8] (fun i wr => ∃ k : Nat, k ≤ n ∧ i = .int .i64 k ∧ Hid (∀ (j : Nat) (y : Ac), j < k → l[j]? = some y → p y = false) ∧ Below w.heap.size w wr) (fun i _ => n - (intOf i).toNat)
  case atStart => exact ⟨0, Nat.zero_le _, rfl, fun j y hj => by omega, Below.refl _ _⟩
  case round =>
   obtain ⟨k, hk, rfl, HP, hbel⟩ := hrel
   by_cases hlt : k < n
   ·have hx : l[k]? = some (l[k]'(by rw [HN.out]; exact hlt)) := by simp
    have hmem := List.mem_of_getElem? hx
    generalize l[k]'(by rw [HN.out]; exact hlt) = x at hx hmem
    obtain ⟨a0, a1, a2, a3, a4, a5, a6, a7, a8, a9⟩ := ac_cells (H.out.mono hbel H.out.1) hx
    have HX := Lib.hid hx; clear hx
    have HM := Lib.hid hmem; clear hmem
    have hsz := hbel.size
    go_wp2_with fail
    clear a0 a1 a2 a3 a4 a5 a6 a7 a8 a9
    refine (HF.out _ hbel x HM.out).mono ?_
    rintro e w2 ⟨rfl, hb2⟩
    have hB : Below w.heap.size w w2 := bel_trans hbel hb2
    clear hb2
    cases hp : p x with
    | true =>
     go_wp2_with fail
     go_ret
     exact ⟨ret_int (idx_found HX.out hp HP.out).symm, hB⟩
    | false =>
     go_wp2_with fail
     go_roundw
     case rel => exact ⟨k + 1, by omega, by go_num, fun j y hj hy => (by
      rcases Nat.lt_or_eq_of_le (Nat.le_of_lt_succ hj) with h | h
      ·exact HP.out j y h hy
      ·subst h; rw [HX.out] at hy; cases hy; exact hp), hB⟩
     case measure => simp [intOf]; omega
   ·go_wp2_with fail
    go_ret
    exact ⟨ret_int (idx_none (fun j y hy => HP.out j y (by have := (List.getElem?_eq_some_iff.1 hy).1; rw [HN.out] at this; omega) hy)).symm, hbel⟩
set_option maxHeartbeats 2000000 in
theorem ContainsFunc71_73 (v : Value) (l : List Ac) (c0 c1 : Value) (p : Ac → Bool) (w : World) (h : SlA w v l)
  (hf : ∀ w', Below w.heap.size w w' → ∀ x ∈ l, Calls Tryz.prog 73 #[.agg #[.int .u8 x.1, .int .i64 x.2.1, .int .u64 (pl x.2.2 0), .int .u64 (pl x.2.2 1), .int .u64 (pl x.2.2 2), .int .u64 (pl x.2.2 3), .int .u64 (pl x.2.2 4), .int .u64 (pl x.2.2 5), .int .u64 (pl x.2.2 6), .int .u64 (pl x.2.2 7)], c0, c1] w' fun e w'' => e = .returned (.bool (p x)) ∧ Below w'.heap.size w' w'') :
  Calls Tryz.prog 71 #[v, .func (.func 73) #[] #[c0, c1]] w fun e w' => e = .returned (.bool (l.any p)) ∧ Below w.heap.size w w' := by
 have hge := idx_ge p l
 have hany : Hid (l.any p = decide (0 ≤ idx p l)) := by
  show _ = _
  rw [Bool.eq_iff_iff, decide_eq_true_eq, idx_nonneg]
 have hidx := Lib.hid (IndexFunc131_73 v l c0 c1 p w h hf)
 generalize idx p l = i at hge hany hidx
 clear hf h
 go_enter Tryz.func71, Tryz.ntmps71
 go_wp2_with fail
 refine hidx.out.mono ?_
 rintro e w1 ⟨rfl, hb⟩
 go_wp2_with fail
 go_ret
 refine ⟨?_, hb⟩
 rw [hany.out]; rfl
end Go.Proofs.YtccnkebkgegohaaGreatDoor
end
