import Derived.Test.YtccnkebkgegohaaGreatDoorHS2
/-
  Given contracts of functions of the program, and laws for them, one behind the other.
-/
set_option linter.unusedVariables false
set_option linter.unusedSimpArgs false
set_option linter.unusedSectionVars false
section
namespace Go.Proofs.YtccnkebkgegohaaGreatDoor
open Go.RowKit Go.Rel
set_option maxRecDepth 100000
/-! Run, of the reference -/
theorem runM_split {l : List Sol} : ∀ {u v : List Ac} {k : Nat} {s0 s : StB}, Tra.runO (stB l) s0 u = some s → runM l k (upI s0) (u ++ v) = runM l (k + u.length) (upI s) v
 | [], v, k, s0, s, h => by cases h; rfl
 | a :: u, v, k, s0, s, h => by
  simp only [Tra.runO, Option.bind_eq_some_iff] at h
  obtain ⟨s1, h1, h2⟩ := h
  rw [List.cons_append, runM, (next_B l s0 a).1 s1 h1]
  dsimp only
  rw [runM_split h2, List.length_cons]
  congr 1
  omega
def I8 (B : Nat) (T : Array Value) (a b : Bool) (y : Value) (W : World) : Prop := a = true → ∃ k, y = .pointer (some ⟨k, 0, none⟩) ∧ B ≤ k ∧ (b = false → Blk W k #[.int .u64 0, .int .u64 0, .int .u64 0, .int .u64 0, .int .u64 0, .int .u64 0, .int .u64 0, .int .u64 0, .int .u8 0] 37) ∧ (b = true → Blk W k T 37)
theorem I8.grow {B : Nat} {T : Array Value} {a b : Bool} {y : Value} {W W' : World} (h : I8 B T a b y W) (hb : Below W.heap.size W W') : I8 B T a b y W' := by
 intro ha
 obtain ⟨k, hy, hk, h0, h1⟩ := h ha
 exact ⟨k, hy, hk, fun e => (h0 e).grow hb, fun e => (h1 e).grow hb⟩
theorem I8.made {B : Nat} {T : Array Value} {W : World} (hB : B ≤ W.heap.size) : I8 B T true false (.pointer (some ⟨W.heap.size, 0, none⟩)) (W.alloc (.cells #[.int .u64 0, .int .u64 0, .int .u64 0, .int .u64 0, .int .u64 0, .int .u64 0, .int .u64 0, .int .u64 0, .int .u8 0] 37)) := fun _ => ⟨_, rfl, hB, fun _ => Blk.new _ _ _, fun e => by cases e⟩
set_option maxHeartbeats 4000000 in
theorem refRun_pat (b : Sol) (v av : Value) (w : World) (R : Int) (hne : (R != 0) = true) (hz : (R == 0) = false)
  (H : Hid (∀ w', Below w.heap.size w w' → Calls Tryz.prog 35 #[.agg #[.int .u64 (pl b 0), .int .u64 (pl b 1), .int .u64 (pl b 2), .int .u64 (pl b 3), .int .u64 (pl b 4), .int .u64 (pl b 5), .int .u64 (pl b 6), .int .u64 (pl b 7), v]] w' fun e w'' => e = .returned (.int .i64 R) ∧ Below w'.heap.size w' w'')) :
  Calls Tryz.prog 105 #[.agg #[.int .u64 (pl b 0), .int .u64 (pl b 1), .int .u64 (pl b 2), .int .u64 (pl b 3), .int .u64 (pl b 4), .int .u64 (pl b 5), .int .u64 (pl b 6), .int .u64 (pl b 7), v, av]] w fun e w' => e = .returned (.tuple #[.agg #[.int .u64 0, .int .u64 0, .int .u64 0, .int .u64 0, .int .u64 0, .int .u64 0, .int .u64 0, .int .u64 0, .int .u8 0], .int .i64 0, .int .i64 R]) ∧ Below w.heap.size w w' := by
 go_enter Tryz.func105, Tryz.ntmps105
 go_wp2_with fail
 refine (H.out _ bel_by).mono ?_
 rintro e w1 ⟨rfl, hb⟩
 have hB : Below w.heap.size w w1 := bel_trans bel_by hb
 have g0 : Blk w1 (w.heap.size) #[.int .u64 (pl b 0), .int .u64 (pl b 1), .int .u64 (pl b 2), .int .u64 (pl b 3), .int .u64 (pl b 4), .int .u64 (pl b 5), .int .u64 (pl b 6), .int .u64 (pl b 7), v, av] 30 := Blk.grow blk_by hb
 have g2 : Blk w1 (w.heap.size + 1) #[.int .u64 0, .int .u64 0, .int .u64 0, .int .u64 0, .int .u64 0, .int .u64 0, .int .u64 0, .int .u64 0, .int .u8 0] 37 := Blk.grow blk_by hb
 clear hb
 have c0 := g0.cell
 have l0 := g0.lt
 have r2 := g2.row
 rw [← g2.rw]
 clear g2 g0
 go_wp2_with fail
 refine bodyPost_ret (by simp [results, Tryz.results105, go_sem, *]) rfl ⟨rfl, blw_row hB (by omega) _⟩
set_option maxHeartbeats 4000000 in
theorem refRun_long (b : Sol) (v : Value) (q : Option Addr) (k d : Nat) (w : World) (hk : 60 < k)
  (H : Hid (∀ w', Below w.heap.size w w' → Calls Tryz.prog 35 #[.agg #[.int .u64 (pl b 0), .int .u64 (pl b 1), .int .u64 (pl b 2), .int .u64 (pl b 3), .int .u64 (pl b 4), .int .u64 (pl b 5), .int .u64 (pl b 6), .int .u64 (pl b 7), v]] w' fun e w'' => e = .returned (.int .i64 0) ∧ Below w'.heap.size w' w'')) :
  Calls Tryz.prog 105 #[.agg #[.int .u64 (pl b 0), .int .u64 (pl b 1), .int .u64 (pl b 2), .int .u64 (pl b 3), .int .u64 (pl b 4), .int .u64 (pl b 5), .int .u64 (pl b 6), .int .u64 (pl b 7), v, .slice q k d]] w fun e w' => e = .returned (.tuple #[.agg #[.int .u64 0, .int .u64 0, .int .u64 0, .int .u64 0, .int .u64 0, .int .u64 0, .int .u64 0, .int .u64 0, .int .u8 0], .int .i64 0, .int .i64 2]) ∧ Below w.heap.size w w' := by
 go_enter Tryz.func105, Tryz.ntmps105
 go_wp2_with fail
 refine (H.out _ bel_by).mono ?_
 rintro e w1 ⟨rfl, hb⟩
 have hB : Below w.heap.size w w1 := bel_trans bel_by hb
 have g0 : Blk w1 (w.heap.size) #[.int .u64 (pl b 0), .int .u64 (pl b 1), .int .u64 (pl b 2), .int .u64 (pl b 3), .int .u64 (pl b 4), .int .u64 (pl b 5), .int .u64 (pl b 6), .int .u64 (pl b 7), v, .slice q k d] 30 := Blk.grow blk_by hb
 have g2 : Blk w1 (w.heap.size + 1) #[.int .u64 0, .int .u64 0, .int .u64 0, .int .u64 0, .int .u64 0, .int .u64 0, .int .u64 0, .int .u64 0, .int .u8 0] 37 := Blk.grow blk_by hb
 clear hb
 have c0 := g0.cell
 have l0 := g0.lt
 have r2 := g2.row
 rw [← g2.rw]
 clear g2 g0
 go_wp2_with fail
 refine bodyPost_ret (by simp [results, Tryz.results105, go_sem, *]) rfl ⟨rfl, blw_row hB (by omega) _⟩
set_option maxHeartbeats 8000000 in
theorem refRun_nil (b : Sol) (v : Value) (q : Option Addr) (d : Nat) (w : World)
  (H : Hid (∀ w', Below w.heap.size w w' → Calls Tryz.prog 35 #[.agg #[.int .u64 (pl b 0), .int .u64 (pl b 1), .int .u64 (pl b 2), .int .u64 (pl b 3), .int .u64 (pl b 4), .int .u64 (pl b 5), .int .u64 (pl b 6), .int .u64 (pl b 7), v]] w' fun e w'' => e = .returned (.int .i64 0) ∧ Below w'.heap.size w' w'')) :
  Calls Tryz.prog 105 #[.agg #[.int .u64 (pl b 0), .int .u64 (pl b 1), .int .u64 (pl b 2), .int .u64 (pl b 3), .int .u64 (pl b 4), .int .u64 (pl b 5), .int .u64 (pl b 6), .int .u64 (pl b 7), v, .slice q 0 d]] w fun e w' => e = .returned (.tuple #[.agg #[.int .u64 (pl b 0), .int .u64 (pl b 1), .int .u64 (pl b 2), .int .u64 (pl b 3), .int .u64 (pl b 4), .int .u64 (pl b 5), .int .u64 (pl b 6), .int .u64 (pl b 7), .int .u8 0], .int .i64 0, .int .i64 0]) ∧ Below w.heap.size w w' := by
 go_enter Tryz.func105, Tryz.ntmps105
 go_wp2_with fail
 refine (H.out _ bel_by).mono ?_
 rintro e w1 ⟨rfl, hb⟩
 have hB : Below w.heap.size w w1 := bel_trans bel_by hb
 have g0 : Blk w1 (w.heap.size) #[.int .u64 (pl b 0), .int .u64 (pl b 1), .int .u64 (pl b 2), .int .u64 (pl b 3), .int .u64 (pl b 4), .int .u64 (pl b 5), .int .u64 (pl b 6), .int .u64 (pl b 7), v, .slice q 0 d] 30 := Blk.grow blk_by hb
 have g2 : Blk w1 (w.heap.size + 1) #[.int .u64 0, .int .u64 0, .int .u64 0, .int .u64 0, .int .u64 0, .int .u64 0, .int .u64 0, .int .u64 0, .int .u8 0] 37 := Blk.grow blk_by hb
 clear hb
 have c0 := g0.cell
 have l0 := g0.lt
 go_wp2_with fail
 have hbb : Below w1.heap.size w1 (w1.alloc (.cells (#[.int .u64 (pl b 0), .int .u64 (pl b 1), .int .u64 (pl b 2), .int .u64 (pl b 3), .int .u64 (pl b 4), .int .u64 (pl b 5), .int .u64 (pl b 6), .int .u64 (pl b 7), .int .u8 0] : Array Value) 37)) := bel_alloc (bel_refl _) _
 obtain ⟨w2, hw2⟩ : ∃ w2 : World, w2 = w1.alloc (.cells (#[.int .u64 (pl b 0), .int .u64 (pl b 1), .int .u64 (pl b 2), .int .u64 (pl b 3), .int .u64 (pl b 4), .int .u64 (pl b 5), .int .u64 (pl b 6), .int .u64 (pl b 7), .int .u8 0] : Array Value) 37) := ⟨_, rfl⟩
 have g6 : Blk w2 w1.heap.size #[.int .u64 (pl b 0), .int .u64 (pl b 1), .int .u64 (pl b 2), .int .u64 (pl b 3), .int .u64 (pl b 4), .int .u64 (pl b 5), .int .u64 (pl b 6), .int .u64 (pl b 7), .int .u8 0] 37 := by subst hw2; exact Blk.new _ _ _
 rw [← hw2] at hbb ⊢
 clear hw2 c0 l0
 have hs := g2.lt
 replace hB := bel_trans hB hbb
 replace g0 := g0.grow hbb
 replace g2 := g2.grow hbb
 clear hbb
 have c0 := g0.cell
 have l0 := g0.lt
 have c6 := g6.cell
 have l6 := g6.lt
 have r2 := g2.row
 have l2 := g2.lt
 have hne : w1.heap.size ≠ w.heap.size + 1 := by omega
 rw [← g2.rw]
 clear g2 g0 g6
 refine wp_loop_rounds 1 ?_
 rw [rounds_succ]
 go_wp2_with fail
 refine bodyPost_ret (by simp [results, Tryz.results105, go_sem, *]) rfl ⟨rfl, blw_row hB (by omega) _⟩
end Go.Proofs.YtccnkebkgegohaaGreatDoor
end
section
namespace Go.Proofs.YtccnkebkgegohaaGreatDoor
open Go.RowKit Go.Rel
set_option maxRecDepth 100000
/-! Run, of the reference: its loop -/
def runV : (Nat × Int) ⊕ Stn → Value
 | .inl x => .tuple #[.agg #[.int .u64 0, .int .u64 0, .int .u64 0, .int .u64 0, .int .u64 0, .int .u64 0, .int .u64 0, .int .u64 0, .int .u8 0], .int .i64 x.1, .int .i64 x.2]
 | .inr s => .tuple #[.agg #[.int .u64 (pl s.1 0), .int .u64 (pl s.1 1), .int .u64 (pl s.1 2), .int .u64 (pl s.1 3), .int .u64 (pl s.1 4), .int .u64 (pl s.1 5), .int .u64 (pl s.1 6), .int .u64 (pl s.1 7), .int .u8 s.2], .int .i64 0, .int .i64 0]
theorem run_at {l : List Sol} {b : Sol} {acts : List Ac} {j : Nat} {s : StB} {x : Ac} (hs : Tra.runO (stB l) (b, 0) (acts.take j) = some s) (hx : acts[j]? = some x) :
  (∀ t, stB l s x = some t → Tra.runO (stB l) (b, 0) (acts.take (j + 1)) = some t) ∧ (stB l s x = none → runM l 0 (b, 0) acts = .inl (j, nxtE l s x)) := by
 obtain ⟨hj, hx'⟩ := List.getElem?_eq_some_iff.1 hx
 constructor
 ·intro t ht
  rw [List.take_add_one, hx, Tra.runO_app, hs]
  simp [Tra.runO, ht]
 ·intro hn
  have e : acts = acts.take j ++ x :: acts.drop (j + 1) := by rw [← hx', List.getElem_cons_drop, List.take_append_drop]
  obtain ⟨ee, he⟩ := (next_B l s x).2 hn
  have hE : nxtE l s x = ee := by unfold nxtE; rw [he]
  rw [hE]
  have h1 := runM_split (v := x :: acts.drop (j + 1)) (k := 0) hs
  rw [← e] at h1
  have hl : (acts.take j).length = j := by rw [List.length_take]; omega
  rw [show ((b, 0) : Stn) = upI (b, 0) from rfl, h1, hl, runM, he, Nat.zero_add]
theorem nxtE_ne {l : List Sol} {s : StB} {x : Ac} (h : stB l s x = none) : (nxtE l s x != 0) = true := by
 obtain ⟨e, he⟩ := (next_B l s x).2 h
 unfold nxtE
 rw [he]
 simpa using nextM_bad he
set_option maxHeartbeats 16000000 in
theorem refRun_main (b : Sol) (p : Option Addr) (n c ab ao k d : Nat) (l : List Sol) (acts : List Ac) (w : World) (Hv : SlS w (.slice p n c) l) (hcs : Cells w ab ao 10 (acts.map acL)) (hk : acts.length = k) (h8 : l.length ≤ 8) (hkd : k ≤ d) (hd : d ≤ 9223372036854775807) (hk60 : k ≤ 60)
  (H : Hid (∀ w', Below w.heap.size w w' → Calls Tryz.prog 35 #[.agg #[.int .u64 (pl b 0), .int .u64 (pl b 1), .int .u64 (pl b 2), .int .u64 (pl b 3), .int .u64 (pl b 4), .int .u64 (pl b 5), .int .u64 (pl b 6), .int .u64 (pl b 7), .slice p n c]] w' fun e w'' => e = .returned (.int .i64 0) ∧ Below w'.heap.size w' w'')) :
  Calls Tryz.prog 105 #[.agg #[.int .u64 (pl b 0), .int .u64 (pl b 1), .int .u64 (pl b 2), .int .u64 (pl b 3), .int .u64 (pl b 4), .int .u64 (pl b 5), .int .u64 (pl b 6), .int .u64 (pl b 7), .slice p n c, .slice (some ⟨ab, ao, none⟩) k d]] w fun e w' => e = .returned (runV (runM l 0 (b, 0) acts)) ∧ Below w.heap.size w w' := by
 have HV := Lib.hid Hv; clear Hv
 have HCS := Lib.hid hcs
 have hab := hcs.1
 clear hcs
 have HK := Lib.hid hk; clear hk
 go_enter Tryz.func105, Tryz.ntmps105
 go_wp2_with fail
 refine (H.out _ bel_by).mono ?_
 rintro e w1 ⟨rfl, hb⟩
 have hB : Below w.heap.size w w1 := bel_trans bel_by hb
 have g0 : Blk w1 (w.heap.size) #[.int .u64 (pl b 0), .int .u64 (pl b 1), .int .u64 (pl b 2), .int .u64 (pl b 3), .int .u64 (pl b 4), .int .u64 (pl b 5), .int .u64 (pl b 6), .int .u64 (pl b 7), .slice p n c, .slice (some ⟨ab, ao, none⟩) k d] 30 := Blk.grow blk_by hb
 have g2 : Blk w1 (w.heap.size + 1) #[.int .u64 0, .int .u64 0, .int .u64 0, .int .u64 0, .int .u64 0, .int .u64 0, .int .u64 0, .int .u64 0, .int .u8 0] 37 := Blk.grow blk_by hb
 clear hb
 have c0 := g0.cell
 have l0 := g0.lt
 go_wp2_with fail
 have hbb : Below w1.heap.size w1 (w1.alloc (.cells (#[.int .u64 (pl b 0), .int .u64 (pl b 1), .int .u64 (pl b 2), .int .u64 (pl b 3), .int .u64 (pl b 4), .int .u64 (pl b 5), .int .u64 (pl b 6), .int .u64 (pl b 7), .int .u8 0] : Array Value) 37)) := bel_alloc (bel_refl _) _
 obtain ⟨w2, hw2⟩ : ∃ w2 : World, w2 = w1.alloc (.cells (#[.int .u64 (pl b 0), .int .u64 (pl b 1), .int .u64 (pl b 2), .int .u64 (pl b 3), .int .u64 (pl b 4), .int .u64 (pl b 5), .int .u64 (pl b 6), .int .u64 (pl b 7), .int .u8 0] : Array Value) 37) := ⟨_, rfl⟩
 have g6 : Blk w2 w1.heap.size #[.int .u64 (pl b 0), .int .u64 (pl b 1), .int .u64 (pl b 2), .int .u64 (pl b 3), .int .u64 (pl b 4), .int .u64 (pl b 5), .int .u64 (pl b 6), .int .u64 (pl b 7), .int .u8 0] 37 := by subst hw2; exact Blk.new _ _ _
 rw [← hw2] at hbb ⊢
 clear hw2 c0 l0
 have hs2 := g2.lt
 replace hB := bel_trans hB hbb
 replace g0 := g0.grow hbb
 replace g2 := g2.grow hbb
 clear hbb
 have hne6 : w.heap.size + 1 < w1.heap.size := by omega
 clear hs2
 generalize w1.heap.size = B6 at *
 go_loopw [7] (fun i wr => ∃ j : Nat, ∃ s : StB, j ≤ k ∧ i = .int .i64 j ∧ Hid (Tra.runO (stB l) (b, 0) (acts.take j) = some s) ∧ Blk wr w.heap.size #[.int .u64 (pl b 0), .int .u64 (pl b 1), .int .u64 (pl b 2), .int .u64 (pl b 3), .int .u64 (pl b 4), .int .u64 (pl b 5), .int .u64 (pl b 6), .int .u64 (pl b 7), .slice p n c, .slice (some ⟨ab, ao, none⟩) k d] 30 ∧ Blk wr (w.heap.size + 1) #[.int .u64 0, .int .u64 0, .int .u64 0, .int .u64 0, .int .u64 0, .int .u64 0, .int .u64 0, .int .u64 0, .int .u8 0] 37 ∧ Blk wr B6 #[.int .u64 (pl s.1 0), .int .u64 (pl s.1 1), .int .u64 (pl s.1 2), .int .u64 (pl s.1 3), .int .u64 (pl s.1 4), .int .u64 (pl s.1 5), .int .u64 (pl s.1 6), .int .u64 (pl s.1 7), .int .u8 ((s.2.toNat : Nat) : Int)] 37 ∧ Below w.heap.size w wr) (fun i _ => k - (intOf i).toNat)
 case atStart => exact ⟨0, (b, 0), Nat.zero_le _, rfl, rfl, g0, g2, g6, hB⟩
 case round =>
  clear g0 g2 g6 hB
  obtain ⟨j, s, hj, rfl, HS, g0, g2, g6, hB⟩ := hrel
  by_cases hlt : j < k
  ·have hx : acts[j]? = some (acts[j]'(by rw [HK.out]; exact hlt)) := by simp
   generalize acts[j]'(by rw [HK.out]; exact hlt) = x at hx
   have HX := Lib.hid hx; clear hx
   obtain ⟨T, hT⟩ : ∃ T, (stB l s x).getD s = T := ⟨_, rfl⟩
   have HT := Lib.hid hT; clear hT
   obtain ⟨E, hE⟩ : ∃ E, nxtE l s x = E := ⟨_, rfl⟩
   have HE := Lib.hid hE; clear hE
   have hxj : (x.1 : Nat) = x.1 := rfl
   have HN : Hid (∀ w', Below w.heap.size w w' → Calls Tryz.prog 154 #[.agg #[.int .u64 (pl b 0), .int .u64 (pl b 1), .int .u64 (pl b 2), .int .u64 (pl b 3), .int .u64 (pl b 4), .int .u64 (pl b 5), .int .u64 (pl b 6), .int .u64 (pl b 7), .slice p n c], .agg #[.int .u64 (pl s.1 0), .int .u64 (pl s.1 1), .int .u64 (pl s.1 2), .int .u64 (pl s.1 3), .int .u64 (pl s.1 4), .int .u64 (pl s.1 5), .int .u64 (pl s.1 6), .int .u64 (pl s.1 7), .int .u8 ((s.2.toNat : Nat) : Int)], .agg #[.int .u8 x.1, .int .i64 x.2.1, .int .u64 (pl x.2.2 0), .int .u64 (pl x.2.2 1), .int .u64 (pl x.2.2 2), .int .u64 (pl x.2.2 3), .int .u64 (pl x.2.2 4), .int .u64 (pl x.2.2 5), .int .u64 (pl x.2.2 6), .int .u64 (pl x.2.2 7)]] w' fun e w'' => e = .returned (.tuple #[.agg #[.int .u64 (pl T.1 0), .int .u64 (pl T.1 1), .int .u64 (pl T.1 2), .int .u64 (pl T.1 3), .int .u64 (pl T.1 4), .int .u64 (pl T.1 5), .int .u64 (pl T.1 6), .int .u64 (pl T.1 7), .int .u8 ((T.2.toNat : Nat) : Int)], .int .i64 E]) ∧ Below w'.heap.size w' w'') := by
    have h := fun w' (hw : Below w.heap.size w w') => refNext_spec b (.slice p n c) l x s w' (HV.out.mono hw) h8 T HT.out
    rw [HE.out] at h
    exact Lib.hid h
   clear hxj
   have c0 := g0.cell
   have l0 := g0.lt
   go_wp2_with fail
   clear c0 l0
   refine wp_region_val (Below wr.heap.size) (fun L vs W => I8 wr.heap.size #[.int .u64 (pl T.1 0), .int .u64 (pl T.1 1), .int .u64 (pl T.1 2), .int .u64 (pl T.1 3), .int .u64 (pl T.1 4), .int .u64 (pl T.1 5), .int .u64 (pl T.1 6), .int .u64 (pl T.1 7), .int .u8 ((T.2.toNat : Nat) : Int)] (L 12) (L 13) (vs 12) W) [Is (.pointer (some ⟨w.heap.size, 0, none⟩)), Is (.agg #[.int .u64 (pl b 0), .int .u64 (pl b 1), .int .u64 (pl b 2), .int .u64 (pl b 3), .int .u64 (pl b 4), .int .u64 (pl b 5), .int .u64 (pl b 6), .int .u64 (pl b 7), .slice p n c]), Is (.agg #[.int .u64 (pl s.1 0), .int .u64 (pl s.1 1), .int .u64 (pl s.1 2), .int .u64 (pl s.1 3), .int .u64 (pl s.1 4), .int .u64 (pl s.1 5), .int .u64 (pl s.1 6), .int .u64 (pl s.1 7), .int .u8 ((s.2.toNat : Nat) : Int)]), Is (.pointer (some ⟨w.heap.size, 9, none⟩)), Is (.slice (some ⟨ab, ao, none⟩) k d), Is (.int .i64 j), Is (.pointer (some ⟨ab, ao + j * 10, none⟩)), Is (.agg #[.int .u8 x.1, .int .i64 x.2.1, .int .u64 (pl x.2.2 0), .int .u64 (pl x.2.2 1), .int .u64 (pl x.2.2 2), .int .u64 (pl x.2.2 3), .int .u64 (pl x.2.2 4), .int .u64 (pl x.2.2 5), .int .u64 (pl x.2.2 6), .int .u64 (pl x.2.2 7)]), Is (.tuple #[.agg #[.int .u64 (pl T.1 0), .int .u64 (pl T.1 1), .int .u64 (pl T.1 2), .int .u64 (pl T.1 3), .int .u64 (pl T.1 4), .int .u64 (pl T.1 5), .int .u64 (pl T.1 6), .int .u64 (pl T.1 7), .int .u8 ((T.2.toNat : Nat) : Int)], .int .i64 E]), Is (.tuple #[.agg #[.int .u64 (pl T.1 0), .int .u64 (pl T.1 1), .int .u64 (pl T.1 2), .int .u64 (pl T.1 3), .int .u64 (pl T.1 4), .int .u64 (pl T.1 5), .int .u64 (pl T.1 6), .int .u64 (pl T.1 7), .int .u8 ((T.2.toNat : Nat) : Int)], .int .i64 E]), Is (.agg #[.int .u64 (pl T.1 0), .int .u64 (pl T.1 1), .int .u64 (pl T.1 2), .int .u64 (pl T.1 3), .int .u64 (pl T.1 4), .int .u64 (pl T.1 5), .int .u64 (pl T.1 6), .int .u64 (pl T.1 7), .int .u8 ((T.2.toNat : Nat) : Int)]), Is (.int .i64 E), AnyV, AnyV, Is (.int .i64 E)] (by kernel_rfl) (by kernel_rfl) rfl (Below.refl wr.heap.size) (fun _ _ _ => Below.trans) (stable_mem ⟨fun _ _ _ h _ => h, fun _ _ _ h _ => h, fun _ _ _ h _ => h, fun _ _ _ h _ => h, fun _ _ _ h _ => h, fun _ _ _ h _ => h, fun _ _ _ h _ => h, fun _ _ _ h _ => h, fun _ _ _ h _ => h, fun _ _ _ h _ => h, fun _ _ _ h _ => h, fun _ _ _ h _ => h, fun _ _ _ h _ => h, fun _ _ _ h _ => h, fun _ _ _ h _ => h, trivial⟩) wr (Below.drew (Below.refl _ _)) (fun e => by cases e) ?_
   refine val_cons ?_ (fun v0 => ?_)
   ·intro L vs w1 hvs hat hb hI hF; try simp [factsI, Region.binds, Is] at hF
    go_simp
    simp [upd]
    exact ⟨Below.refl _ _, hI⟩
   refine val_cons ?_ (fun v1 => ?_)
   ·intro L vs w1 hvs hat hb hI hF; try simp [factsI, Region.binds, Is] at hF
    have c0 := (g0.grow hb).cell
    go_simp
    simp [upd]
    exact ⟨Below.refl _ _, hI⟩
   refine val_cons ?_ (fun v2 => ?_)
   ·intro L vs w1 hvs hat hb hI hF; try simp [factsI, Region.binds, Is] at hF
    have c6 := (g6.grow hb).cell
    go_simp
    simp [upd]
    exact ⟨Below.refl _ _, hI⟩
   refine val_cons ?_ (fun v3 => ?_)
   ·intro L vs w1 hvs hat hb hI hF; try simp [factsI, Region.binds, Is] at hF
    go_simp
    simp [upd]
    exact ⟨Below.refl _ _, hI⟩
   refine val_cons ?_ (fun v4 => ?_)
   ·intro L vs w1 hvs hat hb hI hF; try simp [factsI, Region.binds, Is] at hF
    have c0 := (g0.grow hb).cell
    go_simp
    simp [upd]
    exact ⟨Below.refl _ _, hI⟩
   iterate 2 (refine val_cons ?_ (fun _ => ?_); · intro L vs w1 hvs hat hb hI hF; (try simp [factsI, Region.binds, Is] at hF); go_simp; simp [upd]; exact ⟨Below.refl _ _, hI⟩)
   refine val_cons ?_ (fun v7 => ?_)
   ·intro L vs w1 hvs hat hb hI hF; try simp [factsI, Region.binds, Is] at hF
    have hcc := ac_cells ((HCS.out.mono hB hab).mono hb (by have := hB.size; omega)) HX.out
    obtain ⟨a0, a1, a2, a3, a4, a5, a6, a7, a8, a9⟩ := hcc
    go_simp
    simp [upd]
    exact ⟨Below.refl _ _, hI⟩
   refine val_cons ?_ (fun v8 => ?_)
   ·intro L vs w1 hvs hat hb hI hF; try simp [factsI, Region.binds, Is] at hF
    have HI := Lib.hid hI
    have hbs := hb.size
    obtain ⟨rfl, rfl, rfl⟩ := hF
    clear hI
    go_simp
    refine (HN.out _ (hB.trans (hb.mono hB.size))).mono ?_
    rintro e w' ⟨rfl, hb'⟩
    exact ⟨_, rfl, hb'.mono hbs, by simpa [upd] using HI.out.grow hb', rfl⟩
   iterate 3 (refine val_cons ?_ (fun _ => ?_); · intro L vs w1 hvs hat hb hI hF; (try simp [factsI, Region.binds, Is] at hF); go_simp; simp [upd]; exact ⟨Below.refl _ _, hI⟩)
   refine val_cons ?_ (fun v12 => ?_)
   ·intro L vs w1 hvs hat hb hI hF; try simp [factsI, Region.binds, Is] at hF
    have h13 := hat.later 9 13 (by kernel_rfl)
    have hbs := hb.size
    go_simp
    simp [upd]
    exact ⟨(bel_alloc (bel_refl _) _).mono hb.size, I8.made hb.size, trivial⟩
   refine val_cons ?_ (fun v13 => ?_)
   ·intro L vs w1 hvs hat hb hI hF; try simp [factsI, Region.binds, Is] at hF
    have h12 := hat.ahead 9 12 (by kernel_rfl)
    have h13 := hat.self
    have hv12 : vs 12 = v12 := hvs 12 (by omega)
    have h10 := hF.2.1
    subst h10
    obtain ⟨kk, hkk, hBk, h0, _⟩ := hI h12
    have hbk := h0 h13
    rw [hv12] at hkk
    subst hkk
    have r0 := hbk.row
    have HW := Lib.hid hbk.rw
    have HBK := Lib.hid hbk
    rw [← HW.out]
    clear hF hI h0 hbk
    go_simp
    rw [HW.out]
    exact ⟨blw_row (Below.refl _ _) hBk _, fun _ => ⟨kk, hv12, hBk, fun e => (by cases e), fun _ => HBK.out.rowS _⟩, trivial⟩
   refine val_cons ?_ (fun v14 => ?_)
   ·intro L vs w1 hvs hat hb hI hF; try simp [factsI, Region.binds, Is] at hF
    go_simp
    simp [upd]
    exact ⟨Below.refl _ _, hI⟩
   refine val_nil ?_
   intro vs w1 hvs hb hI hF
   simp [Is, Nat.forall_lt_succ_right] at hF
   have e0 := hF.1.1.1.1.1.1.1.1.1.1.1.1.1.1
   have e1 := hF.1.1.1.1.1.1.1.1.1.1.1.1.1.2
   have e2 := hF.1.1.1.1.1.1.1.1.1.1.1.1.2
   have e3 := hF.1.1.1.1.1.1.1.1.1.1.1.2
   have e4 := hF.1.1.1.1.1.1.1.1.1.1.2
   have e5 := hF.1.1.1.1.1.1.1.1.1.2
   have e6 := hF.1.1.1.1.1.1.1.1.2
   have e7 := hF.1.1.1.1.1.1.1.2
   have e8 := hF.1.1.1.1.1.1.2
   have e9 := hF.1.1.1.1.1.2
   have e10 := hF.1.1.1.1.2
   have e11 := hF.1.1.1.2
   have e12 := hF.1.1.2
   have e13 := hF.1.2
   have e14 := hF.2
   clear hF
   simp only [Act.put, List.setIfInBounds_toArray, List.set_cons_succ, List.set_cons_zero, e0, e1, e2, e3, e4, e5, e6, e7, e8, e9, e10, e11, e14]
   clear e0 e1 e2 e3 e4 e5 e6 e7 e8 e9 e10 e11 e14
   have hv12 : vs 12 = v12 := hvs 12 (by omega)
   obtain ⟨kk, hkk, hBk, _, h1⟩ := hI rfl
   rw [hv12] at hkk
   subst hkk
   have g8 := h1 rfl
   have hs0 := hB.size
   have h6 : B6 < kk := Nat.lt_of_lt_of_le g6.lt hBk
   replace g0 := g0.grow hb
   replace g2 := g2.grow hb
   replace g6 := g6.grow hb
   replace hB := bel_trans hB hb
   clear h1 hI hvs hv12 hb e12 e13
   have c0 := g0.cell
   have l0 := g0.lt
   have c8 := g8.cell
   have l8 := g8.lt
   have l2 := g2.lt
   rcases hst : stB l s x with _ | t
   ·have hne : (E != 0) = true := by rw [← HE.out]; exact nxtE_ne hst
    have hR : runM l 0 (b, 0) acts = .inl (j, E) := by rw [← HE.out]; exact (run_at HS.out HX.out).2 hst
    have HR := Lib.hid hR
    have r2 := g2.row
    clear hR hst c0 l0 c8 l8
    rw [← g2.rw]
    clear g0 g2 g6 g8
    go_wp2_with fail
    have hv : .tuple #[.agg #[.int .u64 0, .int .u64 0, .int .u64 0, .int .u64 0, .int .u64 0, .int .u64 0, .int .u64 0, .int .u64 0, .int .u8 0], .int .i64 j, .int .i64 E] = runV (runM l 0 (b, 0) acts) := by rw [HR.out]; rfl
    refine bodyPost_ret (by simp [results, Tryz.results105, go_sem, *]) rfl ⟨congrArg Ending.returned hv, blw_row hB (by omega) _⟩
   ·have hz : E = 0 := by rw [← HE.out]; exact nxtE_some hst
    have hR : Tra.runO (stB l) (b, 0) (acts.take (j + 1)) = some t := (run_at HS.out HX.out).1 t hst
    have HR := Lib.hid hR
    have hT : T = t := by rw [← HT.out, hst]; rfl
    have r6 := g6.row
    have l6 := g6.lt
    have HG0 := Lib.hid g0
    have HG2 := Lib.hid g2
    have HG6 := Lib.hid g6
    have h68 : kk ≠ B6 := by omega
    clear hR hst c0 l0 HE HT
    subst hz hT
    rw [← g6.rw]
    clear g0 g2 g6 g8
    go_wp2_with fail
    refine ⟨⟨j + 1, T, by omega, by go_num, HR, HG0.out.rowO _ (by omega), HG2.out.rowO _ (by omega), HG6.out.rowS _, blw_row hB (by omega) _⟩, by simp [intOf]; omega⟩
  ·have hjk : j = k := by omega
   subst hjk
   have hR : runM l 0 (b, 0) acts = .inr (upI s) := by
    have h := HS.out
    rw [List.take_of_length_le (Nat.le_of_eq HK.out)] at h
    have h1 := runM_split (v := []) (k := 0) h
    rw [List.append_nil] at h1
    rw [show ((b, 0) : Stn) = upI (b, 0) from rfl, h1]
    rfl
   have HR := Lib.hid hR
   clear hR
   have c0 := g0.cell
   have l0 := g0.lt
   have c6 := g6.cell
   have l6 := g6.lt
   have r2 := g2.row
   have l2 := g2.lt
   have h26 : B6 ≠ w.heap.size + 1 := by omega
   rw [← g2.rw]
   clear g0 g2 g6
   go_wp2_with fail
   have hv : .tuple #[.agg #[.int .u64 (pl s.1 0), .int .u64 (pl s.1 1), .int .u64 (pl s.1 2), .int .u64 (pl s.1 3), .int .u64 (pl s.1 4), .int .u64 (pl s.1 5), .int .u64 (pl s.1 6), .int .u64 (pl s.1 7), .int .u8 ((s.2.toNat : Nat) : Int)], .int .i64 0, .int .i64 0] = runV (runM l 0 (b, 0) acts) := by rw [HR.out]; rfl
   refine bodyPost_ret (by simp [results, Tryz.results105, go_sem, *]) rfl ⟨congrArg Ending.returned hv, blw_row hB (by omega) _⟩
end Go.Proofs.YtccnkebkgegohaaGreatDoor
end
section
namespace Go.Proofs.YtccnkebkgegohaaGreatDoor
open Go.RowKit Go.Rel
set_option maxRecDepth 100000
/-! Run, Check and Stand, of the reference -/
theorem refRun_spec (b : Sol) (v av : Value) (l : List Sol) (acts : List Ac) (w : World) (Hv : SlS w v l) (Hav : SlA w av acts) :
  Calls Tryz.prog 105 #[.agg #[.int .u64 (pl b 0), .int .u64 (pl b 1), .int .u64 (pl b 2), .int .u64 (pl b 3), .int .u64 (pl b 4), .int .u64 (pl b 5), .int .u64 (pl b 6), .int .u64 (pl b 7), v, av]] w fun e w' => e = .returned (runV (begunM b l acts)) ∧ Below w.heap.size w w' := by
 have H35 := fun w' (hb : Below w.heap.size w w') => refCheckPattern_spec b v l w' (Hv.mono hb)
 unfold begunM
 by_cases hz : chkPat b l = 0
 ·rw [if_pos hz]
  rw [hz] at H35
  obtain ⟨q, d, rfl, hkd, hd, hcells⟩ := Hav
  rw [List.length_map] at *
  by_cases hn : acts.length ≤ 60
  ·rw [if_pos hn]
   cases acts with
   | nil => exact refRun_nil b v q d w (Lib.hid H35)
   | cons x xs =>
    rcases hcells with h | ⟨ab, ao, rfl, hcs⟩
    ·cases h
    ·obtain ⟨p, n, c, rfl, _⟩ := Hv.out
     exact refRun_main b p n c ab ao _ d l (x :: xs) w Hv hcs rfl (chkPat_ok hz) hkd hd hn (Lib.hid H35)
  ·rw [if_neg hn]
   exact refRun_long b v q acts.length d w (by omega) (Lib.hid H35)
 ·rw [if_neg hz]
  exact refRun_pat b v av w _ (by simpa using hz) (by simpa using hz) (Lib.hid H35)
def runT (r : (Nat × Int) ⊕ Stn) : Array Value := match r with
 | .inl _ => #[.int .u64 0, .int .u64 0, .int .u64 0, .int .u64 0, .int .u64 0, .int .u64 0, .int .u64 0, .int .u64 0, .int .u8 0]
 | .inr s => #[.int .u64 (pl s.1 0), .int .u64 (pl s.1 1), .int .u64 (pl s.1 2), .int .u64 (pl s.1 3), .int .u64 (pl s.1 4), .int .u64 (pl s.1 5), .int .u64 (pl s.1 6), .int .u64 (pl s.1 7), .int .u8 s.2]
theorem runV_at (b : Sol) (l : List Sol) (acts : List Ac) : ∃ T0 T1 T2 T3 T4 T5 T6 T7 T8 : Int, runT (begunM b l acts) = #[.int .u64 T0, .int .u64 T1, .int .u64 T2, .int .u64 T3, .int .u64 T4, .int .u64 T5, .int .u64 T6, .int .u64 T7, .int .u8 T8] ∧ runV (begunM b l acts) = .tuple #[.agg #[.int .u64 T0, .int .u64 T1, .int .u64 T2, .int .u64 T3, .int .u64 T4, .int .u64 T5, .int .u64 T6, .int .u64 T7, .int .u8 T8], .int .i64 (checkR b l acts).1, .int .i64 (checkR b l acts).2] := by
 unfold checkR
 cases begunM b l acts with
 | inl x => exact ⟨_, _, _, _, _, _, _, _, _, rfl, rfl⟩
 | inr s => exact ⟨_, _, _, _, _, _, _, _, _, rfl, rfl⟩
set_option maxHeartbeats 4000000 in
theorem refCheck_spec (b : Sol) (v av : Value) (l : List Sol) (acts : List Ac) (w : World) (Hv : SlS w v l) (Hav : SlA w av acts) :
  Calls Tryz.prog 38 #[.agg #[.int .u64 (pl b 0), .int .u64 (pl b 1), .int .u64 (pl b 2), .int .u64 (pl b 3), .int .u64 (pl b 4), .int .u64 (pl b 5), .int .u64 (pl b 6), .int .u64 (pl b 7), v, av]] w fun e w' => e = .returned (.tuple #[.int .i64 (checkR b l acts).1, .int .i64 (checkR b l acts).2]) ∧ Below w.heap.size w w' := by
 have key := fun w' (hb : Below w.heap.size w w') => refRun_spec b v av l acts w' (Hv.mono hb) (Hav.mono hb)
 obtain ⟨T0, T1, T2, T3, T4, T5, T6, T7, T8, _, hR⟩ := runV_at b l acts
 rw [hR] at key
 generalize checkR b l acts = x at key ⊢
 have H := Lib.hid key; clear key Hv Hav hR
 go_enter Tryz.func38, Tryz.ntmps38
 go_wp2_with fail
 refine (H.out _ bel_by).mono ?_
 rintro e w1 ⟨rfl, hb⟩
 go_wp2_with fail
 go_ret2
 exact ⟨rfl, bel_by⟩
end Go.Proofs.YtccnkebkgegohaaGreatDoor
end
section
namespace Go.Proofs.YtccnkebkgegohaaGreatDoor
open Go.RowKit Go.Rel
set_option maxRecDepth 100000
/-- a list of acts appended to a list of acts that is our own -/
theorem app_ac {base : Nat} {v u : Value} {xs ys : List Ac} {W : World} (hown : OwnA W base v xs) (hs : SlN W u ys) (hk : xs.length + ys.length ≤ 1048576) (hbase : base ≤ W.heap.size) :
  ∃ v' w', (Builtin.append_ #[28, 28] 28 #[v, u]).run Tryz.prog W = .ok v' w' ∧ OwnA w' base v' (xs ++ ys) ∧ W.grownBy w' v.ownBlock := by
 obtain ⟨i0, hi, hz0, hz1, hz2⟩ := info_parts info46
 rcases hs.opn with ⟨rfl, rfl⟩ | ⟨p, c, rfl, hc⟩
 ·have hr := run_append_owned_none (P := Tryz.prog) (w := W) base 28 28 46 i0 10 Tryz.underlying28 hi v xs.length _ hown
  exact ⟨v, W, hr, by rw [List.append_nil]; exact hown, ⟨rfl, rfl, rfl, Nat.le_refl _, fun _ _ _ => rfl⟩⟩
 ·have e : ((xs ++ ys).map acL).flatten = (xs.map acL).flatten ++ (ys.map acL).flatten := by simp
  obtain ⟨v', w', hr, ho, hgr, _⟩ := run_append_keep W base 28 28 46 i0 (.agg #[.int .u8 0, .int .i64 0, .int .u64 0, .int .u64 0, .int .u64 0, .int .u64 0, .int .u64 0, .int .u64 0, .int .u64 0, .int .u64 0]) 10 80 Tryz.underlying28 hi hz0 hz1 hz2 rfl (by decide) v xs.length _ hown p ys.length c ((ys.map acL).flatten) (acFlat_len ys) (hc W (Below.refl _ _)) one_ac (by unfold maxLen; omega) (by omega) hbase
  refine ⟨v', w', hr, ?_, hgr⟩
  unfold OwnA
  rw [List.length_append, e]
  exact ho
end Go.Proofs.YtccnkebkgegohaaGreatDoor
end
section
namespace Go.Proofs.YtccnkebkgegohaaGreatDoor
open Go.RowKit Go.Rel
set_option maxRecDepth 100000
/-! behind, of the reference -/
theorem step_append {P : Program} {ops : Array Oper} {R : World → World → Prop} {o : Oper} {a : Act} {φ : Value → World → Prop} {W w' : World} {x y : Operand} {t : TypeId} {v v7 v' : Value}
  (hgd : o.guard = none) (ho : o.op = .call { callee := .builtin .append, args := #[x, y], argTypes := #[t, t] }) (hs : a.eval x = v) (hx : a.eval y = v7)
  (hr : (Builtin.append_ #[t, t] o.type #[v, v7]).run P W = .ok v' w') (h : R W w' ∧ φ v' w') : Rel.step P ops R o a φ W := by
 unfold Rel.step
 have hw : Region.wanted o (yielded ops a.tmps) = true := by unfold Region.wanted; rw [hgd]
 rw [if_pos hw]
 unfold execOp
 simp only [ho, resolve, invoke, builtin, Sem.run_bind, Sem.run_pure, Result.andThen_ok, List.map_toArray, List.map_cons, List.map_nil, hs, hx, hr]
 exact h
def I9 (G : Nat) (c0 : Array Value) (f : Value → Array Value) (xs ys : List Ac) (a b c d e : Bool) (x y z r : Value) (W : World) : Prop := G + 1 ≤ W.heap.size ∧ (a = true → b = false → OwnA W (G + 1) x []) ∧ (b = true → c = false → OwnA W (G + 1) y xs) ∧ (c = true → OwnA W (G + 1) z (xs ++ ys)) ∧ (d = false → Blk W G c0 30) ∧ (d = true → Blk W G (f z) 30) ∧ (e = true → r = .agg (f z))
theorem own_rowO {G : Nat} {W : World} {v : Value} {xs : List Ac} (h : OwnA W (G + 1) v xs) (cs : Array Value) : OwnA (W.setRow G cs) (G + 1) v xs := by
 obtain ⟨hl, h | ⟨g, cap, cur, hv, hg, hh, hr⟩⟩ := h
 ·exact ⟨hl, .inl h⟩
 ·exact ⟨hl, .inr ⟨g, cap, cur, hv, hg, (setRow_other W G g cs (by omega)).trans hh, hr⟩⟩
end Go.Proofs.YtccnkebkgegohaaGreatDoor
end
section
namespace Go.Proofs.YtccnkebkgegohaaGreatDoor
open Go Go.Tra
/-! ### neighbours exchanged; projections -/
def swp (m : List Ac) (i : Nat) : List Ac := (m.set i (m.getD (i + 1) (0, 0, 0))).set (i + 1) (m.getD i (0, 0, 0))
theorem apart_dep {l : List Sol} {m : List Ac} (F : Fine l m) {x y : Ac} (hx : x ∈ m) : (!meetsB (acCells l x) (acCells l y)) = !depA l x y := by rw [depA_meets (F.ne x hx)]
/-- of a list only two acts, as the law keeps them -/
def prj (a b : Ac) (m : List Ac) : List Ac := m.filter fun x => !((!(x == a)) && (!(x == b)))
def freeOrSame (l : List Sol) (g h : List Ac) (a b : Ac) : Bool := !meetsB (acCells l a) (acCells l b) || (prj a b g == prj a b h)
end Go.Proofs.YtccnkebkgegohaaGreatDoor
end
section
-- mk: Trh
namespace Go.Proofs.YtccnkebkgegohaaGreatDoor
open Go Go.Tra
def atN (m : List Ac) (i : Nat) : Ac := m.getD i (0, 0, 0)
/-- the act with an index can be the first one -/
def freeL (l : List Sol) (m : List Ac) (i : Nat) : Bool := (m.take i).all fun z => !meetsB (acCells l z) (acCells l (atN m i))
end Go.Proofs.YtccnkebkgegohaaGreatDoor
end
