import Derived.Test.YtmngjhfhpldifaaDoorHL4
/-
  Given contracts of functions of the program, and laws for them, one behind the other.
-/
set_option linter.unusedVariables false
set_option linter.unusedSimpArgs false
set_option linter.unusedSectionVars false
section
namespace Go.Proofs.YtmngjhfhpldifaaDoor
open Go.RowKit Go.Rel Go.Draw
set_option maxRecDepth 100000
/-! turned -/
def turnK (mr : Bool) (s : Sol) (k : Nat) : Sol := (List.range k).foldl (fun out n => if s.getLsbD n then out ||| (1#512 <<< tau mr n) else out) 0
theorem turnK_succ (mr : Bool) (s : Sol) (k : Nat) : turnK mr s (k + 1) = if s.getLsbD k then turnK mr s k ||| (1#512 <<< tau mr k) else turnK mr s k := by
 unfold turnK; rw [List.range_succ, List.foldl_append]; rfl
theorem turnK_all (mr : Bool) (s : Sol) : turnK mr s 512 = turnS mr s := rfl
theorem turnK_zero (mr : Bool) (s : Sol) : turnK mr s 0 = 0 := rfl
theorem plv_one {z j k : Nat} (hz : z < 8) (hj : j < 64) (hk : k < 8) : plv (1#512 <<< (64 * z + j)) k = if k = z then bit j else 0#64 := by
 apply BitVec.eq_of_getLsbD_eq
 intro i hi
 unfold plv
 rw [BitVec.getLsbD_extractLsb', one_bit _ _ (by omega)]
 by_cases e : k = z
 ·subst e
  rw [if_pos rfl, bit_bit _ _ hj]
  simp [hi]
 ·rw [if_neg e]
  simp [show ¬ (64 * k + i = 64 * z + j) by omega]
theorem plv_bit (s : Sol) (z n : Nat) (hn : n < 64) : (plv s z).getLsbD n = s.getLsbD (64 * z + n) := by
 unfold plv; rw [BitVec.getLsbD_extractLsb']; simp [hn]
theorem word_or (T : Sol) {z j : Nat} (hz : z < 8) (hj : j < 64) : bits .or .u64 (pl T z) (uI (bit j)) = pl (T ||| 1#512 <<< (64 * z + j)) z := by
 rw [pl_uI, pl_uI, bits_or_u, plv_or, plv_one hz hj hz, if_pos rfl]
theorem word_else (T : Sol) {z j k : Nat} (hz : z < 8) (hj : j < 64) (hk : k < 8) (h : k ≠ z) : pl (T ||| 1#512 <<< (64 * z + j)) k = pl T k := by
 rw [pl_uI, pl_uI, plv_or, plv_one hz hj hk, if_neg h]
 congr 1
 simp
theorem word_set (T : Sol) {z j : Nat} (hz : z < 8) (hj : j < 64) : (mixA fun i => pl T i).setIfInBounds z (.int .u64 (pl (T ||| 1#512 <<< (64 * z + j)) z)) = mixA fun i => pl (T ||| 1#512 <<< (64 * z + j)) i := by
 rw [mixA_set _ hz]
 refine mixA_eq fun i hi => ?_
 by_cases e : i = z
 ·subst e; simp
 ·simp only [e, if_false]
  rw [word_else T hz hj hi e]
theorem word_test (s : Sol) (z n : Nat) (hn : n < 64) : (bits .and .u64 (pl s z / (2 : Int) ^ n) 1 == 0) = !s.getLsbD (64 * z + n) := by
 rw [pl_uI, bitAt_u, plv_bit _ _ _ hn]
def tauJ (mr : Bool) (n : Nat) : Nat := if mr then 8 * (n / 8) + 7 - n % 8 else 8 * (n % 8) + 7 - n / 8
theorem tauJ_lt (mr : Bool) {n : Nat} (hn : n < 64) : tauJ mr n < 64 := by unfold tauJ; split <;> omega
theorem tau_J (mr : Bool) {z n : Nat} (hn : n < 64) : tau mr (64 * z + n) = 64 * z + tauJ mr n := by
 unfold tau tauJ
 have e1 : (64 * z + n) / 64 = z := by omega
 have e2 : (64 * z + n) / 8 % 8 = n / 8 := by omega
 have e3 : (64 * z + n) % 8 = n % 8 := by omega
 rw [e1, e2, e3]
 split <;> omega
theorem wrapJ {x y j : Nat} (hx : x ≤ 7) (hy : y ≤ 7) (h : (8 : Int) * (x : Int) + 7 - (y : Int) = (j : Int)) : IntKind.i64.wrap (IntKind.i64.wrap (IntKind.i64.wrap (8 * (x : Int)) + 7) - (y : Int)) = (j : Int) := by
 have e1 : IntKind.i64.wrap (8 * (x : Int)) = 8 * (x : Int) := (Go.IntWalk.i64_left _).trans (Go.IntWalk.wrap64_in _ (by omega))
 have e2 : IntKind.i64.wrap (8 * (x : Int) + 7) = 8 * (x : Int) + 7 := (Go.IntWalk.i64_left _).trans (Go.IntWalk.wrap64_in _ (by omega))
 have e3 : IntKind.i64.wrap (8 * (x : Int) + 7 - (y : Int)) = 8 * (x : Int) + 7 - (y : Int) := (Go.IntWalk.i64_left _).trans (Go.IntWalk.wrap64_in _ (by omega))
 rw [e1, e2, e3, h]
set_option maxHeartbeats 8000000 in
theorem turned_spec {w : World} {s : Sol} (mr : Bool) : Calls Tryd.prog 21 #[solV s, .bool mr] w fun e w' => Below w.heap.size w w' ∧ e = .returned (solV (turnS mr s)) := by
 go_enter Tryd.func21, Tryd.ntmps21
 go_wp2_with fail
 obtain ⟨w1, hw1⟩ : ∃ w1, w1 = ((w.alloc (.cells #[.int .u64 (pl s 0), .int .u64 (pl s 1), .int .u64 (pl s 2), .int .u64 (pl s 3), .int .u64 (pl s 4), .int .u64 (pl s 5), .int .u64 (pl s 6), .int .u64 (pl s 7)] 41)).alloc (.cells #[.int .u64 0, .int .u64 0, .int .u64 0, .int .u64 0, .int .u64 0, .int .u64 0, .int .u64 0, .int .u64 0] 41)).alloc (.cells #[.int .u64 0, .int .u64 0, .int .u64 0, .int .u64 0, .int .u64 0, .int .u64 0, .int .u64 0, .int .u64 0] 41) := ⟨_, rfl⟩
 have b2 : Blk w1 w.heap.size #[.int .u64 (pl s 0), .int .u64 (pl s 1), .int .u64 (pl s 2), .int .u64 (pl s 3), .int .u64 (pl s 4), .int .u64 (pl s 5), .int .u64 (pl s 6), .int .u64 (pl s 7)] 41 := by subst hw1; exact (by repeat (first | with_reducible assumption | (refine Blk.at _ _ ?_; (simp; done)) | with_reducible refine Blk.alloc ?_ _ | with_reducible refine Blk.drew ?_ | with_reducible refine Blk.rowS ?_ _ | with_reducible refine Blk.rowO ?_ _ (by simp)))
 have b4 : Blk w1 (w.heap.size + 1) #[.int .u64 0, .int .u64 0, .int .u64 0, .int .u64 0, .int .u64 0, .int .u64 0, .int .u64 0, .int .u64 0] 41 := by subst hw1; exact (by repeat (first | with_reducible assumption | (refine Blk.at _ _ ?_; (simp; done)) | with_reducible refine Blk.alloc ?_ _ | with_reducible refine Blk.drew ?_ | with_reducible refine Blk.rowS ?_ _ | with_reducible refine Blk.rowO ?_ _ (by simp)))
 have b5 : Blk w1 (w.heap.size + 1 + 1) (mixA fun i => pl (turnK mr s 0) i) 41 := by
  have : Blk w1 (w.heap.size + 1 + 1) #[.int .u64 0, .int .u64 0, .int .u64 0, .int .u64 0, .int .u64 0, .int .u64 0, .int .u64 0, .int .u64 0] 41 := by subst hw1; exact Blk.at _ _ (by simp)
  simpa [turnK_zero, show ∀ k, pl (0#512) k = 0 from pl_zero] using this
 have hbel : Below w.heap.size w w1 := by subst hw1; exact (by repeat (first | with_reducible exact bel_refl _ | with_reducible assumption | with_reducible refine bel_drewN ?_ _ | with_reducible refine bel_drew ?_ | with_reducible refine bel_alloc ?_ _ | with_reducible refine bel_row ?_ ?_ _ | with_reducible refine bel_set ?_ ?_ _ | refine bel_trans ?_ (by with_reducible assumption) | (simp; done) | (simp; omega)))
 rw [← hw1]
 clear hw1
 have H1 := Lib.hid (And.intro b2 (And.intro b4 (And.intro b5 hbel)))
 clear b2 b4 b5 hbel
 go_loopw [6] (fun zv wx => ∃ z : Nat, z ≤ 8 ∧ zv = .int .i64 z ∧ Hid (Blk wx (w.heap.size + 1 + 1) (mixA fun i => pl (turnK mr s (64 * z)) i) 41 ∧ w1.grownBy wx (some (w.heap.size + 1 + 1)))) (fun zv _ => 8 - (intOf zv).toNat)
 case atStart => exact ⟨0, by omega, rfl, Lib.hid ⟨H1.out.2.2.1, gb_refl _ _⟩⟩
 case round =>
  obtain ⟨z, hz, rfl, HZ⟩ := hrel
  by_cases hz8 : z < 8
  ·have hd : decide ((z : Int) < 8) = true := decide_eq_true (by omega)
   go_wp2_with fail
   obtain ⟨wo, hwo⟩ : ∃ wo, wo = wr := ⟨_, rfl⟩
   subst hwo
   go_loopw [7] (fun nv wx => ∃ n : Nat, n ≤ 64 ∧ nv = .int .i64 n ∧ Hid (Blk wx (w.heap.size + 1 + 1) (mixA fun i => pl (turnK mr s (64 * z + n)) i) 41 ∧ w1.grownBy wx (some (w.heap.size + 1 + 1)))) (fun nv _ => 64 - (intOf nv).toNat)
   case atStart => exact ⟨0, by omega, rfl, Lib.hid HZ.out⟩
   case round =>
    obtain ⟨n, hn, rfl, HN⟩ := hrel
    by_cases hn64 : n < 64
    ·have hdn : decide ((n : Int) < 64) = true := decide_eq_true (by omega)
     have B2 := H1.out.1.gb HN.out.2 (by simp; omega)
     have c2 := (B2.cell z).trans (mixA_get (fun i => pl s i) hz8)
     have l2 := B2.lt
     have et := word_test s z n hn64
     clear B2
     cases hb : s.getLsbD (64 * z + n)
     ·rw [hb] at et
      have HB := Lib.hid hb; clear hb
      go_wp2_with fail
      refine ⟨⟨n + 1, by omega, by simp, Lib.hid ⟨?_, HN.out.2⟩⟩, by simp [intOf]; omega⟩
      rw [← Nat.add_assoc, turnK_succ, HB.out]
      exact HN.out.1
     ·rw [hb] at et
      have HB := Lib.hid hb; clear hb
      have hx7 : n % 8 ≤ 7 := by omega
      have hzI : (z : Int) < 8 := by omega
      have hy7 : n / 8 ≤ 7 := by omega
      have hJ := tauJ_lt mr hn64
      have c5 := (HN.out.1.drew.cell z).trans (mixA_get (fun i => pl (turnK mr s (64 * z + n)) i) hz8)
      have l5 := HN.out.1.drew.lt
      have f5 := HN.out.1.drew.free z
      have hse := turnK_succ mr s (64 * z + n)
      rw [HB.out, if_pos rfl, tau_J mr hn64] at hse
      have hw := word_or (turnK mr s (64 * z + n)) hz8 hJ
      have ep := pow_u (tauJ mr n) hJ
      have hset := (HN.out.1.drew).set z (.int .u64 (pl (turnK mr s (64 * z + n) ||| 1#512 <<< (64 * z + tauJ mr n)) z))
      rw [word_set _ hz8 hJ, ← hse] at hset
      rw [← hse] at hw
      have HS := Lib.hid (And.intro hset (gb_set (gb_drew HN.out.2) ⟨w.heap.size + 1 + 1, z, none⟩ rfl (.int .u64 (pl (turnK mr s (64 * z + n + 1)) z))))
      obtain ⟨T, hT⟩ : ∃ T, T = turnK mr s (64 * z + n) := ⟨_, rfl⟩
      obtain ⟨T', hT'⟩ : ∃ T, T = turnK mr s (64 * z + n + 1) := ⟨_, rfl⟩
      rw [← hT'] at hw HS
      rw [← hT] at hw c5
      have HTT := Lib.hid (And.intro hT hT')
      have hm8 : ((n : Int) % 8) = ((n % 8 : Nat) : Int) := by omega
      have hd8 : ((n : Int) / 8) = ((n / 8 : Nat) : Int) := by omega
      have HM8 := Lib.hid (And.intro hm8 hd8)
      clear hse hset hT hT' hm8 hd8
      obtain ⟨j, hj⟩ : ∃ j, j = tauJ mr n := ⟨_, rfl⟩
      rw [← hj] at hw ep hJ
      have em : min j 64 = j := Nat.min_eq_left (by omega)
      cases mr
      ·have hjj : ((8 : Int) * ((n % 8 : Nat) : Int) + 7 - ((n / 8 : Nat) : Int)) = (j : Int) := by rw [hj]; unfold tauJ; simp; omega
       clear hj
       go_wp2_with fail
       rw [HM8.out.1, HM8.out.2]
       obtain ⟨x, hx⟩ : ∃ x, x = n % 8 := ⟨_, rfl⟩
       obtain ⟨y, hy⟩ : ∃ y, y = n / 8 := ⟨_, rfl⟩
       rw [← hx, ← hy] at hjj ⊢
       rw [← hx] at hx7
       rw [← hy] at hy7
       have hjw : IntKind.i64.wrap (IntKind.i64.wrap (IntKind.i64.wrap (8 * (x : Int)) + 7) - (y : Int)) = (j : Int) := wrapJ (by omega) (by omega) hjj
       clear hx hy HM8
       refine Go.Rel.region_still_tail 11 (by kernel_rfl) (by kernel_rfl) ?_
       simp only [List.take_succ_cons, List.take_zero, List.drop_succ_cons, List.drop_zero]
       iterate 11 (with_reducible refine wpStill_yes (by kernel_rfl) (fun K hK => ?_); go_simp; refine hK _ ?_; clear hK K)
       refine wpStill_nil ?_
       go_wp2_with fail
       refine ⟨⟨n + 1, by omega, by simp, Lib.hid ⟨?_, HS.out.2⟩⟩, by simp [intOf]; omega⟩
       rw [← Nat.add_assoc, ← HTT.out.2]
       exact HS.out.1
      ·have hjj : ((8 : Int) * ((n / 8 : Nat) : Int) + 7 - ((n % 8 : Nat) : Int)) = (j : Int) := by rw [hj]; unfold tauJ; simp; omega
       clear hj
       go_wp2_with fail
       rw [HM8.out.1, HM8.out.2]
       obtain ⟨x, hx⟩ : ∃ x, x = n % 8 := ⟨_, rfl⟩
       obtain ⟨y, hy⟩ : ∃ y, y = n / 8 := ⟨_, rfl⟩
       rw [← hx, ← hy] at hjj ⊢
       rw [← hx] at hx7
       rw [← hy] at hy7
       have hjw : IntKind.i64.wrap (IntKind.i64.wrap (IntKind.i64.wrap (8 * (y : Int)) + 7) - (x : Int)) = (j : Int) := wrapJ (by omega) (by omega) hjj
       clear hx hy HM8
       refine Go.Rel.region_still_tail 11 (by kernel_rfl) (by kernel_rfl) ?_
       simp only [List.take_succ_cons, List.take_zero, List.drop_succ_cons, List.drop_zero]
       iterate 11 (with_reducible refine wpStill_yes (by kernel_rfl) (fun K hK => ?_); go_simp; refine hK _ ?_; clear hK K)
       refine wpStill_nil ?_
       go_wp2_with fail
       refine ⟨⟨n + 1, by omega, by simp, Lib.hid ⟨?_, HS.out.2⟩⟩, by simp [intOf]; omega⟩
       rw [← Nat.add_assoc, ← HTT.out.2]
       exact HS.out.1
    ·obtain rfl : n = 64 := by omega
     go_wp2_with fail
     exact ⟨⟨z + 1, by omega, by simp, Lib.hid HN.out⟩, by simp [intOf]; omega⟩
  ·obtain rfl : z = 8 := by omega
   have b2 := H1.out.2.1.gb HZ.out.2 (by simp)
   have h5 := HZ.out.1
   rw [show 64 * 8 = 512 from rfl, turnK_all] at h5
   have hbw := H1.out.2.2.2.grown HZ.out.2 (by have := H1.out.2.2.2.size; omega) (fun j e => by cases e; omega)
   have c5 := (h5.rowO (g := w.heap.size + 1) #[.int .u64 0, .int .u64 0, .int .u64 0, .int .u64 0, .int .u64 0, .int .u64 0, .int .u64 0, .int .u64 0] (by omega)).cell
   have l5 := h5.lt
   have r2 := b2.row; have l2 := b2.lt
   have HE := Lib.hid (And.intro b2 hbw)
   rw [← b2.rw]
   clear b2 h5 hbw
   go_wp2_with fail
   have hfin := HE.out.1.rowS #[.int .u64 (pl (turnS mr s) 0), .int .u64 (pl (turnS mr s) 1), .int .u64 (pl (turnS mr s) 2), .int .u64 (pl (turnS mr s) 3), .int .u64 (pl (turnS mr s) 4), .int .u64 (pl (turnS mr s) 5), .int .u64 (pl (turnS mr s) 6), .int .u64 (pl (turnS mr s) 7)]
   have hbl := blw_row HE.out.2 (show w.heap.size ≤ w.heap.size + 1 by omega) #[.int .u64 (pl (turnS mr s) 0), .int .u64 (pl (turnS mr s) 1), .int .u64 (pl (turnS mr s) 2), .int .u64 (pl (turnS mr s) 3), .int .u64 (pl (turnS mr s) 4), .int .u64 (pl (turnS mr s) 5), .int .u64 (pl (turnS mr s) 6), .int .u64 (pl (turnS mr s) 7)]
   refine bodyPost_ret (v := solV (turnS mr s)) (results_cell_row rfl _ _ (w.heap.size + 1) _ _ _ _ rfl hfin Tryd.underlying41 rfl (by kernel_rfl)) rfl ?_
   exact ⟨hbl, rfl⟩
end Go.Proofs.YtmngjhfhpldifaaDoor
end
section
namespace Go.Proofs.YtmngjhfhpldifaaDoor
open Go.RowKit Go.Rel Go.Draw
set_option maxRecDepth 100000
/-! DrawTurned -/
abbrev OwnS (W : World) (base : Nat) (v : Value) (l : List Sol) : Prop := W.ownsRow base 41 8 v l.length (l.map solL).flatten
theorem OwnS.sl {W : World} {base : Nat} {v : Value} {l : List Sol} (h : OwnS W base v l) : SlS W v l :=
 own_sl (fun r hr => by obtain ⟨i, _, rfl⟩ := List.mem_map.1 hr; rfl) rfl (by rw [List.length_map]; exact h)
theorem sols_open {w : World} {v : Value} {l : List Sol} (h : SlS w v l) : ∃ b cc, v = .slice b l.length cc ∧ ∀ (k : Nat) (s : Sol), l[k]? = some s → ∃ ib io, b = some ⟨ib, io, none⟩ ∧ ib < w.heap.size ∧ Cells w ib io 8 (l.map solL) := by
 rcases h.cases with ⟨hz, a, c, rfl, hc⟩ | ⟨ib, io, c, hv, hq1, hq2, _, hcs⟩
 ·have : l = [] := by simpa using hz
  subst this
  exact ⟨_, _, rfl, fun k s hk => by simp at hk⟩
 ·rw [List.length_map] at hv
  exact ⟨_, _, hv, fun k s _ => ⟨ib, io, rfl, hcs.1, hcs⟩⟩
theorem turn_errM (mr : Bool) (m : List Sol) : errM (m.map (turnS mr)) = errM m := by unfold errM; rw [List.length_map, turn_good]
theorem turn_askE (mr : Bool) (m : List Sol) (set : List Int) : askE (m.map (turnS mr)) set [] = askE m set [] := by
 unfold askE; rw [turn_errM, List.length_map]
theorem own_snocS {W : World} {base : Nat} {v : Value} {l : List Sol} {x : Sol} (h : W.ownsRow base 41 8 v (l.length + 1) ((l.map solL).flatten ++ solL x)) : OwnS W base v (l ++ [x]) := by
 unfold OwnS
 rw [List.length_append, List.map_append, List.flatten_append]
 simpa using h
set_option maxHeartbeats 16000000 in
theorem DrawTurned_walk {W : World} {v gv : Value} {m : List Sol} {g : List Int} {mr : Bool} (H : SlS W v m) (HG : SlI W gv g) (hT : Tab W) : Calls Tryd.prog 5 #[v, gv, .bool mr] W fun e w' => e = .returned (.bool true) ∧ Below W.heap.size W w' := by
 obtain ⟨i0, hi, hz0, hz1, hz2⟩ := info_parts infoSolid
 have HI0 := Lib.hid (And.intro hi (And.intro hz0 (And.intro hz1 hz2))); clear hi hz0 hz1 hz2
 have HF := Lib.hid (few_spec 6 H)
 obtain ⟨bv, cv, rfl, hcl⟩ := sols_open H
 obtain ⟨pg, cg, rfl, hmg, -⟩ := ints_open HG
 have hb1 : Below W.heap.size W (W.alloc (.cells #[.slice pg g.length cg] 23)) := bel_alloc (bel_refl W) _
 have HSh := Lib.hid (short_spec (lit_one (Blk.new W #[.slice pg g.length cg] 23) (HG.mono hb1)))
 have HH := Lib.hid (And.intro H (And.intro HG (And.intro hT hcl)))
 have HC := Lib.hid (cast_spec hT)
 have HC1 := Lib.hid (cast_spec (hT.grow hb1))
 have HB1 := Lib.hid hb1
 clear H HG hT hb1 hcl
 by_cases hfew : (m.length : Int) ≤ 6 ∨ 12 < m.length ∧ m.length ≤ 15
 ·rw [few_ok hfew] at HF
  have hm15 : m.length ≤ 15 := by omega
  clear hfew
  cases hsh : ([g].all fun q => decide (q.length ≤ 20))
  ·rw [hsh] at HSh
   clear hsh
   go_enter Tryd.func5, Tryd.ntmps5
   go_wp2_with fail
   refine HF.out.mono ?_
   rintro e w1 ⟨rfl, hw1⟩
   have hw2 := hw1.symm
   subst hw2
   clear hw1
   go_wp2_with fail
   refine HSh.out.mono ?_
   rintro e w1 ⟨rfl, hw1⟩
   subst hw1
   go_wp2_with fail
   refine HC1.out.mono ?_
   rintro e w4 ⟨rfl, hb4⟩
   have H4 := Lib.hid hb4; clear hb4
   go_wp2_with fail
   go_ret
   exact ⟨rfl, bel_trans HB1.out H4.out⟩
  ·rw [hsh] at HSh
   clear hsh
   go_enter Tryd.func5, Tryd.ntmps5
   go_wp2_with fail
   refine HF.out.mono ?_
   rintro e w1 ⟨rfl, hw1⟩
   have hw2 := hw1.symm
   subst hw2
   clear hw1
   go_wp2_with fail
   refine HSh.out.mono ?_
   rintro e w1 ⟨rfl, hw1⟩
   have HB1' : Hid (Below W.heap.size W w1) := Lib.hid (by rw [hw1]; exact HB1.out)
   clear hw1 HB1 HC HC1 HSh
   go_wp2_with fail
   go_loopw [7, 8] (fun tv iv wx => ∃ i : Nat, i ≤ m.length ∧ iv = .int .i64 i ∧ Hid (OwnS wx W.heap.size tv ((m.take i).map (turnS mr)) ∧ Below W.heap.size W wx)) (fun _ iv _ => m.length - (intOf iv).toNat)
   case atStart => exact ⟨0, Nat.zero_le _, rfl, Lib.hid ⟨World.ownsRow_nil _ _ _ _, HB1'.out⟩⟩
   case round =>
    obtain ⟨i, hi, rfl, HI⟩ := hrel
    by_cases hlt : i < m.length
    ·have hdl : decide ((i : Int) < (m.length : Int)) = true := decide_eq_true (by omega)
     obtain ⟨s, hs⟩ : ∃ s, m[i]? = some s := ⟨_, List.getElem?_eq_getElem hlt⟩
     obtain ⟨ib, io, rfl, lib, hcs⟩ := HH.out.2.2.2 i s hs
     obtain ⟨c0, c1, c2, c3, c4, c5, c6, c7⟩ := sol_cells (hcs.mono HI.out.2 lib) hs
     have l1 : ib < wr.heap.size := Nat.lt_of_lt_of_le lib HI.out.2.size
     have htk : (m.take (i + 1)).map (turnS mr) = (m.take i).map (turnS mr) ++ [turnS mr s] := by rw [List.take_add_one, hs]; simp
     have HT := Lib.hid (And.intro htk lib)
     have HTu := Lib.hid (turned_spec (w := wr) (s := s) mr)
     clear hs hcs lib htk
     go_wp2_with fail
     refine HTu.out.mono ?_
     rintro e w6 ⟨hb6, rfl⟩
     have hb66 : Below W.heap.size wr w6 := hb6.mono HI.out.2.size
     have hO6 : OwnS w6 W.heap.size u7 ((m.take i).map (turnS mr)) := HI.out.1.kept (gb_below (gb_refl wr none) hb6) (by cases hv : u7.ownBlock <;> simp)
     have hbW6 := bel_trans HI.out.2 hb6
     have hbs := hbW6.size
     have hx := hO6
     unfold OwnS at hx
     rw [List.length_map, List.length_take, Nat.min_eq_left hi] at hx
     obtain ⟨x, hxx⟩ : ∃ x, x = turnS mr s := ⟨_, rfl⟩
     rw [← hxx]
     obtain ⟨p6, n6, c6', hu6⟩ := own_shapeN hx
     subst hu6
     have HO := Lib.hid hx
     have HX := Lib.hid (And.intro hbW6 hxx); clear hx hO6 hbW6 hxx hb66 hb6 c0 c1 c2 c3 c4 c5 c6 c7
     go_wp2_with (first
      | (at_builtin; refine wpList_append_own _ rfl _ _ 22 rfl W.heap.size 41 i0 _ 8 64 Tryd.underlying22 HI0.out.1 HI0.out.2.1 HI0.out.2.2.1 HI0.out.2.2.2 rfl (by decide) _ _ _ rfl (HO.out.alloc _) ⟨w6.heap.size, 0, none⟩ 1 1 (solL x) rfl rfl (blk_news (Blk.new w6 _ 41)) (fun y hy => by simp [solL] at hy; rcases hy with rfl | rfl | rfl | rfl | rfl | rfl | rfl | rfl <;> rfl) (by unfold maxLen; omega) (by omega) (by simp; omega) ?_; intro v' w7 hown' hgrow7 hnil7))
     have hb7 : Below W.heap.size w6 w7 := ((bel_alloc (bel_refl w6) (.cells #[.int .u64 (pl x 0), .int .u64 (pl x 1), .int .u64 (pl x 2), .int .u64 (pl x 3), .int .u64 (pl x 4), .int .u64 (pl x 5), .int .u64 (pl x 6), .int .u64 (pl x 7)] 41)).mono hbs).grown hgrow7 (by simp; omega) (fun j hj => ((HO.out.alloc (.cells #[.int .u64 (pl x 0), .int .u64 (pl x 1), .int .u64 (pl x 2), .int .u64 (pl x 3), .int .u64 (pl x 4), .int .u64 (pl x 5), .int .u64 (pl x 6), .int .u64 (pl x 7)] 41)).lt j hj).1)
     refine ⟨⟨i + 1, by omega, by simp, Lib.hid ⟨?_, HX.out.1.trans hb7⟩⟩, by simp [intOf]; omega⟩
     rw [HT.out.1, ← HX.out.2]
     refine own_snocS ?_
     rw [List.length_map, List.length_take, Nat.min_eq_left hi]
     exact hown'
    ·obtain rfl : i = m.length := by omega
     have hO := HI.out.1
     rw [List.take_length] at hO
     have hS2 := OwnS.sl hO
     have HR := Lib.hid (And.intro hS2 HI.out.2)
     clear hO hS2
     have hE2 := turn_errM mr m
     have hA2 := turn_askE mr m g
     have hL2 : (m.map (turnS mr)).length = m.length := List.length_map ..
     obtain ⟨m2, hm2⟩ : ∃ m2, m2 = m.map (turnS mr) := ⟨_, rfl⟩
     rw [← hm2] at HR hE2 hA2 hL2
     have HM := Lib.hid (And.intro hE2 (And.intro hA2 (And.intro hL2 hm2)))
     clear hE2 hA2 hL2 hm2
     go_wp2_with fail
     have hbr := HR.out.2
     refine (First_spec (HH.out.1.mono hbr) (HH.out.2.1.mono hbr) (HH.out.2.2.1.grow hbr)).mono ?_
     rintro e w2 ⟨hb2, f1, rfl, h1z, h1n⟩
     have H2 := Lib.hid (And.intro (bel_trans hbr hb2) (And.intro hb2 (And.intro h1z h1n))); clear hb2 h1z h1n hbr
     go_wp2_with fail
     refine (First_spec (HR.out.1.mono H2.out.2.1) (HH.out.2.1.mono H2.out.1) (HH.out.2.2.1.grow H2.out.1)).mono ?_
     rintro e w3 ⟨hb3, f2, rfl, h2z, h2n⟩
     rw [HM.out.2.1, HM.out.2.2.1] at h2z
     rw [HM.out.2.1] at h2n ⊢
     have hff : f2 = f1 := by
      by_cases h0 : askE m g [] = 0
      ·obtain ⟨G, hG, rfl⟩ := H2.out.2.2.1 h0
       obtain ⟨G2, hG2, rfl⟩ := h2z h0
       have hm12 : m.length ≤ 12 := by
        unfold askE at h0
        split at h0
        ·rename_i h; exact absurd h0 h
        ·rename_i h; exact (errM_zero.1 (by simpa using h)).1
       cases (hG2.symm.trans hG)
       rw [HM.out.2.2.2]
       exact turn_first mr m hm12 G (setI_sub hm12 hG)
      ·rw [H2.out.2.2.2 h0, h2n h0]
     subst hff
     have H3 := Lib.hid (And.intro (bel_trans H2.out.1 hb3) (bel_trans H2.out.2.1 hb3)); clear hb3 h2z h2n
     obtain ⟨x, hx⟩ : ∃ x, x = askE m g [] := ⟨_, rfl⟩
     rw [← hx]
     clear hx H2
     go_wp2_with fail
     refine (Orders_spec (HH.out.1.mono H3.out.1) (HH.out.2.2.1.grow H3.out.1)).mono ?_
     rintro e w4 ⟨hb4, n1, rfl, h1z, h1n⟩
     have H4 := Lib.hid (And.intro (bel_trans H3.out.1 hb4) (And.intro (bel_trans H3.out.2 hb4) (And.intro h1z h1n))); clear hb4 h1z h1n
     go_wp2_with fail
     refine (Orders_spec (HR.out.1.mono H4.out.2.1) (HH.out.2.2.1.grow H4.out.1)).mono ?_
     rintro e w5 ⟨hb5, n2, rfl, h2z, h2n⟩
     rw [HM.out.1] at h2z h2n ⊢
     have hnn : n2 = n1 := by
      by_cases h0 : errM m = 0
      ·rw [H4.out.2.2.1 h0, h2z h0, HM.out.2.2.2]
       exact turn_orders mr m (errM_zero.1 h0).1
      ·rw [H4.out.2.2.2 h0, h2n h0]
     subst hnn
     have H5 := Lib.hid (bel_trans H4.out.1 hb5); clear hb5 h2z h2n
     obtain ⟨y, hy⟩ : ∃ y, y = errM m := ⟨_, rfl⟩
     rw [← hy]
     clear hy H4
     have HC5 := Lib.hid (cast_spec (HH.out.2.2.1.grow H5.out))
     have e1 : (x == x) = true := by simp
     have e2 : (y == y) = true := by simp
     have e3 : (f2 == f2) = true := by simp
     have e4 : ((n2 : Int) == (n2 : Int)) = true := by simp
     go_wp2_with fail
     refine HC5.out.mono ?_
     rintro e w8 ⟨rfl, hb8⟩
     have H8 := Lib.hid hb8; clear hb8
     go_wp2_with fail
     go_ret
     exact ⟨rfl, bel_trans H5.out H8.out⟩
 ·rw [few_bad hfew] at HF
  clear hfew
  go_enter Tryd.func5, Tryd.ntmps5
  go_wp2_with fail
  refine HF.out.mono ?_
  rintro e w1 ⟨rfl, hw1⟩
  have hw2 := hw1.symm
  subst hw2
  clear hw1
  go_wp2_with fail
  refine HC.out.mono ?_
  rintro e w4 ⟨rfl, hb4⟩
  have H4 := Lib.hid hb4; clear hb4
  go_wp2_with fail
  go_ret
  exact ⟨rfl, H4.out⟩
end Go.Proofs.YtmngjhfhpldifaaDoor
end
