import Derived.Test.YtkfimbonmnoglaaGreatDoorB22
import Derived.Deep.Cut
import Derived.Maps.OwnSet
import Derived.Maps.Views
import Derived.DeepKeys4
import Derived.Sort.CutIn
/-
  Given contracts of functions of the program, and laws for them, one behind the other.
-/
set_option linter.unusedVariables false
set_option linter.unusedSimpArgs false
set_option linter.unusedSectionVars false
section
namespace Go.Proofs.YtkfimbonmnoglaaGreatDoor
open Go.RowKit Go.Rel Go.Draw Go.Solid
set_option maxRecDepth 100000
theorem ptLaid : laidOutB Tryz.prog = true := by kernel_rfl
theorem ptRow : 60 < Tryz.prog.types.size := by decide +kernel
theorem ptKey : Maps.Keyed Tryz.prog 60 := Maps.Keyed.of_law (deep_law_laid ptLaid (m := 2) (by omega) ptRow (by kernel_rfl) (by kernel_rfl))
theorem ptT : Tryz.prog.underlying 97 = some (.map 60 4) := by kernel_rfl
theorem ptZ (w : World) : (zeroValue 4).run Tryz.prog w = .ok (.bool false) w := by kernel_rfl
def booR : Value → Option (DataW Unit × List MemPlace)
 | .bool b => some (.lit (.bool b), [])
 | _ => none
theorem booR_mk (b : Bool) : booR (.bool b) = some (.lit (.bool b), []) := rfl
theorem booR_inv {v : Value} {b : Bool} {ps : List MemPlace} (h : booR v = some (.lit (.bool b), ps)) : v = .bool b := by
 unfold booR at h
 split at h
 ·next a =>
  simp only [Option.some.injEq, Prod.mk.injEq, DataW.lit.injEq, Lit.bool.injEq] at h
  rw [h.1]
 ·cases h
abbrev ptN (p : Nat × Nat × Nat) : Cl := ((p.1 : Int), (p.2.1 : Int), (p.2.2 : Int))
theorem pt_keys : ((List.range 17).all fun x => (List.range 17).all fun y => (List.range 17).all fun z => (keyOf Tryz.prog 60 (clV (ptN (x, y, z)))).isSome) = true := by decide +kernel
def ptB (c : Cl) : Prop := 0 ≤ c.1 ∧ c.1 ≤ 16 ∧ 0 ≤ c.2.1 ∧ c.2.1 ≤ 16 ∧ 0 ≤ c.2.2 ∧ c.2.2 ≤ 16
theorem pt_key {c : Cl} (h : ptB c) : (keyOf Tryz.prog 60 (clV c)).isSome = true := by
 obtain ⟨x, y, z⟩ := c
 obtain ⟨h1, h2, h3, h4, h5, h6⟩ := h
 simp only at h1 h2 h3 h4 h5 h6
 obtain ⟨a, rfl⟩ := Int.eq_ofNat_of_zero_le h1
 obtain ⟨b, rfl⟩ := Int.eq_ofNat_of_zero_le h3
 obtain ⟨d, rfl⟩ := Int.eq_ofNat_of_zero_le h5
 have k := List.all_eq_true.1 pt_keys a (List.mem_range.2 (by omega))
 have k2 := List.all_eq_true.1 k b (List.mem_range.2 (by omega))
 exact List.all_eq_true.1 k2 d (List.mem_range.2 (by omega))
noncomputable def ptL (c : Cl) : Lit := (keyOf Tryz.prog 60 (clV c)).getD (.bool false)
theorem ptL_is {c : Cl} (h : ptB c) : keyOf Tryz.prog 60 (clV c) = some (ptL c) := by
 obtain ⟨l, hl⟩ := Option.isSome_iff_exists.1 (pt_key h)
 unfold ptL; rw [hl]; rfl
theorem clV_inj {x y : Cl} (h : clV x = clV y) : x = y := by
 simp only [clV, Value.agg.injEq, Array.mk.injEq, List.cons.injEq, Value.int.injEq, true_and, and_true] at h
 obtain ⟨a, b, c⟩ := x
 obtain ⟨a', b', c'⟩ := y
 simp only at h
 rw [h.1, h.2.1, h.2.2]
theorem ptL_inj {x y : Cl} (hx : ptB x) (hy : ptB y) (h : ptL x = ptL y) : x = y := clV_inj (ptKey.inj (ptL_is hx) (by rw [h]; exact ptL_is hy))
def Seen (w : World) (mb : Nat) (l : List Cl) : Prop :=
 ∃ D, w.ownsMap Tryz.prog 60 booR mb (Maps.size D) D ∧ Maps.size D ≤ l.length ∧ ∀ c, ptB c → D.atKey (ptL c) (.lit (.bool false)) = .lit (.bool (decide (c ∈ l)))
theorem Seen.made (w : World) : Seen (w.alloc (.map #[] 0)) w.heap.size [] :=
 ⟨.map [], World.ownsMap_made _ _ _ _, Nat.zero_le _, fun c _ => rfl⟩
theorem Seen.kept {w w' : World} {mb : Nat} {l : List Cl} {row : Option Nat} (h : Seen w mb l) (hg : w.grownBy w' row) (hne : some mb ≠ row) : Seen w' mb l := by
 obtain ⟨D, h1, h2, h3⟩ := h
 exact ⟨D, h1.kept hg hne, h2, h3⟩
theorem Seen.lt {w : World} {mb : Nat} {l : List Cl} (h : Seen w mb l) : mb < w.heap.size := by
 obtain ⟨D, h1, _⟩ := h
 exact h1.lt
theorem Seen.look {w : World} {mb : Nat} {l : List Cl} (h : Seen w mb l) {c : Cl} (hc : ptB c) :
  (Instr.lookup 97 (.map (some mb)) (clV c) false).run Tryz.prog w = .ok (.bool (decide (c ∈ l))) w := by
 obtain ⟨D, h1, _, h3⟩ := h
 obtain ⟨v, ps, hrun, hv⟩ := h1.lookup ptKey ptT (ptZ w) (booR_mk false) (ptL_is hc)
 rw [h3 c hc] at hv
 have := booR_inv hv
 subst this
 exact hrun
theorem ownsMap_size {w : World} {P : Program} {k : TypeId} {R : Value → Option (DataW Unit × List MemPlace)} {b n : Nat} {D : DataW Unit} (h : w.ownsMap P k R b n D) : w.ownsMap P k R b (Maps.size D) D := by
 obtain ⟨es, clock, hb, F, _, rfl⟩ := h
 exact ⟨es, clock, hb, F, by simp [Maps.size, Go.length_sorted], rfl⟩
theorem Seen.put {w : World} {mb : Nat} {l : List Cl} (h : Seen w mb l) (hl : l.length ≤ 1000000) {c : Cl} (hc : ptB c) : ∃ w', (Instr.mapUpdate 97 (.map (some mb)) (clV c) (.bool true)).run Tryz.prog w = .ok () w' ∧ Seen w' mb (l ++ [c]) ∧ w.grownBy w' (some mb) := by
 obtain ⟨D, h1, h2, h3⟩ := h
 obtain ⟨w', hrun, r1, r2⟩ := h1.update ptKey ptT (by unfold maxLen; omega) (ptL_is hc) (booR_mk true)
 have hT := h1.tidy ptKey
 have hM := hT.isMap
 have hkl := ptKey.key (ptL_is hc)
 refine ⟨w', hrun, ⟨D.put (ptL c) (.lit (.bool true)), ownsMap_size r1, ?_, fun d hd => ?_⟩, r2⟩
 ·rw [Maps.size_put hT, List.length_append]
  split <;> simp <;> omega
 ·by_cases e : ptL d = ptL c
  ·have := ptL_inj hd hc e
   subst this
   rw [Maps.atKey_put_same hM hkl]
   simp
  ·rw [Maps.atKey_put_other e, h3 d hd]
   have hne : d ≠ c := fun h => e (by rw [h])
   simp [hne]
end Go.Proofs.YtkfimbonmnoglaaGreatDoor
end
section
namespace Go.Proofs.YtkfimbonmnoglaaGreatDoor
open Go.RowKit Go.Rel Go.Draw Go.Solid
set_option maxRecDepth 100000
attribute [local go_sem] Oper.semAt_some
def EuI (w : World) (l : List Cl) (W : World) : Prop := Below w.heap.size w W ∧ Seen W (w.heap.size + 1) l ∧ Blk W (w.heap.size + 1 + 1) #[.map (some (w.heap.size + 1))] 97 ∧ Blk W (w.heap.size + 1 + 1 + 1) #[.int .i64 (sumZ sgn l)] 3
theorem EuI.kept {w : World} {l : List Cl} {W W' : World} {r : Option Nat} (hI : EuI w l W) (hg : W.grownBy W' r) (hr : ∀ k, r = some k → w.heap.size + 1 + 1 + 1 + 1 ≤ k) : EuI w l W' := by
 obtain ⟨h1, h2, h3, h4⟩ := hI
 refine ⟨h1.grown hg h1.size (fun k e => by have := hr k e; omega), h2.kept hg ?_, h3.gb hg ?_, h4.gb hg ?_⟩
 all_goals (intro e; have := hr _ e.symm; omega)
theorem EuI.bel {w : World} {l : List Cl} {W W' : World} (hI : EuI w l W) (hb : Below W.heap.size W W') : EuI w l W' := hI.kept (gb_below (gb_refl _ none) hb) (fun k e => by cases e)
/-- a new point -/
theorem EuI.put {w : World} {l : List Cl} {W W2 : World} {c : Cl} (hI : EuI w l W) (h2 : Seen W2 (w.heap.size + 1) (l ++ [c])) (hg : W.grownBy W2 (some (w.heap.size + 1))) : EuI w (l ++ [c]) (W2.setCell ⟨w.heap.size + 1 + 1 + 1, 0, none⟩ (.int .i64 (sumZ sgn l + sgn c))) := by
 obtain ⟨h1, _, h3, h4⟩ := hI
 have hs := gb_set (gb_refl W2 (some (w.heap.size + 1 + 1 + 1))) ⟨w.heap.size + 1 + 1 + 1, 0, none⟩ rfl (.int .i64 (sumZ sgn l + sgn c))
 refine ⟨(h1.grown hg h1.size (fun k e => by cases e; omega)).grown hs (Nat.le_trans h1.size hg.size) (fun k e => by cases e; omega), h2.kept hs (by simp <;> omega), (h3.gb hg (by simp <;> omega)).gb hs (by simp <;> omega), ?_⟩
 rw [sumZ_snoc]
 exact (h4.gb hg (by simp <;> omega)).set 0 _
theorem mid_in {c d : Cl} (hc : inG c = true) (hd : -1 ≤ d.1 ∧ d.1 ≤ 1 ∧ -1 ≤ d.2.1 ∧ d.2.1 ≤ 1 ∧ -1 ≤ d.2.2 ∧ d.2.2 ≤ 1) :
  ptB (midC c d) ∧ IntKind.i64.wrap (2 * c.1) = 2 * c.1 ∧ IntKind.i64.wrap (2 * c.1 + 1) = 2 * c.1 + 1 ∧ IntKind.i64.wrap (2 * c.1 + 1 + d.1) = (midC c d).1 ∧
   IntKind.i64.wrap (2 * c.2.1) = 2 * c.2.1 ∧ IntKind.i64.wrap (2 * c.2.1 + 1) = 2 * c.2.1 + 1 ∧ IntKind.i64.wrap (2 * c.2.1 + 1 + d.2.1) = (midC c d).2.1 ∧
   IntKind.i64.wrap (2 * c.2.2) = 2 * c.2.2 ∧ IntKind.i64.wrap (2 * c.2.2 + 1) = 2 * c.2.2 + 1 ∧ IntKind.i64.wrap (2 * c.2.2 + 1 + d.2.2) = (midC c d).2.2 := by
 have hG := inG_iff.1 hc
 refine ⟨?_, IntWalk.i64_in _ ⟨?_, ?_⟩, IntWalk.i64_in _ ⟨?_, ?_⟩, IntWalk.i64_in _ ⟨?_, ?_⟩, IntWalk.i64_in _ ⟨?_, ?_⟩, IntWalk.i64_in _ ⟨?_, ?_⟩, IntWalk.i64_in _ ⟨?_, ?_⟩, IntWalk.i64_in _ ⟨?_, ?_⟩, IntWalk.i64_in _ ⟨?_, ?_⟩, IntWalk.i64_in _ ⟨?_, ?_⟩⟩
 ·unfold ptB midC; simp only; omega
 all_goals omega
theorem sgn_even {a b c : Int} (h : (a + b + c) % 2 = 0) : sgn (a, b, c) = 1 := by unfold sgn; exact if_pos h
theorem sgn_odd {a b c : Int} (h : ¬ (a + b + c) % 2 = 0) : sgn (a, b, c) = -1 := by unfold sgn; exact if_neg h
theorem sumZ_nil : sumZ sgn [] = 0 := rfl
attribute [local irreducible] stepsL midC eulP eulJ sgn sumZ
set_option maxHeartbeats 8000000 in
theorem euler_spec {w : World} (s : Sol) (hT : Tab w) : Calls Tryz.prog 41 #[solV s] w fun e w' => e = .returned (.int .i64 (eulerS s)) ∧ Below w.heap.size w w' := by
 obtain ⟨N0, hN0⟩ : ∃ N0, N0 = eulerS s := ⟨_, rfl⟩
 rw [← hN0]
 have HL := Lib.hid hN0
 clear hN0
 have hgl := hT.lt
 have hmm := @run_makeMap Tryz.prog
 have HS := Lib.hid hT
 clear hT
 refine (callsIn_wide (n := 9)).1 ?_
 refine callsIn_of_wp_marks Tryz.func41 rfl trivial ?_ rfl
 simp only [Tryz.ntmps41, List.size_toArray, List.length_cons, List.length_nil, Nat.reduceAdd, Nat.reduceSub, Array.replicate_succ, Array.replicate_zero, List.push_toArray, List.append_toArray, List.nil_append, List.cons_append]
 refine wpIn_wide.2 ?_
 go_wp2_with fail
 refine (cells_spec _ s).mono ?_
 rintro e w3 ⟨rfl, hw3⟩
 simp only [World.size_alloc] at hw3 ⊢
 have b5 : Blk w3 (w.heap.size + 1 + 1 + 1 + 1) #[.int .u64 (pl s 0), .int .u64 (pl s 1), .int .u64 (pl s 2), .int .u64 (pl s 3), .int .u64 (pl s 4), .int .u64 (pl s 5), .int .u64 (pl s 6), .int .u64 (pl s 7)] 26 := by subst hw3; exact Blk.at _ _ (by simp)
 have hsz3 : w3.heap.size = w.heap.size + 1 + 1 + 1 + 1 + 1 := by subst hw3; simp
 have hM : EuI w [] w3 := by
  have hm : Seen w3 (w.heap.size + 1) [] := by
   have h0 := Seen.made (w.alloc (.cells #[.int .u64 (pl s 0), .int .u64 (pl s 1), .int .u64 (pl s 2), .int .u64 (pl s 3), .int .u64 (pl s 4), .int .u64 (pl s 5), .int .u64 (pl s 6), .int .u64 (pl s 7)] 26))
   simp only [World.size_alloc] at h0
   subst hw3
   exact ((h0.kept (World.grownBy_alloc _ _ none) (by simp)).kept (World.grownBy_alloc _ _ none) (by simp)).kept (World.grownBy_alloc _ _ none) (by simp)
  refine ⟨by subst hw3; exact (by repeat (first | with_reducible exact bel_refl _ | with_reducible assumption | with_reducible refine bel_drewN ?_ _ | with_reducible refine bel_drew ?_ | with_reducible refine bel_alloc ?_ _ | with_reducible refine bel_row ?_ ?_ _ | with_reducible refine bel_set ?_ ?_ _ | refine bel_trans ?_ (by with_reducible assumption) | (simp; done) | (simp; omega))), hm, ?_, ?_⟩
  ·subst hw3; exact (by repeat (first | with_reducible assumption | (refine Blk.at _ _ ?_; (simp; done)) | with_reducible refine Blk.alloc ?_ _ | with_reducible refine Blk.drew ?_ | with_reducible refine Blk.rowS ?_ _ | with_reducible refine Blk.rowO ?_ _ (by simp)))
  ·rw [sumZ_nil]
   subst hw3; exact (by repeat (first | with_reducible assumption | (refine Blk.at _ _ ?_; (simp; done)) | with_reducible refine Blk.alloc ?_ _ | with_reducible refine Blk.drew ?_ | with_reducible refine Blk.rowS ?_ _ | with_reducible refine Blk.rowO ?_ _ (by simp)))
 have H3 := Lib.hid (And.intro b5 (And.intro hsz3 hM))
 have HT3 := Lib.hid (HS.out.grow hM.1)
 clear hw3 b5 hsz3 hM
 go_wp2_with fail
 refine (wpIn_wide (n := 9)).1 ?_
 refine wpIn_rangeFunc_C (α := GCl) rfl (by omega) (gf := 147) (lb := #[.pointer (some ⟨w.heap.size + 1 + 1 + 1 + 1, 0, none⟩)]) rfl trivial (enters_of Tryz.func147 (by kernel_rfl) rfl) (encs := fun y : GCl => #[clV y.1]) (wr := fun k => k = w.heap.size + 1 ∨ k = w.heap.size + 1 + 1 + 1) 0
  (fun W hbW _ => cells_seq (n := 9 - 1) (by omega) s (H3.out.1.grow hbW) (HT3.out.grow hbW) (by omega)) (fun r h1 h2 => by have := H3.out.2.1; omega) (fun _ => rfl)
  (fun (pre : List GCl) W => EuI w (eulP (pre.map fun y : GCl => y.1)) W) (fun _ (_ : List GCl) _ => False)
  (fun pre W W' r hi hg hr => hi.kept hg (fun k e => by have := hr k e; have := H3.out.2.1; omega)) (fun c pre W W' r hi hg hr => hi.elim) (by rw [List.map_nil, eulP_nil]; exact H3.out.2.2)
  (fun z a' W => ∃ B8, w3.heap.size + 1 + 1 + 0 ≤ B8 ∧ Blk W B8 #[.int .i64 z.1.1, .int .i64 z.1.2.1, .int .i64 z.1.2.2] 60 ∧ a' = { tmps := #[solV s, .pointer (some ⟨w.heap.size, 0, none⟩), .int .i64 0, .pointer (some ⟨w.heap.size + 1 + 1, 0, none⟩), .pointer (some ⟨w.heap.size + 1 + 1 + 1, 0, none⟩), .pointer (some ⟨B8, 0, none⟩), undef, undef, undef, .map (some (w.heap.size + 1)), solV s, .func (.func 147) #[] #[.pointer (some ⟨w.heap.size + 1 + 1 + 1 + 1, 0, none⟩)], clV z.1, undef, undef, undef, undef, undef, undef, undef, undef, undef, undef, undef, undef, undef, undef, undef, undef, undef, undef, undef, undef, undef, undef, undef, undef, undef, undef, undef, undef, undef, undef, undef, undef, undef, undef, undef, undef, undef, undef, undef, undef, undef, undef, undef, undef, undef, undef, undef, undef, undef], defers := [] })
  (fun z a' _ X Y row hs hg hr => by obtain ⟨B8, e1, e2, e3⟩ := hs; exact ⟨B8, e1, e2.gb hg (fun e => by have := hr _ e.symm; omega), e3⟩)
  ?assign ?body ?done ?stop
 case assign =>
  rintro lp pre z W K hM hsz hK
  have HI := Lib.hid hM; clear hM
  have hK' := fun a' W' => hK a' W'
  clear hK
  gi_wp2_with fail
  exact hK' _ _ (KeepsBut.alloc _ _ _) (HI.out.kept (World.grownBy_alloc _ _ none) (fun k e => by cases e)) ⟨W.heap.size, hsz, Blk.new _ _ _, rfl⟩
 case body =>
  rintro lp pre z a' W hsz hM ⟨B8, hB8, bB, rfl⟩ hlen
  have hM2 : EuI w (eulP (pre.map fun y : GCl => y.1)) W := hM
  have hpl : pre.length ≤ 512 := by have h2 := cellsS_len s; omega
  obtain ⟨P0, hP0⟩ : ∃ P0, P0 = pre.map fun y : GCl => y.1 := ⟨_, rfl⟩
  have hsn : eulP ((pre ++ [z]).map fun y : GCl => y.1) = eulJ P0 z.1 (stepsL false).length := by rw [eulJ_end, List.map_append, hP0]; rfl
  have hp0 : P0.length ≤ 512 := by rw [hP0, List.length_map]; exact hpl
  rw [← hP0] at hM2
  clear hM hlen hP0 hpl
  obtain ⟨c, hc⟩ := z
  have HN := Lib.hid (And.intro hsn hc)
  have hin := fun d hd => mid_in hc (steps_near false d hd)
  obtain ⟨x, y, z⟩ := c
  simp only at bB
  have hH3 := H3.out.2.1
  have HIN := Lib.hid hin
  have HM := Lib.hid (And.intro hM2 bB)
  clear hM2 bB hin hsn
  gi_wp2_with fail
  refine ⟨trivial, (CallsIn.inRound lp (callsIn_wide.2 (steps_spec false _))).mono ?_⟩
  rintro e w4 ⟨u, rfl, hu, hb4⟩
  obtain ⟨bs, of, cap, rfl, hbs, hcap, hC⟩ := steps_open hu
  have hI4 := HM.out.1.bel hb4
  have hB4 := HM.out.2.grow hb4
  have hs4 := hb4.size
  have HC := Lib.hid hC
  have HI0 : Hid (EuI w (eulJ P0 (x, y, z) 0) w4 ∧ Blk w4 B8 #[.int .i64 x, .int .i64 y, .int .i64 z] 60 ∧ KeepsBut (fun k => k = w.heap.size + 1 ∨ k = w.heap.size + 1 + 1 + 1) w4 w4) := Lib.hid ⟨by rw [eulJ_zero]; exact hI4, hB4, KeepsBut.refl _ _⟩
  have HK4 : Hid (KeepsBut (fun k => k = w.heap.size + 1 ∨ k = w.heap.size + 1 + 1 + 1) W w4) := Lib.hid (.bel hb4)
  clear hu hb4 hI4 hB4 hC
  have hlen := (steps_size false).2
  gi_wp2_with fail
  gi_loopw [15] (fun iv wx => ∃ j : Nat, j ≤ (stepsL false).length ∧ iv = .int .i64 j ∧ Hid (EuI w (eulJ P0 (x, y, z) j) wx ∧ Blk wx B8 #[.int .i64 x, .int .i64 y, .int .i64 z] 60 ∧ KeepsBut (fun k => k = w.heap.size + 1 ∨ k = w.heap.size + 1 + 1 + 1) w4 wx)) (fun iv _ => (stepsL false).length - (intOf iv).toNat)
  case atStart => exact ⟨0, Nat.zero_le _, rfl, HI0⟩
  case round =>
   clear HI0
   obtain ⟨j, hj, rfl, HI⟩ := hrel
   by_cases hjn : j < (stepsL false).length
   ·obtain ⟨d, hd⟩ : ∃ d, (stepsL false)[j]? = some d := ⟨(stepsL false)[j], by simp [hjn]⟩
    obtain ⟨d1, d2, d3⟩ := d
    have e123 := HIN.out _ (List.mem_of_getElem? hd)
    obtain ⟨hpt, e1, e2, e3, e4, e5, e6, e7, e8, e9⟩ := e123
    simp only at e1 e2 e3 e4 e5 e6 e7 e8 e9
    have hd0 : decide ((j : Int) < ((stepsL false).length : Int)) = true := decide_eq_true (by omega)
    have hj9 : (j : Int) < ((stepsL false).length : Int) := by omega
    have hCr := HC.out.keep HI.out.2.2 (by rintro (e | e) <;> omega)
    have q1 : wr.cell? ⟨bs, of + j * 3, none⟩ = some (.int .i64 d1) := hCr.2 j 0 _ (by simp [hd, clL])
    have q2 : wr.cell? ⟨bs, of + j * 3 + 1, none⟩ = some (.int .i64 d2) := hCr.2 j 1 _ (by simp [hd, clL])
    have q3 : wr.cell? ⟨bs, of + j * 3 + 2, none⟩ = some (.int .i64 d3) := hCr.2 j 2 _ (by simp [hd, clL])
    have lq := hCr.1
    have hsr : w4.heap.size ≤ wr.heap.size := HI.out.2.2.1
    have cX := HI.out.2.1.cell; have lX := HI.out.2.1.lt
    have hsu := eulJ_succ (pre := P0) (c := (x, y, z)) hd
    have hll := eulJ_len P0 (x, y, z) j
    obtain ⟨l, hl⟩ : ∃ l, l = eulJ P0 (x, y, z) j := ⟨_, rfl⟩
    rw [← hl] at HI hsu hll
    obtain ⟨q, hq⟩ : ∃ q, q = midC (x, y, z) (d1, d2, d3) := ⟨_, rfl⟩
    rw [← hq] at e3 e6 e9 hsu hpt
    obtain ⟨f1, f2, f3⟩ := q
    simp only at e3 e6 e9
    have HE := Lib.hid (And.intro hsu hpt)
    clear hCr hd hq hl hsu hpt
    gi_upto_region 9 with fail
    obtain ⟨wE, hwE⟩ : ∃ wE, wE = (wr.alloc (.cells #[.int .i64 d1, .int .i64 d2, .int .i64 d3] 60)).alloc (.cells #[.int .i64 f1, .int .i64 f2, .int .i64 f3] 60) := ⟨_, rfl⟩
    have hbE : Below wr.heap.size wr wE := by rw [hwE]; exact bel_alloc (bel_alloc (bel_refl wr) _) _
    have bQ : Blk wE (wr.heap.size + 1) #[.int .i64 f1, .int .i64 f2, .int .i64 f3] 60 := by rw [hwE]; exact Blk.at _ _ (by simp)
    rw [← hwE]
    have hIE := HI.out.1.bel hbE
    have hBE := HI.out.2.1.grow hbE
    have hKE : KeepsBut (fun k => k = w.heap.size + 1 ∨ k = w.heap.size + 1 + 1 + 1) w4 wE := KeepsBut.trans HI.out.2.2 (.bel hbE)
    have hlook := Seen.look hIE.2.1 HE.out.2
    have cQ := bQ.cell; have lQ := bQ.lt
    have cM := hIE.2.2.1.cell; have lM := hIE.2.2.1.lt
    have HW := Lib.hid (And.intro hIE (And.intro hBE (And.intro hKE bQ)))
    clear hwE hbE bQ hIE hBE hKE q1 q2 q3 lq cX lX HI e1 e2 e3 e4 e5 e6 e7 e8 e9
    by_cases hin : (f1, f2, f3) ∈ l
    ·have hb : decide ((f1, f2, f3) ∈ l) = true := decide_eq_true hin
     rw [hb] at hlook
     have HX := Lib.hid (HE.out.1.trans (eul_yes hin))
     clear hin hb
     gi_wp2_with fail
     go_roundw
     case rel => exact ⟨j + 1, by omega, by go_num, Lib.hid ⟨by rw [HX.out]; exact HW.out.1, HW.out.2.1, HW.out.2.2.1⟩⟩
     case measure => simp [intOf]; omega
    ·have hb : decide ((f1, f2, f3) ∈ l) = false := decide_eq_false hin
     rw [hb] at hlook
     have HX := Lib.hid (HE.out.1.trans (eul_no hin))
     clear hin hb
     obtain ⟨W2, hput, hS2, hg2⟩ := Seen.put HW.out.1.2.1 (by omega) HE.out.2
     have bQ2 := HW.out.2.2.2.gb hg2 (by simp <;> omega)
     have cQ2 := bQ2.cell; have lQ2 := bQ2.lt
     have bN2 := HW.out.1.2.2.2.gb hg2 (by simp <;> omega)
     have cN2 := bN2.cell; have lN2 := bN2.lt; have fN2 := bN2.free 0
     have hpt := HE.out.2
     obtain ⟨g1, g2, g3, g4, g5, g6⟩ := hpt
     simp only at g1 g2 g3 g4 g5 g6
     have u1 : IntKind.i64.wrap (f1 + f2) = f1 + f2 := IntWalk.i64_in _ ⟨by omega, by omega⟩
     have u2 : IntKind.i64.wrap (f1 + f2 + f3) = f1 + f2 + f3 := IntWalk.i64_in _ ⟨by omega, by omega⟩
     have hsl := sumZ_le l
     have hnw := EuI.put HW.out.1 hS2 hg2
     obtain ⟨z, hz⟩ : ∃ z, z = sumZ sgn l := ⟨_, rfl⟩
     rw [← hz] at hsl cN2 hnw
     have hB2 := HW.out.2.1.gb hg2 (by simp <;> omega)
     have hK2 : KeepsBut (fun k => k = w.heap.size + 1 ∨ k = w.heap.size + 1 + 1 + 1) w4 W2 := KeepsBut.trans HW.out.2.2.1 (.gb hg2 (fun r e => by cases e; exact .inl rfl))
     have HF := Lib.hid (And.intro hnw (And.intro hB2 hK2))
     clear hnw hB2 hK2 bQ2 bN2 hz hS2 hg2
     have hte : Int.tmod (f1 + f2 + f3) 2 = (f1 + f2 + f3) % 2 := Int.tmod_eq_emod_of_nonneg (by omega)
     by_cases hev : (f1 + f2 + f3) % 2 = 0
     ·rw [sgn_even hev] at HF
      have hw : IntKind.i64.wrap (z + 1) = z + 1 := IntWalk.i64_in _ ⟨by omega, by omega⟩
      rw [hev] at hte
      clear hev
      gi_wp2_with fail
      go_roundw
      case rel =>
       have hgs := gb_set (gb_refl W2 (some (w.heap.size + 1 + 1 + 1))) ⟨w.heap.size + 1 + 1 + 1, 0, none⟩ rfl (.int .i64 (z + 1))
       exact ⟨j + 1, by omega, by go_num, Lib.hid ⟨by rw [HX.out]; exact HF.out.1, HF.out.2.1.gb hgs (by simp <;> omega), KeepsBut.trans HF.out.2.2 (.gb hgs (fun r e => by cases e; exact .inr rfl))⟩⟩
      case measure => simp [intOf]; omega
     ·rw [sgn_odd hev] at HF
      have hw : IntKind.i64.wrap (z - 1) = z - 1 := IntWalk.i64_in _ ⟨by omega, by omega⟩
      have hte1 : Int.tmod (f1 + f2 + f3) 2 = 1 := by omega
      clear hev hte
      gi_wp2_with fail
      go_roundw
      case rel =>
       have hgs := gb_set (gb_refl W2 (some (w.heap.size + 1 + 1 + 1))) ⟨w.heap.size + 1 + 1 + 1, 0, none⟩ rfl (.int .i64 (z - 1))
       exact ⟨j + 1, by omega, by go_num, Lib.hid ⟨by rw [HX.out]; exact HF.out.1, HF.out.2.1.gb hgs (by simp <;> omega), KeepsBut.trans HF.out.2.2 (.gb hgs (fun r e => by cases e; exact .inr rfl))⟩⟩
      case measure => simp [intOf]; omega
   ·obtain rfl : j = (stepsL false).length := by omega
    have hd0 : decide ((((stepsL false).length : Nat) : Int) < ((stepsL false).length : Int)) = false := by simp
    gi_wp2_with fail
    refine ⟨KeepsBut.trans HK4.out HI.out.2.2, ?_⟩
    show EuI w (eulP _) wr
    rw [HN.out.1]
    exact HI.out.1
 case done =>
  rintro D xs W hD hS hM hK
  have hH3 := H3.out.2.1
  have hM2 : EuI w (eulP (xs.map fun y : GCl => y.1)) W := hM
  clear hM
  have hS2 : (xs.map fun y : GCl => y.1) = cellsS s := hS
  rw [hS2] at hM2
  obtain ⟨h1, _, _, h3⟩ := hM2
  rw [euler_eulP, ← HL.out] at h3
  have lD := (Array.getElem?_eq_some_iff.1 hK).1
  have c1 := h3.cell; have l1 := h3.lt
  have HZ := Lib.hid (And.intro h1 (And.intro hK hD))
  clear h1 h3 hK hD hS hS2
  gi_wp2_with fail
  go_wp2_with fail
  refine ⟨by simp, .inl ⟨_, _, rfl, run_takeDeferred HZ.out.2.1, ?_⟩⟩
  have hgP := grownBy_putObj' W D (.deferred none)
  exact ⟨.int .i64 N0, by simp [results, Tryz.results41, go_sem], rfl, HZ.out.1.grown hgP HZ.out.1.size (fun k e => by cases e; have := HZ.out.2.2; omega)⟩
 case stop =>
  rintro D c pre W hD hS hM hK
  exact hM.elim
end Go.Proofs.YtkfimbonmnoglaaGreatDoor
end
section
namespace Go.Proofs.YtkfimbonmnoglaaGreatDoor
open Go.RowKit Go.Rel Go.Draw Go.Solid
set_option maxRecDepth 100000
attribute [local go_sem] Oper.semAt_some
def tunS (s : Sol) : Int := (partsS s).length + (cavsS s).length - eulerS s
theorem cavs_len (s : Sol) : (cavsS s).length ≤ 512 := Nat.le_trans (List.length_filter_le _ _) (classes_len _ _)
theorem euler_le (s : Sol) : -13824 ≤ eulerS s ∧ eulerS s ≤ 13824 := by
 have h1 := eulP_len (cellsS s)
 have h2 := cellsS_len s
 have h3 := sumZ_le (eulP (cellsS s))
 rw [euler_eulP] at h3
 omega
def IsLen (n : Nat) : Value → World → Prop := fun v _ => ∃ p c, v = .slice p n c
set_option maxHeartbeats 4000000 in
theorem tunnels_spec (s : Sol) (w : World) (hT : Tab w) : Calls Tryz.prog 43 #[solV s] w fun e w' => e = .returned (.int .i64 (tunS s)) ∧ Below w.heap.size w w' := by
 have HP : Hid (∀ W, Tab W → Calls Tryz.prog 37 #[solV s] W fun e w' => (∃ p c, e = .returned (.slice p (partsS s).length c)) ∧ Below W.heap.size W w') := Lib.hid fun W h => (parts_spec s W h).mono fun e w' he => by
  obtain ⟨⟨u, h1, h2⟩, h3⟩ := he
  obtain ⟨p, c, hv, _, _⟩ := own_shape' h2
  exact ⟨⟨p, c, by rw [h1, hv]⟩, h3⟩
 have HC : Hid (∀ W, Tab W → Calls Tryz.prog 39 #[solV s] W fun e w' => (∃ p c, e = .returned (.slice p (cavsS s).length c)) ∧ Below W.heap.size W w') := Lib.hid fun W h => (cavs_spec s W h).mono fun e w' he => by
  obtain ⟨⟨u, h1, h2⟩, h3⟩ := he
  obtain ⟨p, c, hv, _, _⟩ := own_shape' h2
  exact ⟨⟨p, c, by rw [h1, hv]⟩, h3⟩
 have HE : Hid (∀ W, Tab W → Calls Tryz.prog 41 #[solV s] W fun e w' => e = .returned (.int .i64 (eulerS s)) ∧ Below W.heap.size W w') := Lib.hid fun W h => euler_spec s h
 have hp : (partsS s).length ≤ 512 := classes_len _ _
 have hc := cavs_len s
 have he := euler_le s
 have ht : tunS s = (partsS s).length + (cavsS s).length - eulerS s := rfl
 obtain ⟨a, ha⟩ : ∃ a, a = (partsS s).length := ⟨_, rfl⟩
 obtain ⟨b, hb⟩ : ∃ b, b = (cavsS s).length := ⟨_, rfl⟩
 obtain ⟨d, hd⟩ : ∃ d, d = eulerS s := ⟨_, rfl⟩
 rw [← ha] at HP hp ht
 rw [← hb] at HC hc ht
 rw [← hd] at HE he ht
 rw [ht]
 have x1 : IntKind.i64.wrap ((a : Int) + b) = a + b := IntWalk.i64_in _ ⟨by omega, by omega⟩
 have x2 : IntKind.i64.wrap ((a : Int) + b - d) = a + b - d := IntWalk.i64_in _ ⟨by omega, by omega⟩
 clear ha hb hd ht hp hc he
 have HT := Lib.hid hT
 clear hT
 go_enter Tryz.func43, Tryz.ntmps43
 go_upto_region 1 with fail
 obtain ⟨wA, hwA⟩ : ∃ wA, wA = w.alloc (.cells #[.int .u64 (pl s 0), .int .u64 (pl s 1), .int .u64 (pl s 2), .int .u64 (pl s 3), .int .u64 (pl s 4), .int .u64 (pl s 5), .int .u64 (pl s 6), .int .u64 (pl s 7)] 26) := ⟨_, rfl⟩
 have bA : Blk wA w.heap.size #[.int .u64 (pl s 0), .int .u64 (pl s 1), .int .u64 (pl s 2), .int .u64 (pl s 3), .int .u64 (pl s 4), .int .u64 (pl s 5), .int .u64 (pl s 6), .int .u64 (pl s 7)] 26 := by rw [hwA]; exact Blk.new _ _ _
 have hbA : Below w.heap.size w wA := by rw [hwA]; exact bel_alloc (bel_refl w) _
 have hsA : wA.heap.size = w.heap.size + 1 := by rw [hwA]; simp
 rw [← hwA]
 have HA := Lib.hid (And.intro bA (And.intro hbA hsA))
 have HTA := Lib.hid (HT.out.grow hbA)
 clear hwA bA hbA hsA
 refine wp_region_val (Below wA.heap.size) (fun L vs W => Below wA.heap.size wA W) [Is (solV s), IsLen a, Is (.int .i64 (a : Int)), Is (solV s), IsLen b, Is (.int .i64 (b : Int)), Is (.int .i64 ((a : Int) + b)), Is (solV s), Is (.int .i64 d), Is (.int .i64 ((a : Int) + b - d)), Is (.int .i64 ((a : Int) + b - d))] (by kernel_rfl) (by kernel_rfl) rfl (Below.refl wA.heap.size) (fun _ _ _ => Below.trans) (stable_mem ⟨fun _ _ _ h _ => h, fun _ _ _ h _ => h, fun _ _ _ h _ => h, fun _ _ _ h _ => h, fun _ _ _ h _ => h, fun _ _ _ h _ => h, fun _ _ _ h _ => h, fun _ _ _ h _ => h, fun _ _ _ h _ => h, fun _ _ _ h _ => h, fun _ _ _ h _ => h, trivial⟩) wA (Below.drew (Below.refl _ _)) (Below.drew (Below.refl _ _)) ?_
 refine val_cons ?_ (fun v0 => ?_)
 ·intro L vs w1 hvs hat hb hI hF; try simp [factsI, Region.binds, Is] at hF
  have BA := HA.out.1.grow (show Below _ _ _ from hI)
  have hc := BA.cell; have hl := BA.lt
  have HI2 := Lib.hid (show Below wA.heap.size wA w1 from hI); clear hI BA
  go_simp
  first | exact ⟨Below.refl _ _, HI2.out⟩ | exact HI2.out | exact ⟨HI2.out, trivial⟩ | exact ⟨Below.refl _ _, HI2.out, rfl⟩ | exact Below.refl _ _
 refine val_cons ?_ (fun v1 => ?_)
 ·intro L vs w1 hvs hat hb hI hF; try simp [factsI, Region.binds, Is] at hF
  have HI2 := Lib.hid (show Below wA.heap.size wA w1 from hI); clear hI
  have HT1 := Lib.hid (HTA.out.mono HI2.out (by have := HTA.out.lt; omega))
  go_simp
  refine (HP.out _ HT1.out).mono ?_
  rintro e w2 ⟨⟨p, c, rfl⟩, hb2⟩
  have hle := HI2.out.size
  exact ⟨_, rfl, hb2.mono hle, HI2.out.trans (hb2.mono hle), ⟨p, c, rfl⟩⟩
 refine val_cons ?_ (fun v2 => ?_)
 ·intro L vs w1 hvs hat hb hI hF; try simp [factsI, Region.binds, Is] at hF
  have HI2 := Lib.hid (show Below wA.heap.size wA w1 from hI); clear hI
  obtain ⟨p, c, hv⟩ := hF
  subst hv
  go_simp
  first | exact ⟨Below.refl _ _, HI2.out⟩ | exact HI2.out | exact ⟨HI2.out, trivial⟩ | exact ⟨Below.refl _ _, HI2.out, rfl⟩ | exact Below.refl _ _
 refine val_cons ?_ (fun v3 => ?_)
 ·intro L vs w1 hvs hat hb hI hF; try simp [factsI, Region.binds, Is] at hF
  have BA := HA.out.1.grow (show Below _ _ _ from hI)
  have hc := BA.cell; have hl := BA.lt
  have HI2 := Lib.hid (show Below wA.heap.size wA w1 from hI); clear hI BA
  go_simp
  first | exact ⟨Below.refl _ _, HI2.out⟩ | exact HI2.out | exact ⟨HI2.out, trivial⟩ | exact ⟨Below.refl _ _, HI2.out, rfl⟩ | exact Below.refl _ _
 refine val_cons ?_ (fun v4 => ?_)
 ·intro L vs w1 hvs hat hb hI hF; try simp [factsI, Region.binds, Is] at hF
  have HI2 := Lib.hid (show Below wA.heap.size wA w1 from hI); clear hI
  have HT1 := Lib.hid (HTA.out.mono HI2.out (by have := HTA.out.lt; omega))
  go_simp
  refine (HC.out _ HT1.out).mono ?_
  rintro e w2 ⟨⟨p, c, rfl⟩, hb2⟩
  have hle := HI2.out.size
  exact ⟨_, rfl, hb2.mono hle, HI2.out.trans (hb2.mono hle), ⟨p, c, rfl⟩⟩
 refine val_cons ?_ (fun v5 => ?_)
 ·intro L vs w1 hvs hat hb hI hF; try simp [factsI, Region.binds, Is] at hF
  have HI2 := Lib.hid (show Below wA.heap.size wA w1 from hI); clear hI
  obtain ⟨p, c, hv⟩ := hF
  subst hv
  go_simp
  first | exact ⟨Below.refl _ _, HI2.out⟩ | exact HI2.out | exact ⟨HI2.out, trivial⟩ | exact ⟨Below.refl _ _, HI2.out, rfl⟩ | exact Below.refl _ _
 refine val_cons ?_ (fun v6 => ?_)
 ·intro L vs w1 hvs hat hb hI hF; try simp [factsI, Region.binds, Is] at hF
  have HI2 := Lib.hid (show Below wA.heap.size wA w1 from hI); clear hI
  go_simp
  first | exact ⟨Below.refl _ _, HI2.out⟩ | exact HI2.out | exact ⟨HI2.out, trivial⟩ | exact ⟨Below.refl _ _, HI2.out, rfl⟩ | exact Below.refl _ _
 refine val_cons ?_ (fun v7 => ?_)
 ·intro L vs w1 hvs hat hb hI hF; try simp [factsI, Region.binds, Is] at hF
  have BA := HA.out.1.grow (show Below _ _ _ from hI)
  have hc := BA.cell; have hl := BA.lt
  have HI2 := Lib.hid (show Below wA.heap.size wA w1 from hI); clear hI BA
  go_simp
  first | exact ⟨Below.refl _ _, HI2.out⟩ | exact HI2.out | exact ⟨HI2.out, trivial⟩ | exact ⟨Below.refl _ _, HI2.out, rfl⟩ | exact Below.refl _ _
 refine val_cons ?_ (fun v8 => ?_)
 ·intro L vs w1 hvs hat hb hI hF; try simp [factsI, Region.binds, Is] at hF
  have HI2 := Lib.hid (show Below wA.heap.size wA w1 from hI); clear hI
  have HT1 := Lib.hid (HTA.out.mono HI2.out (by have := HTA.out.lt; omega))
  go_simp
  refine (HE.out _ HT1.out).mono ?_
  rintro e w2 ⟨rfl, hb2⟩
  have hle := HI2.out.size
  exact ⟨_, rfl, hb2.mono hle, HI2.out.trans (hb2.mono hle), rfl⟩
 refine val_cons ?_ (fun v9 => ?_)
 ·intro L vs w1 hvs hat hb hI hF; try simp [factsI, Region.binds, Is] at hF
  have HI2 := Lib.hid (show Below wA.heap.size wA w1 from hI); clear hI
  go_simp
  first | exact ⟨Below.refl _ _, HI2.out⟩ | exact HI2.out | exact ⟨HI2.out, trivial⟩ | exact ⟨Below.refl _ _, HI2.out, rfl⟩ | exact Below.refl _ _
 refine val_cons ?_ (fun v10 => ?_)
 ·intro L vs w1 hvs hat hb hI hF; try simp [factsI, Region.binds, Is] at hF
  have HI2 := Lib.hid (show Below wA.heap.size wA w1 from hI); clear hI
  go_simp
  first | exact ⟨Below.refl _ _, HI2.out⟩ | exact HI2.out | exact ⟨HI2.out, trivial⟩ | exact ⟨Below.refl _ _, HI2.out, rfl⟩ | exact Below.refl _ _
 refine val_nil ?_
 intro vs w1 hvs hb hI hF
 simp [Is, Nat.forall_lt_succ_right] at hF
 have e0 := hF.1.1.1.1.1.1.1.1.1.1
 have e1 := hF.1.1.1.1.1.1.1.1.1.2
 have e2 := hF.1.1.1.1.1.1.1.1.2
 have e3 := hF.1.1.1.1.1.1.1.2
 have e4 := hF.1.1.1.1.1.1.2
 have e5 := hF.1.1.1.1.1.2
 have e6 := hF.1.1.1.1.2
 have e7 := hF.1.1.1.2
 have e8 := hF.1.1.2
 have e9 := hF.1.2
 have e10 := hF.2
 clear hF
 simp only [Act.put, List.setIfInBounds_toArray, List.set_cons_succ, List.set_cons_zero, e0, e2, e3, e5, e6, e7, e8, e9, e10]
 clear e0 e2 e3 e5 e6 e7 e8 e9 e10
 have hbw : Below w.heap.size w w1 := HA.out.2.1.trans ((show Below wA.heap.size wA w1 from hI).mono (by have := HA.out.2.2; omega))
 have HF := Lib.hid hbw
 clear hbw hI hb hvs
 go_wp2_with fail
 go_ret
 exact ⟨rfl, HF.out⟩
end Go.Proofs.YtkfimbonmnoglaaGreatDoor
end
