import Derived.Test.YtkcpnhigekopaaaDoorG11
/-
  Given contracts of functions of the program, and laws for them, one behind the other.
-/
set_option linter.unusedVariables false
set_option linter.unusedSimpArgs false
set_option linter.unusedSectionVars false
section
namespace Go.Proofs.YtkcpnhigekopaaaDoor
open Go.RowKit Go.Rel Go.Draw
set_option maxRecDepth 100000
/-! moulded -/
theorem moulded_big (a : Option Addr) (n c : Nat) (hn : 12 < n) (w : World) : Calls Tryd.prog 13 #[.slice a n c] w fun e w' => e = .returned (.tuple #[.pointer none, .int .i64 2]) ∧ w' = w := by
 go_enter Tryd.func13, Tryd.ntmps13
 go_wp2_with fail
 go_ret2
 exact ⟨rfl, rfl⟩
def AnyV (_ : Value) (_ : World) : Prop := True
/-- a new slice of one element -/
@[irreducible] def VOneS (base : Nat) (C : Array Value) (t : TypeId) (v : Value) (W : World) : Prop := ∃ g, v = .slice (some ⟨g, 0, none⟩) 1 1 ∧ base ≤ g ∧ Blk W g C t
theorem VOneS.stab {base : Nat} {C : Array Value} {t : TypeId} (v : Value) (W W' : World) (h : VOneS base C t v W) (g : Grows W W') : VOneS base C t v W' := by unfold VOneS at *; obtain ⟨q, h1, h2, h3⟩ := h; exact ⟨q, h1, h2, h3.grow g⟩
theorem blk_news {w : World} {g : Nat} {C : Array Value} {t : TypeId} (h : Blk w g C t) (j : Nat) (u : Value) (hj : C.toList[j]? = some u) : w.cell? ((⟨g, 0, none⟩ : Addr).add j) = some u := by
 have e : (⟨g, 0, none⟩ : Addr).add j = ⟨g, j, none⟩ := by unfold Addr.add; simp; omega
 rw [e, h.cell, ← Array.getElem?_toList]; exact hj
theorem goodFrom_snoc (s : Sol) : ∀ (pre : List Sol) (a : Sol), goodFrom (pre ++ [s]) a = (goodFrom pre a && !(s == 0 || meets s (pre.foldl (· ||| ·) a)))
 | [], a => by simp [goodFrom]
 | t :: pre, a => by
  rw [List.cons_append, goodFrom, goodFrom, goodFrom_snoc s pre, List.foldl_cons, Bool.and_assoc]
theorem goodFrom_bad {l : List Sol} {k : Nat} {s : Sol} (hs : l[k]? = some s) (h : (s == 0 || meets s (allS (l.take k))) = true) : goodM l = false := by
 have e : l = l.take k ++ (s :: l.drop (k + 1)) := by
  obtain ⟨hk, e⟩ := List.getElem?_eq_some_iff.1 hs
  rw [← e, ← List.drop_eq_getElem_cons hk, List.take_append_drop]
 have key : ∀ (pre rest : List Sol) (a : Sol), (s == 0 || meets s (pre.foldl (· ||| ·) a)) = true → goodFrom (pre ++ s :: rest) a = false := by
  intro pre
  induction pre with
  | nil =>
   intro rest a h
   have h : (s == 0 || meets s a) = true := h
   show goodFrom (s :: rest) a = false
   unfold goodFrom
   rw [h]; rfl
  | cons t pre ih =>
   intro rest a h
   rw [List.cons_append, goodFrom, ih rest _ (by simpa using h), Bool.and_false]
 rw [e]
 exact key _ _ 0 h
theorem take_snoc' {α : Type} {l : List α} {k : Nat} {s : α} (hs : l[k]? = some s) : l.take (k + 1) = l.take k ++ [s] := by
 obtain ⟨hk, e⟩ := List.getElem?_eq_some_iff.1 hs
 rw [List.take_succ_eq_append_getElem hk, e]
theorem allS_snoc (l : List Sol) (s : Sol) : allS (l ++ [s]) = allS l ||| s := by unfold allS; rw [List.foldl_append]; rfl
theorem own_bel {w w' : World} {base : Nat} {e : TypeId} {size : Nat} {v : Value} {n : Nat} {xs : List Value} (h : w.ownsRow base e size v n xs) (hb : Below w.heap.size w w') : w'.ownsRow base e size v n xs :=
 h.kept (row := none) ⟨hb.os, hb.tape, hb.output, hb.size, fun k hk _ => hb.block k hk⟩ (by cases hv : v.ownBlock <;> simp)
theorem step_append {P : Program} {ops : Array Oper} {R : World → World → Prop} {o : Oper} {a : Act} {φ : Value → World → Prop} {W w' : World} {x y : Operand} {t : TypeId} {v v7 v' : Value}
  (hgd : o.guard = none) (ho : o.op = .call { callee := .builtin .append, args := #[x, y], argTypes := #[t, t] }) (hs : a.eval x = v) (hx : a.eval y = v7)
  (hr : (Builtin.append_ #[t, t] o.type #[v, v7]).run P W = .ok v' w') (h : R W w' ∧ φ v' w') : Rel.step P ops R o a φ W := by
 unfold Rel.step
 have hw : Region.wanted o (yielded ops a.tmps) = true := by unfold Region.wanted; rw [hgd]
 rw [if_pos hw]
 unfold execOp
 simp only [ho, resolve, invoke, builtin, Sem.run_bind, Sem.run_pure, Result.andThen_ok, List.map_toArray, List.map_cons, List.map_nil, hs, hx, hr]
 exact h
theorem app_body {W : World} {base g : Nat} {v : Value} {xs : List Sol} {s : Sol} (hO : OwnB W base v xs) (hB : Blk W g #[.int .u64 (pl s 0), .int .u64 (pl s 1), .int .u64 (pl s 2), .int .u64 (pl s 3), .int .u64 (pl s 4), .int .u64 (pl s 5), .int .u64 (pl s 6), .int .u64 (pl s 7)] 72) (hl : xs.length ≤ 1000) (hbase : base ≤ W.heap.size) :
  ∃ v' w', (Builtin.append_ #[71, 71] 71 #[v, .slice (some ⟨g, 0, none⟩) 1 1]).run Tryd.prog W = .ok v' w' ∧ OwnB w' base v' (xs ++ [s]) ∧ W.grownBy w' v.ownBlock := by
 obtain ⟨i0, hi, hz0, hz1, hz2⟩ := info_parts infoBody
 obtain ⟨v', w', hr, hO', hgr, _⟩ := run_append_own (P := Tryd.prog) W base 71 71 72 i0 _ 8 64 Tryd.underlying71 hi hz0 hz1 hz2 rfl (by decide) _ xs.length _ hO ⟨g, 0, none⟩ 1 1 (solL s) rfl (blk_news hB) (fun x hx => by simp at hx; rcases hx with rfl | rfl | rfl | rfl | rfl | rfl | rfl | rfl <;> rfl) (by unfold maxLen; omega) (by omega) hbase
 refine ⟨v', w', hr, ?_, hgr⟩
 unfold OwnB
 rw [List.length_append, List.map_append, List.flatten_append]
 exact hO'
theorem own_shapeN {w : World} {base : Nat} {e : TypeId} {size : Nat} {v : Value} {n : Nat} {xs : List Value} (h : w.ownsRow base e size v n xs) : ∃ p n c, v = .slice p n c := by
 obtain ⟨p, c, e, _⟩ := own_shape' h
 exact ⟨p, _, c, e⟩
abbrev mouldC (v : Value) (mb : Nat) : Array Value := #[v, .int .u64 0, .int .u64 0, .int .u64 0, .int .u64 0, .int .u64 0, .int .u64 0, .int .u64 0, .int .u64 0, .map (some mb)]
/-- what stands while a body is appended -/
def I16 (M t8 mb : Nat) (v : Value) (xs : List Sol) (s A : Sol) (a5 a6 a7 a10 : Bool) (y z : Value) (W : World) : Prop :=
 M + 1 + 1 ≤ W.heap.size ∧ (a5 = false → Blk W t8 #[.int .u64 (pl s 0), .int .u64 (pl s 1), .int .u64 (pl s 2), .int .u64 (pl s 3), .int .u64 (pl s 4), .int .u64 (pl s 5), .int .u64 (pl s 6), .int .u64 (pl s 7)] 72) ∧ (a7 = false → OwnB W (M + 1 + 1) v xs) ∧ (a6 = true → a7 = false → ∃ g, y = .slice (some ⟨g, 0, none⟩) 1 1 ∧ Blk W g #[.int .u64 (pl s 0), .int .u64 (pl s 1), .int .u64 (pl s 2), .int .u64 (pl s 3), .int .u64 (pl s 4), .int .u64 (pl s 5), .int .u64 (pl s 6), .int .u64 (pl s 7)] 72) ∧ (a7 = true → OwnB W (M + 1 + 1) z (xs ++ [s])) ∧
 (a10 = false → Blk W M (mouldC v mb) 75) ∧ (a10 = true → Blk W M (mouldC z mb) 75) ∧ Blk W (M + 1) #[.int .u64 (pl A 0), .int .u64 (pl A 1), .int .u64 (pl A 2), .int .u64 (pl A 3), .int .u64 (pl A 4), .int .u64 (pl A 5), .int .u64 (pl A 6), .int .u64 (pl A 7)] 72
theorem own_rowM {M : Nat} {W : World} {v : Value} {xs : List Sol} (h : OwnB W (M + 1 + 1) v xs) (cs : Array Value) : OwnB (W.setRow M cs) (M + 1 + 1) v xs := by
 obtain ⟨hl, h | ⟨g, cap, cur, hv, hg, hh, hr⟩⟩ := h
 ·exact ⟨hl, .inl h⟩
 ·exact ⟨hl, .inr ⟨g, cap, cur, hv, hg, (setRow_other W M g cs (by omega)).trans hh, hr⟩⟩
/-- the loop over the pieces, behind k of them -/
structure MdI (w wr : World) (l : List Sol) (k : Nat) : Prop where
 good : goodFrom (l.take k) 0 = true
 all : ∃ s, s = allS (l.take k) ∧ Blk wr (w.heap.size + 1 + 1) #[.int .u64 (pl s 0), .int .u64 (pl s 1), .int .u64 (pl s 2), .int .u64 (pl s 3), .int .u64 (pl s 4), .int .u64 (pl s 5), .int .u64 (pl s 6), .int .u64 (pl s 7)] 72
 own : ∃ v, OwnB wr (w.heap.size + 1 + 1 + 1) v (l.take k) ∧ Blk wr (w.heap.size + 1) #[v, .int .u64 0, .int .u64 0, .int .u64 0, .int .u64 0, .int .u64 0, .int .u64 0, .int .u64 0, .int .u64 0, .map (some w.heap.size)] 75
 map : wr.heap[w.heap.size]? = some (.map #[] 0)
 bel : Below w.heap.size w wr
theorem MdI.step {w wr w4 : World} {l : List Sol} {k : Nat} (h : MdI w wr l k) {s : Sol} (hs : l[k]? = some s) (hz : s ≠ 0) (hm : meets s (allS (l.take k)) = false) {t : Sol} (ht : t = allS (l.take k) ||| s) (h1 : Blk w4 (w.heap.size + 1 + 1) #[.int .u64 (pl t 0), .int .u64 (pl t 1), .int .u64 (pl t 2), .int .u64 (pl t 3), .int .u64 (pl t 4), .int .u64 (pl t 5), .int .u64 (pl t 6), .int .u64 (pl t 7)] 72)
  {v : Value} (h2 : OwnB w4 (w.heap.size + 1 + 1 + 1) v (l.take k ++ [s])) (h3 : Blk w4 (w.heap.size + 1) #[v, .int .u64 0, .int .u64 0, .int .u64 0, .int .u64 0, .int .u64 0, .int .u64 0, .int .u64 0, .int .u64 0, .map (some w.heap.size)] 75) (h4 : Below (w.heap.size + 1) wr w4) : MdI w w4 l (k + 1) := by
 have et := take_snoc' hs
 refine ⟨?_, ⟨t, ?_, h1⟩, ⟨v, by rw [et]; exact h2, h3⟩, (h4.block _ (by omega)).trans h.map, h.bel.trans (h4.mono (by omega))⟩
 ·rw [et, goodFrom_snoc, h.good]
  show (!(s == 0 || meets s (allS (l.take k)))) = true
  rw [hm]; simpa using hz
 ·rw [et, allS_snoc]; exact ht
/-- what moulded hands back -/
def MouldedP (w : World) (l : List Sol) (e : Ending) (w' : World) : Prop :=
 (goodM l = true ∧ ∃ g mb, e = .returned (.tuple #[.pointer (some ⟨g, 0, none⟩), .int .i64 0]) ∧ w.heap.size ≤ g ∧ w.heap.size ≤ mb ∧ Mould w' g mb l ∧ Below w.heap.size w w') ∨
 (goodM l = false ∧ e = .returned (.tuple #[.pointer none, .int .i64 1]) ∧ Below w.heap.size w w')
theorem MouldedP.bad {w w' : World} {l : List Sol} (h : goodM l = false) (hb : Below w.heap.size w w') : MouldedP w l (.returned (.tuple #[.pointer none, .int .i64 1])) w' := .inr ⟨h, rfl, hb⟩
abbrev mouldX (v : Value) (f : Nat → Int) (mb : Nat) : Array Value := #[v, .int .u64 (f 0), .int .u64 (f 1), .int .u64 (f 2), .int .u64 (f 3), .int .u64 (f 4), .int .u64 (f 5), .int .u64 (f 6), .int .u64 (f 7), .map (some mb)]
theorem mouldX_set (v : Value) (f : Nat → Int) (mb : Nat) {k : Nat} (hk : k < 8) (x : Int) : (mouldX v f mb).setIfInBounds (1 + k) (.int .u64 x) = mouldX v (fun i => if i = k then x else f i) mb := by
 obtain rfl | rfl | rfl | rfl | rfl | rfl | rfl | rfl : k = 0 ∨ k = 1 ∨ k = 2 ∨ k = 3 ∨ k = 4 ∨ k = 5 ∨ k = 6 ∨ k = 7 := by omega
 all_goals rfl
theorem mouldX_eq (v : Value) (mb : Nat) {f g : Nat → Int} (h : ∀ i, i < 8 → f i = g i) : mouldX v f mb = mouldX v g mb := by
 simp only [mouldX, h 0 (by omega), h 1 (by omega), h 2 (by omega), h 3 (by omega), h 4 (by omega), h 5 (by omega), h 6 (by omega), h 7 (by omega)]
theorem idxMix (f : Nat → Int) {k : Nat} (hk : k < 8) (w : World) : (Instr.index 72 (.agg (mixA f)) (.int .i64 (k : Int))).run Tryd.prog w = .ok (.int .u64 (f k)) w := by
 obtain rfl | rfl | rfl | rfl | rfl | rfl | rfl | rfl : k = 0 ∨ k = 1 ∨ k = 2 ∨ k = 3 ∨ k = 4 ∨ k = 5 ∨ k = 6 ∨ k = 7 := by omega
 ·exact idxB0 _ _ _ _ _ _ _ _ w
 ·exact idxB1 _ _ _ _ _ _ _ _ w
 ·exact idxB2 _ _ _ _ _ _ _ _ w
 ·exact idxB3 _ _ _ _ _ _ _ _ w
 ·exact idxB4 _ _ _ _ _ _ _ _ w
 ·exact idxB5 _ _ _ _ _ _ _ _ w
 ·exact idxB6 _ _ _ _ _ _ _ _ w
 ·exact idxB7 _ _ _ _ _ _ _ _ w
theorem bits_xor_u (a b : U) : bits .xor .u64 (uI a) (uI b) = uI (a ^^^ b) := by
 show IntKind.u64.wrap ((BitVec.ofInt 64 (uI a) ^^^ BitVec.ofInt 64 (uI b)).toNat : Int) = _
 rw [ofInt_uI, ofInt_uI]
 have e : ((a ^^^ b).toNat : Int) = uI (a ^^^ b) := by unfold uI; rfl
 rw [e]; exact wrap_uI _
theorem not_u (p : U) : bits .xor .u64 (if IntKind.u64.signed = true then -1 else IntKind.u64.max) (uI p) = uI (~~~p) := by
 have e : (if IntKind.u64.signed = true then (-1 : Int) else IntKind.u64.max) = uI (BitVec.allOnes 64) := by unfold uI; rfl
 rw [e, bits_xor_u]
 congr 1
theorem not_pl (A : Sol) {k : Nat} (hk : k < 8) : bits .xor .u64 (if IntKind.u64.signed = true then -1 else IntKind.u64.max) (pl A k) = pl (~~~A) k := by
 rw [pl_uI, pl_uI, not_u, plv_not _ _ hk]
theorem Ways.of_empty {w : World} {mb : Nat} {m : List Sol} (h : w.heap[mb]? = some (.map #[] 0)) : Ways w mb m := by
 obtain ⟨D, ⟨es, clock, e, F, hs, hD⟩, h2, h3⟩ := Ways.made w m
 rw [(MapKept.heap_alloc w _).1] at e
 cases e
 exact ⟨D, ⟨_, _, h, F, hs, hD⟩, h2, h3⟩
set_option maxHeartbeats 4000000 in
theorem moulded_core (a : Option Addr) (n c : Nat) (l : List Sol) (hn : n = l.length) (hl : l.length ≤ 12) (hc : n ≤ c) (hcm : c ≤ 9223372036854775807) (w : World) (H : 0 < n → ∃ b off, a = some ⟨b, off, none⟩ ∧ Cells w b off 8 (l.map solL)) : Calls Tryd.prog 13 #[.slice a n c] w (MouldedP w l) := by
 have HN := Lib.hid hn
 have hn12 : n ≤ 12 := by omega
 have HA := Lib.hid H; clear H hn hl
 have hmm := @run_makeMap Tryd.prog
 obtain ⟨i0, hi, hz0, hz1, hz2⟩ := info_parts infoBody
 have HI0 := Lib.hid (And.intro hi (And.intro hz0 (And.intro hz1 hz2))); clear hi hz0 hz1 hz2
 go_enter Tryd.func13, Tryd.ntmps13
 go_wp2_with fail
 go_loopw [20] (fun iv wr => ∃ k : Nat, k ≤ n ∧ iv = .int .i64 k ∧ Hid (MdI w wr l k)) (fun iv _ => n - (intOf iv).toNat)
 case atStart => 
  refine ⟨0, Nat.zero_le _, rfl, Lib.hid ⟨rfl, ⟨0, rfl, ?_⟩, ⟨.slice none 0 0, World.ownsRow_nil _ _ _ _, ?_⟩, ?_, ?_⟩⟩
  ·simp only [pl_zero]
   exact (by repeat (first | with_reducible assumption | (refine Blk.at _ _ ?_; (simp; done)) | with_reducible refine Blk.alloc ?_ _ | with_reducible refine Blk.drew ?_ | with_reducible refine Blk.rowS ?_ _ | with_reducible refine Blk.rowO ?_ _ (by simp)))
  ·exact (by repeat (first | with_reducible assumption | (refine Blk.at _ _ ?_; (simp; done)) | with_reducible refine Blk.alloc ?_ _ | with_reducible refine Blk.drew ?_ | with_reducible refine Blk.rowS ?_ _ | with_reducible refine Blk.rowO ?_ _ (by simp)))
  ·rw [Below.heap_alloc _ _ _ (by simp; omega), Below.heap_alloc _ _ _ (by simp)]
   exact (MapKept.heap_alloc w _).1
  ·exact (by repeat (first | with_reducible exact bel_refl _ | with_reducible assumption | with_reducible refine bel_drewN ?_ _ | with_reducible refine bel_drew ?_ | with_reducible refine bel_alloc ?_ _ | with_reducible refine bel_row ?_ ?_ _ | with_reducible refine bel_set ?_ ?_ _ | refine bel_trans ?_ (by with_reducible assumption) | (simp; done) | (simp; omega)))
 case round =>
  obtain ⟨k, hk, rfl, HI⟩ := hrel
  by_cases hlt : k < n
  ·obtain ⟨hgood, ⟨A, hA, BA⟩, ⟨v, hv, BM⟩, hmap, hbel⟩ := HI.out
   obtain ⟨b, off, rfl, H⟩ := HA.out (by omega)
   have hb := H.1
   have HH := Lib.hid H; clear H
   have hsz := hbel.size
   have hkl : k < l.length := by rw [← HN.out]; exact hlt
   obtain ⟨s, hs⟩ : ∃ s, l[k]? = some s := ⟨_, List.getElem?_eq_getElem hkl⟩
   obtain ⟨c0, c1, c2, c3, c4, c5, c6, c7⟩ := sol_cells (HH.out.mono hbel hb) hs
   have HK := Lib.hid (And.intro hgood (And.intro hA (And.intro hv (And.intro hmap (And.intro hbel hs)))))
   clear hgood hA hv hmap hbel hs HI hkl
   have lA := BA.lt
   have lM := BM.lt
   have hA := BA.cell
   have hbw : b < wr.heap.size := by omega
   have BAH := Lib.hid BA; have BMH := Lib.hid BM
   clear BA BM
   by_cases hz : s = 0
   ·have ez : (s == 0#512) = true := beq_iff_eq.2 hz
    have HZ := Lib.hid hz; clear hz
    go_wp2_with fail
    go_ret2
    exact MouldedP.bad (goodFrom_bad HK.out.2.2.2.2.2 (by rw [beq_iff_eq.2 HZ.out]; rfl)) (bel_trans HK.out.2.2.2.2.1 (by repeat (first | with_reducible exact bel_refl _ | with_reducible assumption | with_reducible refine bel_drewN ?_ _ | with_reducible refine bel_drew ?_ | with_reducible refine bel_alloc ?_ _ | with_reducible refine bel_row ?_ ?_ _ | with_reducible refine bel_set ?_ ?_ _ | refine bel_trans ?_ (by with_reducible assumption) | (simp; done) | (simp; omega))))
   ·have ez : (s == 0#512) = false := by rw [beq_eq_false_iff_ne]; exact hz
    have HZ0 := Lib.hid hz; clear hz
    cases em : meets s A
    ·go_wp2_with fail
     refine (meets_spec s A _).mono ?_
     rintro e w2 ⟨rfl, hb2⟩
     go_wp2_with fail
     have BS : Blk w2 (wr.heap.size + 1) #[.int .u64 (pl s 0), .int .u64 (pl s 1), .int .u64 (pl s 2), .int .u64 (pl s 3), .int .u64 (pl s 4), .int .u64 (pl s 5), .int .u64 (pl s 6), .int .u64 (pl s 7)] 72 := Blk.grow (by repeat (first | with_reducible assumption | (refine Blk.at _ _ ?_; (simp; done)) | with_reducible refine Blk.alloc ?_ _ | with_reducible refine Blk.drew ?_ | with_reducible refine Blk.rowS ?_ _ | with_reducible refine Blk.rowO ?_ _ (by simp))) hb2
     have hg : wr.grownBy w2 none := gb_below (gb_alloc (gb_alloc (gb_refl _ _) _) _) hb2
     have hsz2 := hg.size
     have lS := BS.lt
     have HG := Lib.hid (And.intro BS hg); clear BS hg hb2 hA
     obtain ⟨wo, hwo⟩ : ∃ x, x = wr := ⟨_, rfl⟩
     subst hwo
     go_loopw [33] (fun iv wx => ∃ z : Nat, z ≤ 8 ∧ iv = .int .i64 z ∧ Hid (Blk wx (w.heap.size + 1 + 1) (mixA fun i => if i < z then pl (A ||| s) i else pl A i) 72 ∧ w2.grownBy wx (some (w.heap.size + 1 + 1)))) (fun iv _ => 8 - (intOf iv).toNat)
     case atStart => exact ⟨0, by omega, rfl, Lib.hid ⟨(BAH.out.gb HG.out.2 (by simp)), gb_refl _ _⟩⟩
     case round =>
      obtain ⟨z, hz, rfl, HM⟩ := hrel
      by_cases hz8 : z < 8
      ·obtain ⟨BX, hgx⟩ := HM.out
       have cz : wr.cell? ⟨w.heap.size + 1 + 1, z, none⟩ = some (.int .u64 (pl A z)) := by rw [BX.cell, mixA_get _ hz8]; simp
       have sz : wr.cell? ⟨wo.heap.size + 1, z, none⟩ = some (.int .u64 (pl s z)) := by rw [(HG.out.1.gb hgx (by simp; omega)).cell z]; exact mixA_get (fun i => pl s i) hz8
       have fz := BX.free z
       have lx := BX.lt
       have ls := (HG.out.1.gb hgx (by simp; omega)).lt
       have eo := bits_or_pl A s z
       have BXH := Lib.hid (And.intro BX hgx); clear BX hgx HM
       go_wp2_with fail
       refine Go.Rel.region_still_tail 7 (by kernel_rfl) (by kernel_rfl) ?_
       simp only [List.take_succ_cons, List.take_zero, List.drop_succ_cons, List.drop_zero]
       repeat still_step
       refine wpStill_nil ?_
       go_wp2_with fail
       go_roundw
       case rel =>
        refine ⟨z + 1, by omega, by go_num, Lib.hid ⟨?_, ?_⟩⟩
        ·have := (BXH.out.1.drew).set z (.int .u64 (pl (A ||| s) z))
         rw [mixA_set _ hz8] at this
         rw [mixA_eq (f := fun i => if i < z + 1 then pl (A ||| s) i else pl A i) (g := fun i => if i = z then pl (A ||| s) z else if i < z then pl (A ||| s) i else pl A i)]
         ·exact this
         ·intro i _
          by_cases e : i = z
          ·subst e; simp
          ·simp only [e, if_false]
           by_cases h : i < z
           ·rw [if_pos h, if_pos (by omega)]
           ·rw [if_neg h, if_neg (by omega)]
        ·exact gb_set (gb_drew BXH.out.2) _ rfl _
       case measure => simp [intOf]; omega
      ·obtain rfl : z = 8 := by omega
       go_wp2_with fail
       obtain ⟨BX, hgx⟩ := HM.out
       have BXA : Blk wr (w.heap.size + 1 + 1) #[.int .u64 (pl (A ||| s) 0), .int .u64 (pl (A ||| s) 1), .int .u64 (pl (A ||| s) 2), .int .u64 (pl (A ||| s) 3), .int .u64 (pl (A ||| s) 4), .int .u64 (pl (A ||| s) 5), .int .u64 (pl (A ||| s) 6), .int .u64 (pl (A ||| s) 7)] 72 := by
        rw [mixA_eq (g := fun i => pl (A ||| s) i) (fun i hi => by rw [if_pos hi])] at BX
        exact BX
       have hgo := HG.out.2
       have BMx : Blk wr (w.heap.size + 1) #[v, .int .u64 0, .int .u64 0, .int .u64 0, .int .u64 0, .int .u64 0, .int .u64 0, .int .u64 0, .int .u64 0, .map (some w.heap.size)] 75 := (BMH.out.gb hgo (by simp)).gb hgx (by simp)
       have BSx : Blk wr (wo.heap.size + 1) #[.int .u64 (pl s 0), .int .u64 (pl s 1), .int .u64 (pl s 2), .int .u64 (pl s 3), .int .u64 (pl s 4), .int .u64 (pl s 5), .int .u64 (pl s 6), .int .u64 (pl s 7)] 72 := HG.out.1.gb hgx (by simp; omega)
       have lo : w.heap.size + 1 + 1 < wo.heap.size := lA
       have hb4 : Below (w.heap.size + 1 + 1) wo wr := ((Below.refl _ _).grown hgo (by omega) (fun k hk => by cases hk)).grown hgx (by omega) (fun k hk => by cases hk; omega)
       have hownx : OwnB wr (w.heap.size + 1 + 1 + 1) v (l.take k) := by
        have h1 := HK.out.2.2.1.kept hgo (by cases hv : v.ownBlock <;> simp)
        exact h1.kept hgx (.inr (fun e => by have := (h1.lt _ e).1; omega))
       have HX := Lib.hid (And.intro BXA (And.intro hownx hb4)); clear BX hgx HM hgo BXA hownx hb4
       have cM := BMx.cell; have cS := BSx.cell; have lM' := BMx.lt; have lS' := BSx.lt
       have BMH2 := Lib.hid BMx; have BSH := Lib.hid BSx; clear BMx BSx
       have hbK := HK.out.2.2.1.lt
       have hnS : v.ownBlock ≠ some (wo.heap.size + 1) := fun e => by have := (hbK _ e).2; omega
       clear hbK
       obtain ⟨M, hM⟩ : ∃ M, M = w.heap.size + 1 := ⟨_, rfl⟩
       have hbase : Hid (I16 M (wo.heap.size + 1) w.heap.size v (l.take k) s (A ||| s) false false false false undef undef wr) := Lib.hid ⟨by have := HX.out.2.2.size; omega, fun _ => BSH.out, fun _ => by rw [hM]; exact HX.out.2.1, fun e => by (cases e), fun e => by (cases e), fun _ => by rw [hM]; exact BMH2.out, fun e => by (cases e), by rw [hM]; exact HX.out.1⟩
       rw [← hM]
       have HMM := Lib.hid hM
       clear hM
       refine wp_region_val (Below M) (fun L vs W => I16 M (wo.heap.size + 1) w.heap.size v (l.take k) s (A ||| s) (L 5) (L 6) (L 7) (L 10) (vs 6) (vs 7) W) [Is (.pointer (some ⟨M, 0, none⟩)), Is (.pointer (some ⟨M, 0, none⟩)), Is (.pointer (some ⟨M, 0, none⟩)), Is (.pointer (some ⟨M, 0, none⟩)), Is v, Is (.agg #[.int .u64 (pl s 0), .int .u64 (pl s 1), .int .u64 (pl s 2), .int .u64 (pl s 3), .int .u64 (pl s 4), .int .u64 (pl s 5), .int .u64 (pl s 6), .int .u64 (pl s 7)]), AnyV, AnyV, Is (.pointer (some ⟨M, 0, none⟩)), Is (.pointer (some ⟨M, 0, none⟩)), AnyV] (by kernel_rfl) (by kernel_rfl) rfl (Below.refl M) (fun _ _ _ => Below.trans) (stable_mem ⟨fun _ _ _ h _ => h, fun _ _ _ h _ => h, fun _ _ _ h _ => h, fun _ _ _ h _ => h, fun _ _ _ h _ => h, fun _ _ _ h _ => h, fun _ _ _ h _ => h, fun _ _ _ h _ => h, fun _ _ _ h _ => h, fun _ _ _ h _ => h, fun _ _ _ h _ => h, trivial⟩) wr (Below.drew (Below.refl _ _)) (hbase.out) ?_
       refine val_cons ?_ (fun v0 => ?_)
       ·intro L vs w1 hvs hat hb hI hF; try simp [factsI, Region.binds, Is] at hF
        have HI := Lib.hid hI; clear hI
        go_simp
        simp [upd]
        exact ⟨Below.refl _ _, HI.out⟩
       refine val_cons ?_ (fun v1 => ?_)
       ·intro L vs w1 hvs hat hb hI hF; try simp [factsI, Region.binds, Is] at hF
        have HI := Lib.hid hI; clear hI
        go_simp
        simp [upd]
        exact ⟨Below.refl _ _, HI.out⟩
       refine val_cons ?_ (fun v2 => ?_)
       ·intro L vs w1 hvs hat hb hI hF; try simp [factsI, Region.binds, Is] at hF
        have HI := Lib.hid hI; clear hI
        go_simp
        simp [upd]
        exact ⟨Below.refl _ _, HI.out⟩
       refine val_cons ?_ (fun v3 => ?_)
       ·intro L vs w1 hvs hat hb hI hF; try simp [factsI, Region.binds, Is] at hF
        have HI := Lib.hid hI; clear hI
        go_simp
        simp [upd]
        exact ⟨Below.refl _ _, HI.out⟩
       refine val_cons ?_ (fun v4 => ?_)
       ·intro L vs w1 hvs hat hb hI hF; try simp [factsI, Region.binds, Is] at hF
        have h10 := hat.later 11 10 (by kernel_rfl)
        have c0 := (hI.2.2.2.2.2.1 h10).cell
        have HI := Lib.hid hI; clear hI h10
        go_simp
        simp [upd]
        exact ⟨Below.refl _ _, HI.out⟩
       refine val_cons ?_ (fun v5 => ?_)
       ·intro L vs w1 hvs hat hb hI hF; try simp [factsI, Region.binds, Is] at hF
        have h5 := hat.self
        obtain ⟨hs, a1, a2⟩ := hI
        have c0 := (a1 h5).cell
        have HA := Lib.hid a2
        clear a1 a2 h5
        go_simp
        simp [upd]
        exact ⟨Below.refl _ _, ⟨hs, fun e => by (cases e), HA.out⟩⟩
       refine val_cons ?_ (fun v6 => ?_)
       ·intro L vs w1 hvs hat hb hI hF; try simp [factsI, Region.binds, Is] at hF
        have h7 := Lib.hid (hat.later 11 7 (by kernel_rfl))
        have h10 := Lib.hid (hat.later 11 10 (by kernel_rfl))
        obtain ⟨hs, a1, a2, a3, a4, a5, a6, a7⟩ := hI
        have HA := Lib.hid (And.intro a1 (And.intro a2 (And.intro a5 a7)))
        clear a1 a2 a3 a4 a5 a6 a7
        go_simp
        simp [upd]
        exact ⟨(bel_alloc (bel_refl _) _).mono (by omega), ⟨by simp; omega, fun e => (HA.out.1 e).alloc _, fun e => own_bel (HA.out.2.1 h7.out) (bel_alloc (bel_refl _) _), fun _ _ => ⟨_, rfl, Blk.new _ _ _⟩, fun e => (by first | (rw [h7.out] at e; cases e) | cases e), fun e => (HA.out.2.2.1 h10.out).alloc _, fun e => (by first | (rw [h10.out] at e; cases e) | cases e), HA.out.2.2.2.alloc _⟩, trivial⟩
       refine val_cons ?_ (fun v7 => ?_)
       ·intro L vs w1 hvs hat hb hI hF; try simp [factsI, Region.binds, Is] at hF
        have h6 := hat.ahead 11 6 (by kernel_rfl)
        have h7 := hat.self
        have h5 := Lib.hid (hat.ahead 11 5 (by kernel_rfl))
        have h10 := Lib.hid (hat.later 11 10 (by kernel_rfl))
        have hv6 : vs 6 = v6 := hvs 6 (by omega)
        have hv4 := hF.1
        subst hv4
        have hs := hI.1
        have hO := hI.2.2.1 h7
        have hOL := hO.lt
        have hM0 := hI.2.2.2.2.2.1 h10.out
        have hA0 := hI.2.2.2.2.2.2.2
        refine Exists.elim (hI.2.2.2.1 h6 h7) (fun g hgB => ?_)
        have hg := hgB.1
        have hB := hgB.2
        rw [hv6] at hg
        subst hg
        have HX7 := Lib.hid (And.intro hO (And.intro hB (And.intro hM0 (And.intro hA0 hOL))))
        clear hO hB hM0 hA0 hOL hgB hI hF h6 h7 hv6
        have hkl : (l.take k).length ≤ 1000 := by rw [List.length_take, ← HN.out]; omega
        refine Exists.elim (app_body HX7.out.1 HX7.out.2.1 hkl hs) (fun v' h => Exists.elim h (fun w' h => ?_))
        have hbl : Below (M + 1 + 1) w1 w' := (Below.refl (M + 1 + 1) w1).grown h.2.2 hs (fun k hk => (HX7.out.2.2.2.2 k hk).1)
        refine step_append (v := v4) (v7 := .slice (some ⟨g, 0, none⟩) 1 1) rfl rfl ?_ ?_ h.1 ?_
        ·go_simp
        ·go_simp
        ·exact ⟨hbl.mono (by omega), ⟨Nat.le_trans hs hbl.size, fun e => (by have : L 5 = false := e; rw [h5.out] at this; cases this), fun e => (by cases e), fun _ e => (by cases e), fun _ => h.2.1, fun _ => HX7.out.2.2.1.below hbl (by omega), fun e => (by have : L 10 = true := e; rw [h10.out] at this; cases this), HX7.out.2.2.2.1.below hbl (by omega)⟩, trivial⟩
       refine val_cons ?_ (fun v8 => ?_)
       ·intro L vs w1 hvs hat hb hI hF; try simp [factsI, Region.binds, Is] at hF
        have HI := Lib.hid hI; clear hI
        go_simp
        simp [upd]
        exact ⟨Below.refl _ _, HI.out⟩
       refine val_cons ?_ (fun v9 => ?_)
       ·intro L vs w1 hvs hat hb hI hF; try simp [factsI, Region.binds, Is] at hF
        have HI := Lib.hid hI; clear hI
        go_simp
        simp [upd]
        exact ⟨Below.refl _ _, HI.out⟩
       refine val_cons ?_ (fun v10 => ?_)
       ·intro L vs w1 hvs hat hb hI hF; try simp [factsI, Region.binds, Is] at hF
        have h7 := Lib.hid (hat.ahead 11 7 (by kernel_rfl))
        have h6 := Lib.hid (hat.ahead 11 6 (by kernel_rfl))
        have h5 := Lib.hid (hat.ahead 11 5 (by kernel_rfl))
        have h10 := Lib.hid hat.self
        have hv7 : vs 7 = v7 := hvs 7 (by omega)
        have hs := hI.1
        have hO := hI.2.2.2.2.1 h7.out
        have hM0 := hI.2.2.2.2.2.1 h10.out
        have hA0 := hI.2.2.2.2.2.2.2
        rw [hv7] at hO
        obtain ⟨p, n7, c7, hp⟩ := own_shapeN hO
        subst hp
        have r0 := hM0.row
        have HW := Lib.hid hM0.rw
        have HY := Lib.hid (And.intro hO (And.intro hM0 (And.intro hA0 hv7)))
        rw [← HW.out]
        clear hO hM0 hA0 hv7 hI
        go_simp
        rw [HW.out]
        simp [upd]
        exact ⟨blw_row (Below.refl _ _) (Nat.le_refl _) _, ⟨by rw [setRow_size]; exact hs, fun e => (by first | (rw [h5.out] at e; cases e) | cases e), fun e => (by first | (rw [h7.out] at e; cases e) | cases e), fun _ e => (by first | (rw [h7.out] at e; cases e) | cases e), fun _ => (by rw [HY.out.2.2.2]; exact own_rowM HY.out.1 _), fun e => (by first | (rw [h10.out] at e; cases e) | cases e), fun _ => (by rw [HY.out.2.2.2]; exact HY.out.2.1.rowS _), HY.out.2.2.1.rowO _ (by omega)⟩, trivial⟩
       refine val_nil ?_
       intro vs w1 hvs hb hI hF
       simp [Is, Nat.forall_lt_succ_right] at hF
       have e0 := hF.1.1.1.1.1.1.1.1.1.1
       have e1 := hF.1.1.1.1.1.1.1.1.1.2
       have e2 := hF.1.1.1.1.1.1.1.1.2
       have e3 := hF.1.1.1.1.1.1.1.2
       have e4 := hF.1.1.1.1.1.1.2
       have e5 := hF.1.1.1.1.1.2
       have e6 := hF.1.1.1.1.2
       have e7 := hF.1.1.1.2
       have e8 := hF.1.1.2
       have e9 := hF.1.2
       have e10 := hF.2
       clear hF
       simp only [Act.put, List.setIfInBounds_toArray, List.set_cons_succ, List.set_cons_zero, e0, e1, e2, e3, e4, e5, e8, e9]
       clear e0 e1 e2 e3 e4 e5 e8 e9
       have hv7 : vs 7 = v7 := hvs 7 (by omega)
       have hO := hI.2.2.2.2.1 rfl
       have hM0 := hI.2.2.2.2.2.2.1 rfl
       have hA0 := hI.2.2.2.2.2.2.2
       rw [hv7] at hO hM0
       have HZ := Lib.hid (And.intro hO (And.intro hM0 (And.intro hA0 hb)))
       clear hO hM0 hA0 hb hvs hv7 hI e6 e7 e10
       obtain rfl := HMM.out
       go_wp2_with fail
       go_roundw
       case rel =>
        refine ⟨k + 1, by omega, by go_num, Lib.hid (MdI.step (s := s) (t := A ||| s) (v := v7) ⟨HK.out.1, ⟨A, HK.out.2.1, BAH.out⟩, ⟨v, HK.out.2.2.1, BMH.out⟩, HK.out.2.2.2.1, HK.out.2.2.2.2.1⟩ HK.out.2.2.2.2.2 HZ0.out (by rw [← HK.out.2.1]; exact em) (by rw [← HK.out.2.1]) ?_ ?_ ?_ ?_)⟩
        ·exact HZ.out.2.2.1
        ·exact HZ.out.1
        ·exact HZ.out.2.1
        ·exact (HX.out.2.2.mono (by omega)).trans HZ.out.2.2.2
       case measure => simp [intOf]; omega
    ·go_wp2_with fail
     refine (meets_spec s A _).mono ?_
     rintro e w2 ⟨rfl, hb2⟩
     go_wp2_with fail
     go_ret2
     exact MouldedP.bad (goodFrom_bad HK.out.2.2.2.2.2 (by rw [← HK.out.2.1, em]; simp)) (bel_trans HK.out.2.2.2.2.1 (bel_trans (by repeat (first | with_reducible exact bel_refl _ | with_reducible assumption | with_reducible refine bel_drewN ?_ _ | with_reducible refine bel_drew ?_ | with_reducible refine bel_alloc ?_ _ | with_reducible refine bel_row ?_ ?_ _ | with_reducible refine bel_set ?_ ?_ _ | refine bel_trans ?_ (by with_reducible assumption) | (simp; done) | (simp; omega))) hb2))
  ·obtain rfl : k = n := by omega
   obtain ⟨hgood, ⟨A, hA, BA⟩, ⟨v, hv, BM⟩, hmap, hbel⟩ := HI.out
   have hsz := hbel.size
   have lA := BA.lt
   have cA := BA.cell
   have BMH := Lib.hid BM
   have HK := Lib.hid (And.intro hgood (And.intro hA (And.intro BA (And.intro hv (And.intro hmap hbel)))))
   clear hgood hA BA hv BM hmap hbel HI
   go_wp2_with fail
   obtain ⟨wo, hwo⟩ : ∃ x, x = wr := ⟨_, rfl⟩
   subst hwo
   go_loopw [57] (fun iv wx => ∃ z : Nat, z ≤ 8 ∧ iv = .int .i64 z ∧ Hid (Blk wx (w.heap.size + 1) (mouldX v (fun i => if i < z then pl (~~~A) i else 0) w.heap.size) 75 ∧ wo.grownBy wx (some (w.heap.size + 1)))) (fun iv _ => 8 - (intOf iv).toNat)
   case atStart => exact ⟨0, by omega, rfl, Lib.hid ⟨BMH.out, gb_refl _ _⟩⟩
   case round =>
    obtain ⟨z, hz, rfl, HM⟩ := hrel
    by_cases hz8 : z < 8
    ·obtain ⟨BX, hgx⟩ := HM.out
     have fz := BX.free (1 + z)
     have cz : ∃ u, wr.cell? ⟨w.heap.size + 1, 1 + z, none⟩ = some u := by
      rw [BX.cell]
      exact ⟨_, Array.getElem?_eq_getElem (by show 1 + z < 10; omega)⟩
     obtain ⟨u, cz⟩ := cz
     have lx := BX.lt
     have ei := idxMix (fun i => pl A i) hz8
     have BXH := Lib.hid (And.intro BX hgx); clear BX hgx HM
     go_wp2_with fail
     go_roundw
     case rel =>
      refine ⟨z + 1, by omega, by go_num, Lib.hid ⟨?_, ?_⟩⟩
      ·rw [not_pl A hz8]
       have := BXH.out.1.set (1 + z) (.int .u64 (pl (~~~A) z))
       rw [mouldX_set _ _ _ hz8] at this
       rw [mouldX_eq (f := fun i => if i < z + 1 then pl (~~~A) i else 0) (g := fun i => if i = z then pl (~~~A) z else if i < z then pl (~~~A) i else 0)]
       ·exact this
       ·intro i _
        by_cases e : i = z
        ·subst e; simp
        ·simp only [e, if_false]
         by_cases h : i < z
         ·rw [if_pos h, if_pos (by omega)]
         ·rw [if_neg h, if_neg (by omega)]
      ·exact gb_set BXH.out.2 _ rfl _
     case measure => simp [intOf]; omega
    ·obtain rfl : z = 8 := by omega
     go_wp2_with fail
     go_ret2
     obtain ⟨BX, hgx⟩ := HM.out
     obtain ⟨hgood, hA, BA, hv, hmap, hbel⟩ := HK.out
     have hk : k = l.length := HN.out
     rw [hk, List.take_of_length_le (Nat.le_refl _)] at hgood hA hv
     have ho : OwnB wr (w.heap.size + 1 + 1 + 1) v l := hv.kept hgx (.inr (fun e => by have := (hv.lt _ e).1; omega))
     obtain ⟨p, c', hp, _⟩ := own_shape' ho
     refine .inl ⟨hgood, w.heap.size + 1, w.heap.size, rfl, by omega, Nat.le_refl _, ⟨⟨p, c', ?_, ?_⟩, ?_⟩, ?_⟩
     ·rw [← hp]
      have e : sandM l = ~~~A := by unfold sandM; rw [hA]
      rw [e]
      rw [mouldX_eq (f := fun i => if i < 8 then pl (~~~A) i else 0) (g := fun i => pl (~~~A) i) v w.heap.size (fun i hi => by rw [if_pos hi])] at BX
      exact BX
     ·rw [← hp]; exact ho.sl
     ·have hm : wr.heap[w.heap.size]? = some (.map #[] 0) := (hgx.block _ (by omega) (by simp)).trans hmap
      exact Ways.of_empty hm
     ·exact gb_bel hbel hgx (by omega)
theorem moulded_spec {w : World} {v : Value} {l : List Sol} (H : SlS w v l) (hl : l.length ≤ 12) : Calls Tryd.prog 13 #[v] w (MouldedP w l) := by
 rcases H.cases with ⟨h, a, c, rfl, hc⟩ | ⟨b, off, c, rfl, hc, hcm, hpos, hcs⟩
 ·have h : l = [] := by simpa using h
  subst h
  exact moulded_core a 0 c [] rfl (by simp) (Nat.zero_le _) hc w (fun h => absurd h (by omega))
 ·rw [List.length_map] at *
  exact moulded_core _ l.length c l rfl hl hc hcm w (fun _ => ⟨b, off, rfl, hcs⟩)
theorem moulded_over {w : World} {v : Value} {l : List Sol} (H : SlS w v l) (hl : 12 < l.length) : Calls Tryd.prog 13 #[v] w fun e w' => e = .returned (.tuple #[.pointer none, .int .i64 2]) ∧ w' = w := by
 obtain ⟨a, n, c, rfl, hn, _⟩ := H.out
 exact moulded_big a n c (by omega) w
end Go.Proofs.YtkcpnhigekopaaaDoor
end
