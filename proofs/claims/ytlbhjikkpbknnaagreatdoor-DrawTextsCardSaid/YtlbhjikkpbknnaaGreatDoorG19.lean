import Derived.Test.YtlbhjikkpbknnaaGreatDoorG17
/-
  Given contracts of functions of the program, and laws for them, one behind the other.
-/
set_option linter.unusedVariables false
set_option linter.unusedSimpArgs false
set_option linter.unusedSectionVars false
section
namespace Go.Proofs.YtlbhjikkpbknnaaGreatDoor
open Go.RowKit Go.Rel Go.Draw
set_option maxRecDepth 100000
/-! a table in one block -/
def tab (n : Nat) (f : Nat → Value) : Array Value := ((List.range n).map f).toArray
theorem tab_get {n : Nat} {f : Nat → Value} {t : Nat} (h : t < n) : (tab n f)[t]? = some (f t) := by
 unfold tab; simp [h]
theorem tab_size (n : Nat) (f : Nat → Value) : (tab n f).size = n := by simp [tab]
theorem tab_set (n : Nat) (f : Nat → Value) (t : Nat) (v : Value) : (tab n f).setIfInBounds t v = tab n (fun k => if k = t then v else f k) := by
 apply Array.ext
 ·simp [tab_size]
 ·intro k h1 h2
  rw [tab_size] at h2
  have e : (tab n (fun k => if k = t then v else f k))[k]? = some (if k = t then v else f k) := tab_get h2
  rw [Array.getElem?_eq_getElem (by rw [tab_size]; exact h2)] at e
  have e' : (tab n f)[k]? = some (f k) := tab_get h2
  rw [Array.getElem?_eq_getElem (by rw [tab_size]; exact h2)] at e'
  rw [Option.some.inj e, Array.getElem_setIfInBounds]
  ·by_cases hk : t = k
   ·subst hk; simp
   ·rw [if_neg hk, if_neg (Ne.symm hk)]; exact Option.some.inj e'
  ·rw [tab_size]; exact h2
theorem tab_congr {n : Nat} {f g : Nat → Value} (h : ∀ t, t < n → f t = g t) : tab n f = tab n g := by
 unfold tab; congr 1
 exact List.map_congr_left fun t ht => h t (List.mem_range.1 ht)
theorem made_tab (x : Value) (n : Nat) : madeCells #[x] n = tab n (fun _ => x) := by
 apply Array.ext
 ·simp [tab_size, size_madeCells]
 ·intro k h1 h2
  rw [tab_size] at h2
  have e : (tab n (fun _ => x))[k]? = some x := tab_get h2
  rw [Array.getElem?_eq_getElem (by rw [tab_size]; exact h2)] at e
  rw [Option.some.inj e]
  simp [madeCells, Nat.mod_one]
theorem own_full {w : World} {base : Nat} {e : TypeId} {B n : Nat} {xs : List Value} (h : w.ownsRow base e 1 (.slice (some ⟨B, 0, none⟩) n n) n xs) : ∃ cur, Blk w B cur e ∧ cur.toList = xs ∧ base ≤ B := by
 rcases h.2 with ⟨h1, _⟩ | ⟨g, cap, cur, h1, hb, hg, hnc, hcm, hcs, ht⟩
 ·cases h1
 ·cases h1
  refine ⟨cur, hg, ?_, hb⟩
  rw [← ht, List.take_of_length_le]
  simp [hcs]
theorem own_made {w : World} {base : Nat} {e : TypeId} {B n : Nat} {x : Value} (h : w.ownsRow base e 1 (.slice (some ⟨B, 0, none⟩) n n) n (madeCells #[x] (n * 1)).toList) : Blk w B (tab n (fun _ => x)) e ∧ base ≤ B := by
 obtain ⟨cur, h1, h2, h3⟩ := own_full h
 refine ⟨?_, h3⟩
 rw [Nat.mul_one, made_tab] at h2
 have : cur = tab n (fun _ => x) := Array.toList_inj.1 h2
 rw [← this]; exact h1
/-! the numbers of ways, in a table -/
abbrev wayV (ws : List Nat) (t : Nat) : Value := .int .i64 (ws.getD t 0 : Nat)
theorem allU_nat : ∀ n, n ≤ 12 → (allU n).toNat = 2 ^ n - 1 := by decide +kernel
theorem uI_ofNat {k : Nat} (h : k < 18446744073709551616) : uI (BitVec.ofNat 64 k) = (k : Int) := (uI_lit k h).symm
def wstep (k c : Nat) (ws : List Nat) (p : Nat) : List Nat := ws.set (k ||| 2 ^ p) (min (ws.getD (k ||| 2 ^ p) 0 + c) 1000000000)
theorem addWays_zero {m : List Sol} {ws : List Nat} {k : Nat} (h : ws.getD k 0 = 0) : addWays m ws k = ws := by unfold addWays; rw [if_pos h]
theorem addWays_some {m : List Sol} {ws : List Nat} {k : Nat} (h : ws.getD k 0 ≠ 0) : addWays m ws k = (listU (readyM m (BitVec.ofNat 64 k))).foldl (wstep k (ws.getD k 0)) ws := by unfold addWays; rw [if_neg h]; rfl
theorem getD_set (ws : List Nat) (i v t : Nat) (hi : i < ws.length) : (ws.set i v).getD t 0 = if t = i then v else ws.getD t 0 := by
 rw [List.getD_eq_getElem?_getD, List.getD_eq_getElem?_getD, List.getElem?_set]
 by_cases e : i = t
 ·subst e; simp [hi]
 ·rw [if_neg e, if_neg (fun h => e h.symm)]
def Few (N : Nat) (ws : List Nat) : Prop := ws.length = N ∧ ∀ t, ws.getD t 0 ≤ 1000000000
theorem Few.step {N k c p : Nat} {ws : List Nat} (h : Few N ws) (hi : k ||| 2 ^ p < N) : Few N (wstep k c ws p) := by
 refine ⟨by unfold wstep; rw [List.length_set]; exact h.1, fun t => ?_⟩
 unfold wstep
 rw [getD_set _ _ _ _ (by rw [h.1]; exact hi)]
 split
 ·exact Nat.min_le_right _ _
 ·exact h.2 t
theorem or_lt {n k p : Nat} (hk : k < 2 ^ n) (hp : p < n) : k ||| 2 ^ p < 2 ^ n := Nat.or_lt_two_pow hk (Nat.pow_lt_pow_right (by omega) hp)
theorem or_ne {k p : Nat} (h : k.testBit p = false) : k ||| 2 ^ p ≠ k := fun e => by
 have := congrArg (fun x => x.testBit p) e
 simp only [Nat.testBit_or, h, Nat.testBit_two_pow_self] at this
 cases this
theorem ready_in {m : List Sol} (hm : m.length ≤ 12) {k p : Nat} (hk : k < 4096) (h : p ∈ listU (readyM m (BitVec.ofNat 64 k))) : p < m.length ∧ k.testBit p = false := by
  rw [listU_mem, ready_bit m (by omega)] at h
  simp only [Bool.and_eq_true, decide_eq_true_eq, Bool.not_eq_true'] at h
  refine ⟨by simpa using h.1.1, ?_⟩
  have := h.2
  rw [BitVec.getLsbD_ofNat] at this
  have hp : p < 12 := by have : p < m.length := by simpa using h.1.1
                         omega
  simpa [show p < 64 by omega] using this
theorem tab_wset {N : Nat} {ws : List Nat} (i v : Nat) (hi : i < ws.length) : (tab N (wayV ws)).setIfInBounds i (.int .i64 (v : Nat)) = tab N (wayV (ws.set i v)) := by
 rw [tab_set]
 refine tab_congr fun t _ => ?_
 show _ = Value.int .i64 (((ws.set i v).getD t 0 : Nat) : Int)
 rw [getD_set _ _ _ _ hi]
 split <;> rfl
end Go.Proofs.YtlbhjikkpbknnaaGreatDoor
end
section
namespace Go.Proofs.YtlbhjikkpbknnaaGreatDoor
open Go.RowKit Go.Rel Go.Draw
set_option maxRecDepth 100000
/-! in how many sequences all pieces can go -/
def waysU (m : List Sol) (k : Nat) : List Nat := (List.range k).foldl (addWays m) ((List.replicate (2 ^ m.length) 0).set 0 1)
theorem waysU_succ (m : List Sol) (k : Nat) : waysU m (k + 1) = addWays m (waysU m k) k := by unfold waysU; rw [List.range_succ, List.foldl_append]; rfl
theorem few_start {N : Nat} (hN : 0 < N) : Few N ((List.replicate N 0).set 0 1) := by
 refine ⟨by simp, fun t => ?_⟩
 rw [getD_set _ _ _ _ (by simpa using hN)]
 split
 ·omega
 ·rw [List.getD_eq_getElem?_getD, List.getElem?_replicate]; split <;> simp
theorem few_fold {N k c : Nat} : ∀ (L : List Nat) (ws : List Nat), (∀ p ∈ L, k ||| 2 ^ p < N) → Few N ws → Few N (L.foldl (wstep k c) ws)
 | [], _, _, h => h
 | p :: L, ws, hL, h => few_fold L _ (fun q hq => hL q (by simp [hq])) (h.step (hL p (by simp)))
theorem own_cellN {W : World} {base : Nat} {v : Value} {L : List Nat} (h : OwnI W base v (intsL L)) {k x : Nat} (hx : L[k]? = some x) : ∃ ib io c, v = .slice (some ⟨ib, io, none⟩) L.length c ∧ base ≤ ib ∧ ib < W.heap.size ∧ W.cell? ⟨ib, io + k, none⟩ = some (.int .i64 (x : Int)) := by
 rcases h.2 with ⟨_, h0⟩ | ⟨g, cap, cur, rfl, hb, hg, _⟩
 ·rw [intsL_length] at h0
  have : L = [] := List.eq_nil_of_length_eq_zero h0
  subst this; simp at hx
 ·have hs := h.cells (g := g) rfl k (.int .i64 (x : Int)) (by unfold intsL; rw [List.getElem?_map, List.getElem?_map, hx]; rfl)
  refine ⟨g, 0, cap, by rw [intsL_length], hb, (Array.getElem?_eq_some_iff.1 hg).1, ?_⟩
  have hadd : (⟨g, 0, none⟩ : Addr).add k = ⟨g, 0 + k, none⟩ := by unfold Addr.add; simp; omega
  rw [← hadd]; exact hs
theorem drop_atN {l : List Nat} {k x : Nat} (hx : l[k]? = some x) : l.drop k = x :: l.drop (k + 1) := by
 obtain ⟨h1, h2⟩ := List.getElem?_eq_some_iff.1 hx
 rw [← h2]; exact List.drop_eq_getElem_cons h1
theorem or_nat {k p : Nat} (hk : k < 4096) (hp : p < 64) : bits .or .u64 (k : Int) (uI (bit p)) = ((k ||| 2 ^ p : Nat) : Int) := by
 rw [← uI_ofNat (k := k) (by omega), bits_or_u]
 unfold uI
 rw [BitVec.toNat_or, BitVec.toNat_ofNat, Nat.mod_eq_of_lt (by omega)]
 unfold bit
 rw [BitVec.toNat_shiftLeft, Nat.shiftLeft_eq]
 have : 2 ^ p < 2 ^ 64 := Nat.pow_lt_pow_right (by omega) hp
 rw [show (1#64).toNat = 1 from rfl, Nat.one_mul, Nat.mod_eq_of_lt this]
set_option maxHeartbeats 16000000 in
theorem Orders_spec {w : World} {v : Value} {l : List Sol} (H : SlS w v l) (hT : Tab w) : Calls Tryz.prog 47 #[v] w fun e w' => Below w.heap.size w w' ∧ ∃ n : Nat, e = .returned (.tuple #[.int .i64 n, .int .i64 (errM l)]) ∧ (errM l = 0 → n = ordersM l) ∧ (errM l ≠ 0 → n = 0) := by
 obtain ⟨i0, hi, hz0, hz1, hz2⟩ := info_parts infoInt
 have HI0 := Lib.hid (And.intro hi (And.intro hz0 (And.intro hz1 hz2))); clear hi hz0 hz1 hz2
 have HM := Lib.hid (moulded_x H)
 have HT := Lib.hid hT
 clear H hT
 go_enter Tryz.func47, Tryz.ntmps47
 go_wp2_with fail
 refine HM.out.mono ?_
 rintro e w1 ⟨hb, p, rfl, hx, -⟩
 by_cases h0 : errM l = 0
 ·obtain ⟨hl, g, mb, rfl, hg, hmb, hM⟩ := hx h0
  have HB := Lib.hid (And.intro hb (And.intro hmb (And.intro h0 hM)))
  obtain ⟨pa, pc, hBk, _⟩ := hM.blk
  have cg := hBk.cell; have lg := hBk.lt
  have lmb := hM.ways.lt
  obtain ⟨K, hK⟩ : ∃ K, K = 2 ^ l.length - 1 := ⟨_, rfl⟩
  have hK1 : K + 1 = 2 ^ l.length := by have := Nat.two_pow_pos l.length; omega
  have hK2 : K + 1 ≤ 4096 := by
   rw [hK1]; exact Nat.pow_le_pow_right (n := 2) (by omega) hl
  have eA : uI (allU l.length) = (K : Int) := by unfold uI; rw [allU_nat _ hl, hK]
  have eW : IntKind.u64.wrap ((K : Int) + 1) = (K : Int) + 1 := IntWalk.u64_in _ (by omega)
  have HK := Lib.hid hK1
  have HBk := Lib.hid hBk
  rw [h0]
  clear hb hx h0 hM hBk hg hmb hK hK1
  go_wp2_with fail
  refine (all_spec pa l.length pc (by omega) w1).mono ?_
  rintro e w2 ⟨rfl, hw2⟩
  have hw3 := hw2.symm
  subst hw3
  clear hw2
  rw [eA]
  go_wp2_with (first | (at_make; refine wpList_make_full _ rfl _ _ 23 rfl w1.heap.size 3 i0 (.int .i64 0) 1 Tryz.underlying23 HI0.out.1 HI0.out.2.1 HI0.out.2.2.1 .u64 .u64 _ _ (K + 1) rfl rfl (by omega) (by omega) (by rw [HI0.out.2.2.2]; omega) (by unfold maxLen; omega) (Nat.le_refl _) ?_; intro w4 hown4 hgrow4; have hb4 := (own_made hown4).1; have hg4 := HBk.out.gb hgrow4 (by simp); have cg4 := fun v o => (hg4.other (a := ⟨w1.heap.size, 0, none⟩) (by simp; omega) v).cell o; have lg4 := hg4.lt; have lb4 := hb4.lt; have c4 := (hb4.cell 0).trans (tab_get (by omega)); have f4 := hb4.free 0; have H4 := Lib.hid (And.intro hb4 (And.intro hgrow4 hg4)); clear hown4 hgrow4 hb4 hg4 cg lg))
  refine (all_spec pa l.length pc (by omega) _).mono ?_
  rintro e w6 ⟨rfl, hw6⟩
  rw [eA]
  have hB6 : Blk w6 w1.heap.size (tab (K + 1) (wayV (waysU l 0))) 3 := by
   have hs := H4.out.1.set 0 (.int .i64 1)
   rw [tab_set] at hs
   rw [hw6]
   refine (congrArg (fun a => Blk _ _ a 3) (tab_congr fun t ht => ?_)).mp hs
   show _ = Value.int .i64 ((((List.replicate (2 ^ l.length) 0).set 0 1).getD t 0 : Nat) : Int)
   rw [getD_set _ _ _ _ (by simp; exact Nat.two_pow_pos _)]
   by_cases e : t = 0
   ·rw [if_pos e, if_pos e]; rfl
   ·rw [if_neg e, if_neg e, List.getD_eq_getElem?_getD, List.getElem?_replicate]
    split <;> rfl
  have hgr6 : w1.grownBy w6 (some mb) := by
   rw [hw6]
   exact gb_new (gb_new (gb_refl w1 (some mb)) H4.out.2.1 (fun j e => by cases e)) (gb_set (gb_refl w4 (some w1.heap.size)) ⟨w1.heap.size, 0, none⟩ rfl _) (fun j e => by cases e; exact Nat.le_refl _)
  have hW6 : Ways w6 mb l := by
   rw [hw6]
   exact (HB.out.2.2.2.ways.kept H4.out.2.1 (by simp)).kept (gb_set (gb_refl w4 (some w1.heap.size)) ⟨w1.heap.size, 0, none⟩ rfl _) (by simp; omega)
  have HF : Hid (Few (K + 1) (waysU l 0)) := Lib.hid (by rw [HK.out]; exact few_start (Nat.two_pow_pos _))
  have H6 := Lib.hid (And.intro hB6 (And.intro HF.out (And.intro hW6 hgr6)))
  clear hw6 hB6 hgr6 hW6 cg4 lg4 lb4 c4 f4 H4
  go_wp2_with fail
  go_loopw [32] (fun iv wx => ∃ k : Nat, k ≤ K ∧ iv = .int .u64 (k : Int) ∧ Hid (Blk wx w1.heap.size (tab (K + 1) (wayV (waysU l k))) 3 ∧ Few (K + 1) (waysU l k) ∧ Ways wx mb l ∧ w1.grownBy wx (some mb))) (fun iv _ => K - (intOf iv).toNat)
  case atStart => exact ⟨0, Nat.zero_le _, rfl, H6⟩
  case round =>
   obtain ⟨k, hk, rfl, HI⟩ := hrel
   have hMr := HB.out.2.2.2.grown HI.out.2.2.2 HI.out.2.2.1
   obtain ⟨ws, hws⟩ : ∃ ws, ws = waysU l k := ⟨_, rfl⟩
   rw [← hws] at HI
   have HWS := Lib.hid hws; clear hws
   by_cases hlt : k < K
   ·obtain ⟨c, hc⟩ : ∃ c, c = ws.getD k 0 := ⟨_, rfl⟩
    have c4 := (HI.out.1.cell k).trans (tab_get (by omega))
    have l4 := HI.out.1.lt
    have ec : wayV ws k = .int .i64 (c : Int) := by rw [hc]
    rw [ec] at c4
    have HC := Lib.hid hc
    clear ec hc
    by_cases h0 : c = 0
    ·have e0 : ((c : Int) == 0) = true := by rw [h0]; rfl
     have H0 := Lib.hid h0; clear h0
     go_wp2_with fail
     refine ⟨⟨k + 1, by omega, by simp, Lib.hid ?_⟩, by simp [intOf]; omega⟩
     rw [waysU_succ, ← HWS.out, addWays_zero (by rw [← HC.out]; exact H0.out)]
     exact HI.out
    ·have e0 : ((c : Int) == 0) = false := by simp; exact h0
     have H0 := Lib.hid h0; clear h0
     have hrd := ready_spec hMr hl (BitVec.ofNat 64 k)
     rw [uI_ofNat (by omega)] at hrd
     have HR := Lib.hid hrd; clear hrd hMr
     go_wp2_with fail
     refine HR.out.mono ?_
     rintro e w7 ⟨rfl, hW7, hg7⟩
     have hT7 := (HT.out.grow HB.out.1).gbm HB.out.2.2.2.ways (HI.out.2.2.2.trans hg7)
     have hB7 := HI.out.1.gb hg7 (by simp; omega)
     obtain ⟨R, hR⟩ : ∃ R, R = readyM l (BitVec.ofNat 64 k) := ⟨_, rfl⟩
     obtain ⟨L, hL⟩ : ∃ L, L = listU R := ⟨_, rfl⟩
     have hL64 : L.length ≤ 64 := by rw [hL]; exact cardU_le R
     have hin : ∀ p ∈ L, p < l.length ∧ k.testBit p = false := fun p hp => ready_in hl (by omega) (by rw [hL, hR] at hp; exact hp)
     have hst : L.foldl (wstep k c) ws = waysU l (k + 1) := by
      rw [waysU_succ, ← HWS.out, addWays_some (by rw [← HC.out]; exact H0.out), ← HC.out, hL, hR]
     have HLS := Lib.hid (list_spec R w7 hT7)
     rw [← hL] at HLS
     rw [← hR]
     have H7 := Lib.hid (And.intro hB7 (And.intro hW7 (And.intro (HI.out.2.2.2.trans hg7) (And.intro hin hst))))
     clear hT7 hB7 hW7 hg7 hin hst hR hL c4 l4
     go_wp2_with fail
     refine HLS.out.mono ?_
     rintro e w8 ⟨u, rfl, hO8, hb8⟩
     obtain ⟨pu, cu, rfl, _⟩ := own_shape' hO8
     rw [intsL_length] at hO8 ⊢
     have H8 := Lib.hid (And.intro hO8 (And.intro (H7.out.1.grow hb8) (And.intro (H7.out.2.1.below hb8 H7.out.2.1.lt) (And.intro (gb_below H7.out.2.2.1 hb8) (Nat.le_trans H7.out.2.2.1.size hb8.size)))))
     have hs78 : w1.heap.size < w7.heap.size := H7.out.1.lt
     have hs18 : w1.heap.size ≤ w8.heap.size := H8.out.2.2.2.2
     clear hO8 hb8 HLS
     go_wp2_with fail
     obtain ⟨wo, hwo⟩ : ∃ wo, wo = wr := ⟨_, rfl⟩
     rw [← hwo] at *
     clear hwo
     go_loopw [45] (fun jv wx => ∃ (j : Nat) (vs : List Nat), j ≤ L.length ∧ jv = .int .i64 j ∧ Hid ((L.drop j).foldl (wstep k c) vs = waysU l (k + 1) ∧ Few (K + 1) vs ∧ vs.getD k 0 = c ∧ Blk wx w1.heap.size (tab (K + 1) (wayV vs)) 3 ∧ w8.grownBy wx (some w1.heap.size))) (fun jv _ => L.length - (intOf jv).toNat)
     case atStart => exact ⟨0, ws, Nat.zero_le _, rfl, Lib.hid ⟨H7.out.2.2.2.2, HI.out.2.1, HC.out.symm, H8.out.2.1, gb_refl _ _⟩⟩
     case round =>
      obtain ⟨j, vs, hj, rfl, HJ⟩ := hrel
      by_cases hjl : j < L.length
      ·obtain ⟨p, hp⟩ : ∃ p, L[j]? = some p := ⟨_, List.getElem?_eq_getElem hjl⟩
       obtain ⟨hpn, hpt⟩ := H7.out.2.2.2.1 p (List.mem_of_getElem? hp)
       obtain ⟨ib, io, cc, hv, hib, lib, hcell⟩ := own_cellN H8.out.1 hp
       simp only [Value.slice.injEq] at hv
       obtain ⟨rfl, _, rfl⟩ := hv
       have hck := HJ.out.2.2.2.2.cell hcell (by simp; omega)
       have lck : ib < wr.heap.size := Nat.lt_of_lt_of_le lib HJ.out.2.2.2.2.size
       obtain ⟨x, hx⟩ : ∃ x, x = k ||| 2 ^ p := ⟨_, rfl⟩
       have hxK : x < K + 1 := by rw [hx, HK.out]; exact or_lt (by have := HK.out; omega) hpn
       have eo := or_nat (k := k) (p := p) (by omega) (by omega)
       rw [← hx] at eo
       have ep := pow_u p (by omega)
       have em : min p 64 = p := Nat.min_eq_left (by omega)
       obtain ⟨y, hy⟩ : ∃ y, y = vs.getD x 0 := ⟨_, rfl⟩
       have hyb : y ≤ 1000000000 := by rw [hy]; exact HJ.out.2.1.2 x
       have hcb : c ≤ 1000000000 := by rw [HC.out]; exact HI.out.2.1.2 k
       have c1 := (HJ.out.2.2.2.1.cell k).trans (tab_get (by omega))
       have c2 := (HJ.out.2.2.2.1.cell x).trans (tab_get hxK)
       rw [show wayV vs k = .int .i64 (c : Int) by rw [← HJ.out.2.2.1]] at c1
       rw [show wayV vs x = .int .i64 (y : Int) by rw [hy]] at c2
       have hxI : (x : Int) < (K : Int) + 1 := by omega
       have hkI : (k : Int) < (K : Int) + 1 := by omega
       have f2 := HJ.out.2.2.2.1.free x
       have lB := HJ.out.2.2.2.1.lt
       have ew : IntKind.i64.wrap ((y : Int) + (c : Int)) = (y : Int) + (c : Int) := IntWalk.i64_in _ (by omega)
       have HX := Lib.hid (And.intro hp (And.intro hx (And.intro hy hpt)))
       clear hp hx hy hpt hcell hib lib
       go_wp2_with fail
       refine Go.Rel.region_still_tail 18 (by kernel_rfl) (by kernel_rfl) ?_
       simp only [List.take_succ_cons, List.take_zero, List.drop_succ_cons, List.drop_zero]
       iterate 18 (with_reducible refine wpStill_yes (by kernel_rfl) (fun K hK => ?_); go_simp; refine hK _ ?_; clear hK K)
       refine wpStill_nil ?_
       go_wp2_with fail
       have hm : ((min (y + c) 1000000000 : Nat) : Int) = min ((y : Int) + (c : Int)) 1000000000 := by omega
       have hw : wstep k c vs p = vs.set x (min (y + c) 1000000000) := by unfold wstep; rw [← HX.out.2.1, ← HX.out.2.2.1]
       have hB9 := (HJ.out.2.2.2.1.set x (.int .i64 ((min (y + c) 1000000000 : Nat) : Int))).drew
       rw [tab_wset _ _ (by rw [HJ.out.2.1.1]; exact hxK), hm, ← hw] at hB9
       have hst := HJ.out.1
       rw [drop_atN HX.out.1, List.foldl_cons] at hst
       refine ⟨⟨j + 1, wstep k c vs p, by omega, by simp, Lib.hid ⟨hst, HJ.out.2.1.step (by rw [← HX.out.2.1]; exact hxK), ?_, hB9, gb_drew (gb_set HJ.out.2.2.2.2 ⟨w1.heap.size, x, none⟩ rfl _)⟩⟩, by simp [intOf]; omega⟩
       rw [hw, getD_set _ _ _ _ (by rw [HJ.out.2.1.1]; exact hxK), if_neg, HJ.out.2.2.1]
       rw [HX.out.2.1]; exact fun e => or_ne HX.out.2.2.2 e.symm
      ·obtain rfl : j = L.length := by omega
       have hst := HJ.out.1
       rw [List.drop_length] at hst
       have hst : vs = waysU l (k + 1) := hst
       have HS := Lib.hid hst; clear hst
       go_wp2_with fail
       refine ⟨⟨k + 1, by omega, by simp, Lib.hid ⟨by rw [← HS.out]; exact HJ.out.2.2.2.1, by rw [← HS.out]; exact HJ.out.2.1, H8.out.2.2.1.kept HJ.out.2.2.2.2 (by simp; omega), gb_new H8.out.2.2.2.1 HJ.out.2.2.2.2 (fun i e => by cases e; exact Nat.le_refl _)⟩⟩, by simp [intOf]; omega⟩
   ·obtain rfl : k = K := by omega
    obtain ⟨pb, qc, hBr, _⟩ := hMr.blk
    have cg := hBr.cell; have lg := hBr.lt
    obtain ⟨c, hc⟩ : ∃ c, c = ws.getD k 0 := ⟨_, rfl⟩
    have c4 := (HI.out.1.cell k).trans (tab_get (by omega))
    have l4 := HI.out.1.lt
    have ec : wayV ws k = .int .i64 (c : Int) := by rw [hc]
    rw [ec] at c4
    have HC := Lib.hid hc
    have HA := Lib.hid (fun W => all_spec pb l.length qc (by omega) W)
    clear ec hc hBr hMr
    go_wp2_with fail
    refine (HA.out _).mono ?_
    rintro e w7 ⟨rfl, hw7⟩
    have hw8 := hw7.symm
    subst hw8
    clear hw7
    rw [eA]
    go_wp2_with fail
    go_ret2
    refine ⟨gb_base HB.out.1 HI.out.2.2.2 HB.out.2.1, c, by rw [HB.out.2.2.1]; rfl, fun _ => ?_, fun h => absurd HB.out.2.2.1 h⟩
    rw [HC.out, HWS.out]
    unfold ordersM waysU
    rw [← HK.out, Nat.add_sub_cancel]
 ·have e0 : (errM l != 0) = true := by simpa using h0
  have HB := Lib.hid (And.intro hb h0)
  clear hb hx h0
  go_wp2_with fail
  go_ret2
  exact ⟨HB.out.1, 0, by rfl, (fun h => absurd h HB.out.2), fun _ => rfl⟩
end Go.Proofs.YtlbhjikkpbknnaaGreatDoor
end
section
namespace Go.Proofs.YtlbhjikkpbknnaaGreatDoor
open Go.RowKit Go.Rel Go.Draw
set_option maxRecDepth 100000
/-! whose the first cell is at which something stands -/
theorem arr8 (b : Sol) {z : Nat} (hz : z < 8) : (#[.int .u64 (pl b 0), .int .u64 (pl b 1), .int .u64 (pl b 2), .int .u64 (pl b 3), .int .u64 (pl b 4), .int .u64 (pl b 5), .int .u64 (pl b 6), .int .u64 (pl b 7)] : Array Value)[z]? = some (.int .u64 (uI (plv b z))) := by
 rw [← pl_uI]
 obtain rfl | rfl | rfl | rfl | rfl | rfl | rfl | rfl : z = 0 ∨ z = 1 ∨ z = 2 ∨ z = 3 ∨ z = 4 ∨ z = 5 ∨ z = 6 ∨ z = 7 := by omega
 all_goals rfl
theorem idxB (b : Sol) {z : Nat} (hz : z < 8) (w : World) : (Instr.index 93 (.agg #[.int .u64 (pl b 0), .int .u64 (pl b 1), .int .u64 (pl b 2), .int .u64 (pl b 3), .int .u64 (pl b 4), .int .u64 (pl b 5), .int .u64 (pl b 6), .int .u64 (pl b 7)]) (.int .i64 (z : Int))).run Tryz.prog w = .ok (.int .u64 (uI (plv b z))) w := by
 rw [← pl_uI]
 obtain rfl | rfl | rfl | rfl | rfl | rfl | rfl | rfl : z = 0 ∨ z = 1 ∨ z = 2 ∨ z = 3 ∨ z = 4 ∨ z = 5 ∨ z = 6 ∨ z = 7 := by omega
 ·exact idxB0 _ _ _ _ _ _ _ _ w
 ·exact idxB1 _ _ _ _ _ _ _ _ w
 ·exact idxB2 _ _ _ _ _ _ _ _ w
 ·exact idxB3 _ _ _ _ _ _ _ _ w
 ·exact idxB4 _ _ _ _ _ _ _ _ w
 ·exact idxB5 _ _ _ _ _ _ _ _ w
 ·exact idxB6 _ _ _ _ _ _ _ _ w
 ·exact idxB7 _ _ _ _ _ _ _ _ w
def atV : Option (Int × Int) → Value
 | some (c, p) => .tuple #[.int .i64 c, .int .i64 p, .bool true]
 | none => .tuple #[.int .i64 0, .int .i64 0, .bool false]
def AtP (w : World) (r : Option (Int × Int)) (e : Ending) (w' : World) : Prop := e = .returned (atV r) ∧ Below w.heap.size w w'
set_option maxHeartbeats 16000000 in
theorem at_spec {w : World} {v : Value} {m : List Sol} {own : Nat} {G : U} {b : Sol} (H : SlS w v m) (hm : m.length ≤ 12) (hT : Tab w) :
  Calls Tryz.prog 74 #[v, .int .i64 (own : Int), .int .u64 (uI G), .agg #[.int .u64 (pl b 0), .int .u64 (pl b 1), .int .u64 (pl b 2), .int .u64 (pl b 3), .int .u64 (pl b 4), .int .u64 (pl b 5), .int .u64 (pl b 6), .int .u64 (pl b 7)], .agg #[.int .u64 (pl (sandM m) 0), .int .u64 (pl (sandM m) 1), .int .u64 (pl (sandM m) 2), .int .u64 (pl (sandM m) 3), .int .u64 (pl (sandM m) 4), .int .u64 (pl (sandM m) 5), .int .u64 (pl (sandM m) 6), .int .u64 (pl (sandM m) 7)]] w (AtP w (atM m own G b)) := by
 rw [atM_cells]
 obtain ⟨R, hR⟩ : ∃ R, R = (cellsFrom b 8).findSome? (cellG m own G) := ⟨_, rfl⟩
 rw [← hR]
 obtain ⟨a, c, rfl, hc, hcm, hcs⟩ := H
 have HH := Lib.hid (And.intro hR (And.intro hT (show SlS w (.slice a (m.map solL).length c) m from ⟨a, c, rfl, hc, hcm, hcs⟩)))
 clear hR hT hcs
 rw [List.length_map] at *
 go_enter Tryz.func74, Tryz.ntmps74
 go_wp2_with fail
 obtain ⟨w2, hw2⟩ : ∃ w2, w2 = (w.alloc (.cells #[.int .u64 (pl b 0), .int .u64 (pl b 1), .int .u64 (pl b 2), .int .u64 (pl b 3), .int .u64 (pl b 4), .int .u64 (pl b 5), .int .u64 (pl b 6), .int .u64 (pl b 7)] 93)).alloc (.cells #[.int .u64 (pl (sandM m) 0), .int .u64 (pl (sandM m) 1), .int .u64 (pl (sandM m) 2), .int .u64 (pl (sandM m) 3), .int .u64 (pl (sandM m) 4), .int .u64 (pl (sandM m) 5), .int .u64 (pl (sandM m) 6), .int .u64 (pl (sandM m) 7)] 93) := ⟨_, rfl⟩
 rw [← hw2]
 have H2 : Hid (Blk w2 (w.heap.size + 1) #[.int .u64 (pl (sandM m) 0), .int .u64 (pl (sandM m) 1), .int .u64 (pl (sandM m) 2), .int .u64 (pl (sandM m) 3), .int .u64 (pl (sandM m) 4), .int .u64 (pl (sandM m) 5), .int .u64 (pl (sandM m) 6), .int .u64 (pl (sandM m) 7)] 93 ∧ Below w.heap.size w w2 ∧ w.heap.size + 1 < w2.heap.size) := Lib.hid (by
  subst hw2
  exact ⟨Blk.at _ _ (by simp), bel_alloc (bel_alloc (bel_refl _) _) _, by simp⟩)
 clear hw2
 go_loopw [19] (fun zv wx => ∃ z : Nat, z ≤ 8 ∧ zv = .int .i64 z ∧ Hid ((cellsFrom b (8 - z)).findSome? (cellG m own G) = R) ∧ Hid (Below w2.heap.size w2 wx)) (fun zv _ => 8 - (intOf zv).toNat)
 case atStart => exact ⟨0, by omega, rfl, Lib.hid HH.out.1.symm, Lib.hid (Below.refl _ _)⟩
 case round =>
  obtain ⟨z, hz, rfl, HI, HB⟩ := hrel
  by_cases hz8 : z < 8
  ·have ei := fun W => idxB b hz8 W
   have hd8 : decide ((z : Int) < 8) = true := by simp; omega
   have hst := HI.out
   rw [cellsFrom_succ b hz8] at hst
   have HST := Lib.hid hst; clear hst
   go_wp2_with fail
   obtain ⟨wo, hwo⟩ : ∃ wo, wo = wr := ⟨_, rfl⟩
   subst hwo
   go_loopw [14] (fun qv wx => ∃ q : U, qv = .int .u64 (uI q) ∧ Hid ((planeL z q ++ cellsFrom b (8 - (z + 1))).findSome? (cellG m own G) = R) ∧ Hid (Below w2.heap.size w2 wx)) (fun qv _ => cardU (BitVec.ofInt 64 (intOf qv)))
   case atStart => exact ⟨_, rfl, HST, HB⟩
   case round =>
    obtain ⟨q, rfl, HJ, HBJ⟩ := hrel
    clear ei
    by_cases hq : q = 0
    ·have e0 : (uI q != 0) = false := by rw [bne_u0, hq]; rfl
     have HQ := Lib.hid hq; clear hq
     go_wp2_with fail
     have hst := HJ.out
     rw [HQ.out, planeL_zero, List.nil_append] at hst
     exact ⟨⟨z + 1, by omega, by simp, Lib.hid hst, HBJ⟩, by simp [intOf]; omega⟩
    ·have e0 : (uI q != 0) = true := by rw [bne_u0]; simpa using hq
     have HTZ := Lib.hid (tz64_spec q hq wr ((HH.out.2.1.grow H2.out.2.1).grow HBJ.out))
     obtain ⟨hk, _, _⟩ := lowU_spec q hq
     have hst := HJ.out
     rw [planeL_cons z hq, List.cons_append, List.findSome?_cons] at hst
     have ed := drop_u q
     have hcd : cardU (q &&& (q - 1)) < cardU q := by have := cardU_drop q hq; omega
     obtain ⟨k, hkk⟩ : ∃ k, k = lowU q := ⟨_, rfl⟩
     rw [← hkk] at HTZ hk hst
     have hB1 := H2.out.1.grow HBJ.out
     have c9 := (hB1.cell z).trans (arr8 (sandM m) hz8)
     have l9 := hB1.lt
     have em : min k 64 = k := Nat.min_eq_left (by omega)
     have es := bitAt1_u (plv (sandM m) z) k
     rw [plv_bit _ _ _ hk] at es
     unfold cellG at hst
     rw [atCell_own] at hst
     have HQ := Lib.hid (And.intro hq (And.intro hcd hkk)); clear hq hcd hkk hB1
     cases hsd : (sandM m).getLsbD (64 * z + k)
     ·rw [hsd] at es hst
      have HST := Lib.hid hst; clear hst hsd
      go_wp2_with fail
      refine HTZ.out.mono ?_
      rintro e w4 ⟨rfl, hw4⟩
      have hw5 := hw4.symm
      subst hw5
      clear hw4
      go_wp2_with fail
      obtain ⟨wo, hwo⟩ : ∃ wo, wo = wr := ⟨_, rfl⟩
      subst hwo
      clear c9 l9 es
      go_loopw [44] (fun iv wx => ∃ i : Nat, i ≤ m.length ∧ iv = .int .i64 i ∧ Hid (ownerF m own G (64 * z + k) 0 = ownerF m own G (64 * z + k) i) ∧ Hid (Below w2.heap.size w2 wx)) (fun iv _ => m.length - (intOf iv).toNat)
      case atStart => exact ⟨0, Nat.zero_le _, rfl, Lib.hid rfl, HBJ⟩
      case round =>
       obtain ⟨i, hi, rfl, HO, HBO⟩ := hrel
       by_cases hlt : i < m.length
       ·obtain ⟨sk, hsk⟩ : ∃ sk, m[i]? = some sk := ⟨_, List.getElem?_eq_getElem hlt⟩
        have hgD : m.getD i 0 = sk := by rw [List.getD_eq_getElem?_getD, hsk]; rfl
        have hos := HO.out
        rw [ownerF_step hlt, hgD] at hos
        have hsl := (HH.out.2.2.mono (bel_trans H2.out.2.1 HBO.out))
        obtain ⟨ib, io, hia, c0, c1, c2, c3, c4, c5, c6, c7⟩ : ∃ ib io, a = some ⟨ib, io, none⟩ ∧ wr.cell? ⟨ib, io + i * 8, none⟩ = some (.int .u64 (pl sk 0)) ∧ wr.cell? ⟨ib, io + i * 8 + 1, none⟩ = some (.int .u64 (pl sk 1)) ∧ wr.cell? ⟨ib, io + i * 8 + 2, none⟩ = some (.int .u64 (pl sk 2)) ∧ wr.cell? ⟨ib, io + i * 8 + 3, none⟩ = some (.int .u64 (pl sk 3)) ∧ wr.cell? ⟨ib, io + i * 8 + 4, none⟩ = some (.int .u64 (pl sk 4)) ∧ wr.cell? ⟨ib, io + i * 8 + 5, none⟩ = some (.int .u64 (pl sk 5)) ∧ wr.cell? ⟨ib, io + i * 8 + 6, none⟩ = some (.int .u64 (pl sk 6)) ∧ wr.cell? ⟨ib, io + i * 8 + 7, none⟩ = some (.int .u64 (pl sk 7)) := by
         rcases hsl.cases with ⟨h, _⟩ | ⟨ib, io, c, hv, _, _, _, hcs⟩
         ·have : m = [] := by simpa using h
          subst this; simp at hsk
         ·simp only [Value.slice.injEq] at hv
          obtain ⟨rfl, _, _⟩ := hv
          obtain ⟨c0, c1, c2, c3, c4, c5, c6, c7⟩ := sol_cells hcs hsk
          exact ⟨ib, io, rfl, c0, c1, c2, c3, c4, c5, c6, c7⟩
        subst hia
        have lib := block_lt_of_cell c0
        have ek : ∀ h, ([.int .u64 (pl sk 0), .int .u64 (pl sk 1), .int .u64 (pl sk 2), .int .u64 (pl sk 3), .int .u64 (pl sk 4), .int .u64 (pl sk 5), .int .u64 (pl sk 6), .int .u64 (pl sk 7)] : List Value)[z]'h = .int .u64 (uI (plv sk z)) := fun h => by
         have := arr8 sk hz8
         rw [Array.getElem?_eq_getElem (by simpa using hz8)] at this
         exact Option.some.inj this
        have c17 := ((Blk.new wr #[.int .u64 (pl sk 0), .int .u64 (pl sk 1), .int .u64 (pl sk 2), .int .u64 (pl sk 3), .int .u64 (pl sk 4), .int .u64 (pl sk 5), .int .u64 (pl sk 6), .int .u64 (pl sk 7)] 93).cell z).trans (arr8 sk hz8)
        have em := Nat.min_eq_left (a := k) (b := 64) (by omega)
        have ei := Nat.min_eq_left (a := i) (b := 64) (by omega)
        have e2 := bitAt_u G i
        have e3 := bitAt1_u (plv sk z) k
        rw [plv_bit _ _ _ hk] at e3
        have HOS := Lib.hid hos
        clear hsk hgD hsl hos
        by_cases h1 : i = own
        ·subst h1
         have hos := HOS.out
         have HB' : Hid (Below w2.heap.size w2 (wr.alloc (.cells #[.int .u64 (pl sk 0), .int .u64 (pl sk 1), .int .u64 (pl sk 2), .int .u64 (pl sk 3), .int .u64 (pl sk 4), .int .u64 (pl sk 5), .int .u64 (pl sk 6), .int .u64 (pl sk 7)] 93))) := Lib.hid (bel_alloc HBO.out _)
         simp only [bne_self_eq_false, Bool.false_and, Bool.false_eq_true, if_false] at hos
         have H1 := Lib.hid hos; clear hos
         go_wp2_with fail
         exact ⟨⟨i + 1, by omega, by simp, H1, HB'⟩, by simp [intOf]; omega⟩
        ·have d1 : ¬ ((i : Int) = (own : Int)) := by omega
         have HB' : Hid (Below w2.heap.size w2 (wr.alloc (.cells #[.int .u64 (pl sk 0), .int .u64 (pl sk 1), .int .u64 (pl sk 2), .int .u64 (pl sk 3), .int .u64 (pl sk 4), .int .u64 (pl sk 5), .int .u64 (pl sk 6), .int .u64 (pl sk 7)] 93))) := Lib.hid (bel_alloc HBO.out _)
         have HN := Lib.hid h1; clear h1
         cases hG : G.getLsbD i
         ·rw [hG] at e2
          cases hS : sk.getLsbD (64 * z + k)
          ·rw [hS] at e3
           have hos := HOS.out
           simp only [hS, Bool.and_false, Bool.false_eq_true, if_false] at hos
           have H1 := Lib.hid hos; clear hos hG hS
           go_wp2_with fail
           exact ⟨⟨i + 1, by omega, by simp, H1, HB'⟩, by simp [intOf]; omega⟩
          ·rw [hS] at e3
           have hos := HOS.out
           simp only [hS, hG, bne_iff_ne.2 HN.out, Bool.not_false, Bool.and_true, if_true] at hos
           have hst := HST.out
           rw [hos] at hst
           have H1 := Lib.hid hst; clear hos hG hS hst
           go_wp2_with fail
           refine bodyPost_ret (v := .tuple #[.int .i64 ((64 * z + k : Nat) : Int), .int .i64 (i : Int), .bool true]) (by simp [results, Tryz.results74, go_sem]) rfl ⟨?_, bel_trans H2.out.2.1 HB'.out⟩
           have := H1.out
           simp only [Bool.false_eq_true, if_false, Option.map_some] at this
           rw [← this]; rfl
         ·rw [hG] at e2
          have hos := HOS.out
          simp only [hG, Bool.not_true, Bool.and_false, Bool.false_and, Bool.false_eq_true, if_false] at hos
          have H1 := Lib.hid hos; clear hos hG
          go_wp2_with fail
          exact ⟨⟨i + 1, by omega, by simp, H1, HB'⟩, by simp [intOf]; omega⟩
       ·obtain rfl : i = m.length := by omega
        have hno := HO.out
        rw [ownerF_end] at hno
        have hst := HST.out
        rw [hno] at hst
        have HST2 := Lib.hid hst; clear hst hno
        go_wp2_with fail
        go_roundw
        case rel => exact ⟨q &&& (q - 1), rfl, Lib.hid (by have := HST2.out; simp only [Bool.false_eq_true, if_false, Option.map_none] at this; exact this), HBO⟩
        case measure =>
         show cardU (BitVec.ofInt 64 (uI (q &&& (q - 1)))) < cardU (BitVec.ofInt 64 (uI q))
         rw [ofInt_uI, ofInt_uI]
         exact HQ.out.2.1
     ·rw [hsd] at es hst
      have HST := Lib.hid hst; clear hst hsd
      go_wp2_with fail
      refine HTZ.out.mono ?_
      rintro e w4 ⟨rfl, hw4⟩
      have hw5 := hw4.symm
      subst hw5
      clear hw4
      go_wp2_with fail
      refine bodyPost_ret (v := .tuple #[.int .i64 ((64 * z + k : Nat) : Int), .int .i64 (-1), .bool true]) (by simp [results, Tryz.results74, go_sem]) rfl ⟨?_, bel_trans H2.out.2.1 HBJ.out⟩
      have := HST.out
      simp only [if_true, Option.map_some] at this
      rw [← this]; rfl
  ·obtain rfl : z = 8 := by omega
   go_wp2_with fail
   refine bodyPost_ret (v := .tuple #[.int .i64 0, .int .i64 0, .bool false]) (by simp [results, Tryz.results74, go_sem]) rfl ⟨?_, bel_trans H2.out.2.1 HB.out⟩
   have := HI.out
   have h2 : R = none := this.symm
   rw [h2]; rfl
end Go.Proofs.YtlbhjikkpbknnaaGreatDoor
end
