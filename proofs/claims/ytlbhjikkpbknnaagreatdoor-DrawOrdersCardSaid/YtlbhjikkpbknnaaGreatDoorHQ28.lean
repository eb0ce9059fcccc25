import Derived.Test.YtlbhjikkpbknnaaGreatDoorHQ26
import Derived.Test.YtlbhjikkpbknnaaGreatDoorHQ27
import Derived.ArgAppend
/-
  Given contracts of functions of the program, and laws for them, one behind the other.
-/
set_option linter.unusedVariables false
set_option linter.unusedSimpArgs false
set_option linter.unusedSectionVars false
section
namespace Go.Proofs.YtlbhjikkpbknnaaGreatDoor
open Go.RowKit Go.Rel Go.Draw
set_option maxRecDepth 100000
/-! orders of the reference -/
theorem sum_le_mul {l : List Nat} {f : Nat → Nat} {B : Nat} (h : ∀ p, f p ≤ B) : (l.map f).sum ≤ l.length * B := by
 induction l with
 | nil => simp
 | cons a l ih =>
  rw [List.map_cons, List.sum_cons, List.length_cons, Nat.succ_mul]
  have := h a; omega
theorem ready_len {m : List Sol} (hm : m.length ≤ 12) (G : U) : (listU (readyM m G)).length ≤ 12 := card_sub hm (ready_all' hm G)
theorem cnt_le {m : List Sol} (hm : m.length ≤ 12) : ∀ k G, cntR m k G ≤ 12 ^ k
 | 0, _ => Nat.le_refl _
 | k + 1, G => by
  show ((listU (readyM m G)).map fun p => cntR m k (G ||| bit p)).sum ≤ _
  have h1 := sum_le_mul (l := listU (readyM m G)) (f := fun p => cntR m k (G ||| bit p)) (fun p => cnt_le hm k _)
  have h2 := Nat.mul_le_mul_right (12 ^ k) (ready_len hm G)
  rw [Nat.pow_succ, Nat.mul_comm]
  exact Nat.le_trans h1 h2
def cntS (m : List Sol) (k : Nat) (g RL : List Nat) (i : Nat) : Nat := ((RL.take i).map fun p => cntR m k (setF (g ++ [p]))).sum
theorem cntS_succ {m : List Sol} {k : Nat} {g RL : List Nat} {i x : Nat} (h : RL[i]? = some x) : cntS m k g RL (i + 1) = cntS m k g RL i + cntR m k (setF (g ++ [x])) := by
 unfold cntS
 rw [take_snoc' h, List.map_append, List.sum_append]; simp
theorem cntS_le {m : List Sol} (hm : m.length ≤ 12) {k : Nat} {g RL : List Nat} (hk : k ≤ 11) (hl : RL.length ≤ 12) (i : Nat) : cntS m k g RL i ≤ 8916100448256 := by
 have h1 := sum_le_mul (l := RL.take i) (f := fun p => cntR m k (setF (g ++ [p]))) (B := 12 ^ 11) (fun p => Nat.le_trans (cnt_le hm k _) (Nat.pow_le_pow_right (by omega) hk))
 have h2 : (RL.take i).length ≤ 12 := Nat.le_trans (List.length_take_le' _ _) hl
 exact Nat.le_trans (Nat.le_trans h1 (Nat.mul_le_mul_right _ h2)) (by decide)
theorem setF_snoc {g : List Nat} {p : Nat} : setF (g ++ [p]) = setF g ||| bit p := by unfold setF; rw [List.foldl_append]; rfl
theorem cntS_all {m : List Sol} {k : Nat} {g RL : List Nat} (h : RL = listU (readyM m (setF g))) : cntS m k g RL RL.length = cntR m (k + 1) (setF g) := by
 unfold cntS
 rw [List.take_length, h]
 show _ = ((listU (readyM m (setF g))).map fun p => cntR m k (setF g ||| bit p)).sum
 congr 1
 apply List.map_congr_left
 intro p _
 show cntR m k (setF (g ++ [p])) = cntR m k (setF g ||| bit p)
 rw [setF_snoc]
theorem ready_eq {m : List Sol} (hg : goodM m = true) (hm : m.length ≤ 12) {g : List Nat} (h64 : ∀ i ∈ g, i < m.length) : readyR m (List.range m.length) g = listU (readyM m (setF g)) := by
 have h := readyR_set (good_apart hg) hm (Sub.refl (allU m.length)) (gone := g) (fun i hi => by have := h64 i hi; omega)
 rw [all_list hm] at h
 rw [h]
 congr 1
 apply Sub.antisymm
 ·intro i hi; rw [BitVec.getLsbD_and, Bool.and_eq_true] at hi; exact hi.2
 ·intro i hi; rw [BitVec.getLsbD_and, hi, ready_all' hm (setF g) i hi]; rfl
theorem sl_full {w : World} {ao : Option Addr} {k c : Nat} {g : List Nat} (h : SlI w (.slice ao k c) (intsL g)) : k = g.length ∧ ∃ a', ao = a' ∧ (a' = none → k = 0) ∧ ∀ b, a' = some b → ∀ (j : Nat) (u : Value), ((intsL g).map (Value.int .i64))[j]? = some u → ∀ W, Below w.heap.size w W → W.cell? (b.add j) = some u := by
 obtain ⟨b, cc, hv, hl, hcs⟩ := ints_open h
 simp only [Value.slice.injEq] at hv
 obtain ⟨rfl, hk, rfl⟩ := hv
 rw [intsL_length] at hk
 refine ⟨hk, ?_⟩
 cases g with
 | nil =>
  have hk0 : k = 0 := hk
  subst hk0
  exact ⟨ao, rfl, fun _ => rfl, fun b hb j u hu => by simp [intsL] at hu⟩
 | cons x l =>
  obtain ⟨ib, io, rfl, hlt, hc⟩ := hcs 0 (x : Int) rfl
  refine ⟨some ⟨ib, io, none⟩, rfl, (fun h => by cases h), ?_⟩
  ·intro b hb j u hu W hW
   cases hb
   rw [List.getElem?_map] at hu
   cases hy : (intsL (x :: l))[j]? with
   | none => rw [hy] at hu; simp at hu
   | some y =>
    rw [hy] at hu
    simp at hu
    subst hu
    rw [Go.WideShapes.add_plain, hW.cell (p := ⟨ib, _, none⟩) hlt]
    exact hc j y hy
theorem app_full {W : World} {a' : Option Addr} {k gb x : Nat} {g : List Nat} (hk : k = g.length) (hkl : k ≤ 12) (hn : a' = none → k = 0) (hcs : ∀ b, a' = some b → ∀ (j : Nat) (u : Value), ((intsL g).map (Value.int .i64))[j]? = some u → W.cell? (b.add j) = some u) (hB : Blk W gb #[.int .i64 (x : Int)] 3) :
  ∃ v' w', (Builtin.append_ #[23, 23] 23 #[.slice a' k k, .slice (some ⟨gb, 0, none⟩) 1 1]).run Tryz.prog W = .ok v' w' ∧ Below W.heap.size W w' ∧ OwnI w' W.heap.size v' (intsL (g ++ [x])) := by
 obtain ⟨i0, hi, hz0, hz1, hz2⟩ := info_parts infoInt
 have hnews : ∀ (j : Nat) (u : Value), ([Value.int .i64 (x : Int)] : List Value)[j]? = some u → W.cell? ((⟨gb, 0, none⟩ : Addr).add j) = some u := blk_news hB
 have hfin : ∀ v' w', w'.ownsRow W.heap.size 3 1 v' (k + 1) ((intsL g).map (Value.int .i64) ++ [.int .i64 (x : Int)]) → OwnI w' W.heap.size v' (intsL (g ++ [x])) := fun v' w' h => by
  have e1 : (intsL (g ++ [x])).length = k + 1 := by rw [intsL_length, hk]; simp
  have e2 : (intsL (g ++ [x])).map (Value.int .i64) = (intsL g).map (Value.int .i64) ++ [.int .i64 (x : Int)] := by simp [intsL]
  unfold OwnI
  rw [e1, e2]; exact h
 cases a' with
 | none =>
  have hk0 := hn rfl
  have hg0 : g = [] := List.eq_nil_of_length_eq_zero (by omega)
  subst hk0 hg0
  obtain ⟨v', w', hr, hO, hgr, _⟩ := run_append_own (P := Tryz.prog) W W.heap.size 23 23 3 i0 _ 1 8 Tryz.underlying23 hi hz0 hz1 hz2 rfl (by decide) (.slice none 0 0) 0 [] (World.ownsRow_nil _ _ _ _) ⟨gb, 0, none⟩ 1 1 [.int .i64 (x : Int)] rfl hnews (fun y hy => by simp at hy; subst hy; rfl) (by unfold maxLen; omega) (by omega) (Nat.le_refl _)
  exact ⟨v', w', hr, (bel_refl W).grown hgr (Nat.le_refl _) (fun j hj => by cases hj), hfin v' w' hO⟩
 | some b =>
  obtain ⟨v', w', hr, hO, hgr⟩ := run_append_arg_grows (P := Tryz.prog) W 23 23 3 i0 _ 1 8 Tryz.underlying23 hi hz0 hz1 hz2 rfl (by decide) b k k ((intsL g).map (Value.int .i64)) (by rw [List.length_map, intsL_length, hk, Nat.mul_one]) (hcs b rfl) ⟨gb, 0, none⟩ 1 1 [.int .i64 (x : Int)] rfl hnews (by omega) (by unfold maxLen; omega) (by omega)
  exact ⟨v', w', hr, (bel_refl W).grown hgr (Nat.le_refl _) (fun j hj => by cases hj), hfin v' w' hO⟩
set_option maxHeartbeats 8000000 in
theorem ordersR_spec {m : List Sol} {ai : Option Addr} {n c : Nat} {bm bn : Option Addr} {nm cm nn cn : Nat} (hn : n = m.length) (hm : m.length ≤ 12) (hgood : goodM m = true) : ∀ (k : Nat) {w : World} {gv : Value} {g : List Nat}, WaysR w (.slice bm nm cm) (.slice bn nn cn) m → SlI w gv (intsL g) → (∀ i ∈ g, i < m.length) → g.length + k = m.length → Calls Tryz.prog 107 #[.agg #[.slice bm nm cm, .slice bn nn cn], .slice ai n c, gv] w fun e w' => Below w.heap.size w w' ∧ e = .returned (.int .i64 (cntR m k (setF g) : Nat)) := by
 intro k
 induction k with
 | zero =>
  intro w gv g HW HG hg hlen
  obtain ⟨ao, cg, rfl⟩ := ints_shape HG
  rw [intsL_length, show g.length = n by omega]
  clear HG hg hlen HW
  go_enter Tryz.func107, Tryz.ntmps107
  go_wp2_with fail
  go_ret
  exact ⟨bel_alloc (bel_refl _) _, rfl⟩
 | succ k ih =>
  intro w gv g HW HG hg hlen
  have hIH := @ih
  clear ih
  obtain ⟨ao, cg, rfl⟩ := ints_shape HG
  rw [intsL_length] at HG ⊢
  obtain ⟨K, hK⟩ : ∃ K, K = g.length := ⟨_, rfl⟩
  rw [← hK] at HG ⊢
  have hcg : K ≤ cg := by
   obtain ⟨_, _, _, he, _, h2, _⟩ := Sl.out HG
   simp only [Value.slice.injEq] at he
   obtain ⟨_, h3, h4⟩ := he; omega
  have hcg2 : cg ≤ 9223372036854775807 := by
   obtain ⟨_, _, _, he, _, _, h2⟩ := Sl.out HG
   simp only [Value.slice.injEq] at he
   obtain ⟨_, h3, h4⟩ := he; omega
  obtain ⟨hKg, a', hsl, hnone, hcells⟩ := sl_full HG
  have HSL := Lib.hid (And.intro hsl (And.intro hnone (And.intro hcells hKg)))
  clear hsl hnone hcells hKg
  have hd : ((K : Int) == (n : Int)) = false := by simp; omega
  have hKn : K + k + 1 = n := by omega
  have hn12 : n ≤ 12 := by omega
  have HN := Lib.hid (And.intro hn (And.intro hm (And.intro hgood (And.intro hg hK))))
  have HAL := Lib.hid fun W => all_ref (w := W) ai n c (by omega)
  have HRD := Lib.hid fun W (h : Below w.heap.size w W) ov (ho : SlI W ov (intsL (List.range n))) => readyR_spec (HW.mono h) ho (HG.mono h) (fun p hp => by have := List.mem_range.1 hp; omega) (by rw [List.length_range]; omega)
  have HREC := Lib.hid fun W (h : Below w.heap.size w W) ov x (hx : x < n) (ho : SlI W ov (intsL (g ++ [x]))) => hIH (HW.mono h) ho (fun i hi => by
   rcases List.mem_append.1 hi with h | h
   ·exact hg i h
   ·rw [List.mem_singleton.1 h]; omega) (by rw [List.length_append]; simp; omega)
  obtain ⟨RL, hRL⟩ : ∃ L, L = readyR m (List.range n) g := ⟨_, rfl⟩
  rw [← hRL] at HRD
  have HRL := Lib.hid (show RL = listU (readyM m (setF g)) by rw [hRL, hn]; exact ready_eq hgood hm hg)
  have HRN := Lib.hid (show ∀ x ∈ RL, x < n from fun x hx => by rw [hRL] at hx; exact List.mem_range.1 (List.mem_filter.1 hx).1)
  clear hRL hIH HW HG hn hm hgood hg hK hlen
  rw [← cntS_all HRL.out]
  have HCS := Lib.hid fun i => cntS_le (m := m) HN.out.2.1 (k := k) (g := g) (RL := RL) (by omega) (by rw [HRL.out]; exact ready_len HN.out.2.1 _) i
  have hrl : RL.length ≤ 12 := by rw [HRL.out]; exact ready_len HN.out.2.1 _
  obtain ⟨R, hR⟩ : ∃ R, R = RL.length := ⟨_, rfl⟩
  rw [← hR] at hrl ⊢
  have HR := Lib.hid hR
  clear hR
  go_enter Tryz.func107, Tryz.ntmps107
  go_wp2_with fail
  obtain ⟨wb, hwb⟩ : ∃ wb, wb = w.alloc (.cells #[.slice bm nm cm, .slice bn nn cn] 111) := ⟨_, rfl⟩
  have hb5 : Below w.heap.size w wb := by subst hwb; exact bel_alloc (bel_refl _) _
  have hB5 : Blk wb w.heap.size #[.slice bm nm cm, .slice bn nn cn] 111 := by subst hwb; exact Blk.new _ _ _
  rw [← hwb]
  obtain ⟨N0, hN0⟩ : ∃ N, N = w.heap.size := ⟨_, rfl⟩
  rw [← hN0] at hB5 ⊢
  have H5 := Lib.hid (And.intro hb5 (And.intro hB5 hN0))
  clear hwb hb5 hB5 hN0
  have HC0 := Lib.hid fun W (h : Below wb.heap.size wb W) => (show W.cell? ⟨N0, 0, none⟩ = some (.slice bm nm cm) ∧ W.cell? ⟨N0, 1, none⟩ = some (.slice bn nn cn) ∧ N0 < W.heap.size from ⟨(H5.out.2.1.grow h).cell 0, (H5.out.2.1.grow h).cell 1, (H5.out.2.1.grow h).lt⟩)
  refine wp_region_val Grows (fun _ _ _ => True) [Is (.agg #[.slice bm nm cm, .slice bn nn cn]), Is (.slice ai n c), (fun u W => SlI W u (intsL (List.range n))), Is (.slice ao K cg), (fun u W => OwnI W wb.heap.size u (intsL RL)), (fun u W => OwnI W wb.heap.size u (intsL RL))] (by kernel_rfl) (by kernel_rfl) rfl Grows.refl (fun _ _ _ => Grows.trans) (stable_mem ⟨fun _ _ _ h _ => h, fun _ _ _ h _ => h, (fun _ _ _ h g => h.mono g), fun _ _ _ h _ => h, (fun _ _ _ h g => own_bel h g), (fun _ _ _ h g => own_bel h g), trivial⟩) wb (Below.drew (Below.refl _ _)) trivial ?_
  refine val_cons ?_ (fun v0 => ?_)
  ·intro L vs w1 hvs hat hb hI hF; try simp [factsI, Region.binds, Is] at hF
   obtain ⟨c0, c1, l3⟩ := HC0.out w1 hb
   clear hI
   go_simp
   try simp [upd]
   try exact Grows.refl _
  refine val_cons ?_ (fun v1 => ?_)
  ·intro L vs w1 hvs hat hb hI hF; try simp [factsI, Region.binds, Is] at hF
   have hc := (Grows.cells hb).1
   clear hI
   go_simp
   try simp [upd]
   try first | exact Grows.refl _ | exact trivial | exact ⟨Grows.refl _, trivial⟩
  refine val_cons ?_ (fun v2 => ?_)
  ·intro L vs w1 hvs hat hb hI hF; try simp [factsI, Region.binds, Is] at hF
   clear hI
   go_simp
   refine (HAL.out w1).mono ?_
   rintro e w3 ⟨hb3, o, rfl, ho⟩
   exact ⟨o, rfl, hb3, ho.sl⟩
  refine val_cons ?_ (fun v3 => ?_)
  ·intro L vs w1 hvs hat hb hI hF; try simp [factsI, Region.binds, Is] at hF
   have hc := (Grows.cells hb).1
   clear hI
   go_simp
   try simp [upd]
   try first | exact Grows.refl _ | exact trivial | exact ⟨Grows.refl _, trivial⟩
  refine val_cons ?_ (fun v4 => ?_)
  ·intro L vs w1 hvs hat hb hI hF; try simp [factsI, Region.binds, Is] at hF
   clear hI
   go_simp
   refine (HRD.out w1 (bel_trans H5.out.1 hb) _ hF.2.1).mono ?_
   rintro e w3 ⟨hb3, o, rfl, ho⟩
   exact ⟨o, rfl, hb3, own_weak ho hb.size⟩
  refine val_cons ?_ (fun v5 => ?_)
  ·intro L vs w1 hvs hat hb hI hF; try simp [factsI, Region.binds, Is] at hF
   clear hI
   go_simp
   exact Grows.refl _
  refine val_nil ?_
  intro vs w1 hvs hb hI hF
  simp [Is, Nat.forall_lt_succ_right] at hF
  have e0 := hF.1.1.1.1.1
  have e1 := hF.1.1.1.1.2
  have e2 := hF.1.1.1.2
  have e3 := hF.1.1.2
  have e4 := hF.1.2
  have e5 := hF.2
  clear hF
  simp only [Act.put, List.setIfInBounds_toArray, List.set_cons_succ, List.set_cons_zero, e0, e1, e3]
  clear e0 e1 e3
  obtain ⟨p8, n8, c8, hu8⟩ := own_shapeN e5
  subst hu8
  have hn8 : n8 = R := by
   obtain ⟨_, _, _, he, hn, _⟩ := Sl.out (OwnI.sl e5)
   simp only [Value.slice.injEq] at he
   rw [he.2.1, hn, HR.out]; simp [intsL]
  subst hn8
  have HZ := Lib.hid (And.intro hb (OwnI.sl e5))
  clear hb hI hvs e2 e4 e5
  obtain ⟨b8, cc8, hv8, _, hcs8⟩ := ints_open HZ.out.2
  have HL8 := Lib.hid (show ∀ (i x : Nat), RL[i]? = some x → ∃ ib io, p8 = some ⟨ib, io, none⟩ ∧ ib < w1.heap.size ∧ w1.cell? ⟨ib, io + i, none⟩ = some (.int .i64 (x : Int)) from fun i x hx => by
   simp only [Value.slice.injEq] at hv8
   have hx' : (intsL RL)[i]? = some (x : Int) := by unfold intsL; rw [List.getElem?_map, hx]; rfl
   obtain ⟨ib, io, hb, hlt, hc⟩ := hcs8 i _ hx'
   exact ⟨ib, io, by rw [hv8.1, hb], hlt, hc i _ hx'⟩)
  clear hv8 hcs8
  go_wp2_with fail
  go_loopw [7, 9] (fun sv iv wx => ∃ (i s : Nat), i ≤ n8 ∧ iv = .int .i64 i ∧ sv = .int .i64 s ∧ s ≤ 8916100448256 ∧ Hid (s = cntS m k g RL i ∧ Below w1.heap.size w1 wx)) (fun _ iv _ => n8 - (intOf iv).toNat)
  case atStart => exact ⟨0, 0, Nat.zero_le _, rfl, rfl, Nat.zero_le _, Lib.hid ⟨rfl, Below.refl _ _⟩⟩
  case round =>
   obtain ⟨i, s, hi, rfl, rfl, hs, HI⟩ := hrel
   by_cases hlt : i < n8
   ·have hdl : decide ((i : Int) < (n8 : Int)) = true := decide_eq_true (by omega)
    obtain ⟨x, hx⟩ : ∃ x, RL[i]? = some x := ⟨RL[i]'(by have := HR.out; omega), List.getElem?_eq_getElem _⟩
    obtain ⟨ib, io, rfl, hiblt, hcell⟩ := HL8.out i x hx
    have hxn : x < n := HRN.out x (List.mem_of_getElem? hx)
    have hbr := HI.out.2
    have HC1 := Lib.hid fun W (h : Below wr.heap.size wr W) => (show W.cell? ⟨ib, io + i, none⟩ = some (.int .i64 (x : Int)) ∧ ib < W.heap.size from by
     have hw := bel_trans hbr h
     exact ⟨(hw.cell (p := ⟨ib, io + i, none⟩) hiblt).trans hcell, Nat.lt_of_lt_of_le hiblt hw.size⟩)
    have HCW := Lib.hid fun W (h : Below wr.heap.size wr W) => bel_trans (bel_trans HZ.out.1 hbr) h
    obtain ⟨cx, hcx⟩ : ∃ cx, cx = cntR m k (setF (g ++ [x])) := ⟨_, rfl⟩
    have hsum := cntS_succ (m := m) (k := k) (g := g) hx
    have hcl := HCS.out (i + 1)
    rw [hsum, ← hcx, ← HI.out.1] at hcl
    rw [← HI.out.1, ← hcx] at hsum
    have HSUM := Lib.hid hsum
    have HCX := Lib.hid hcx
    clear hsum hcx hcell hx hiblt hbr
    go_wp2_with fail
    refine wp_region_val Grows (fun _ _ _ => True) [Is (.int .i64 (s : Int)), Is (.agg #[.slice bm nm cm, .slice bn nn cn]), Is (.slice ai n c), Is (.slice ao K cg), Is (.slice ao K cg), Is (.int .i64 (K : Int)), Is (.slice ao K cg), Is (.int .i64 (K : Int)), Is (.slice a' K K), Is (.slice (some ⟨ib, io, none⟩) n8 c8), Is (.int .i64 (i : Int)), Is (.pointer (some ⟨ib, io + i, none⟩)), Is (.int .i64 (x : Int)), (fun u W => ∃ gb, u = .slice (some ⟨gb, 0, none⟩) 1 1 ∧ Blk W gb #[.int .i64 (x : Int)] 3), (fun u W => SlI W u (intsL (g ++ [x]))), Is (.int .i64 (cx : Int)), Is (.int .i64 ((s + cx : Nat) : Int)), Is (.int .i64 ((s + cx : Nat) : Int))] (by kernel_rfl) (by kernel_rfl) rfl Grows.refl (fun _ _ _ => Grows.trans) (stable_mem ⟨fun _ _ _ h _ => h, fun _ _ _ h _ => h, fun _ _ _ h _ => h, fun _ _ _ h _ => h, fun _ _ _ h _ => h, fun _ _ _ h _ => h, fun _ _ _ h _ => h, fun _ _ _ h _ => h, fun _ _ _ h _ => h, fun _ _ _ h _ => h, fun _ _ _ h _ => h, fun _ _ _ h _ => h, fun _ _ _ h _ => h, (fun _ _ _ ⟨gb, e, hB⟩ h => ⟨gb, e, hB.grow h⟩), (fun _ _ _ h g => h.mono g), fun _ _ _ h _ => h, fun _ _ _ h _ => h, fun _ _ _ h _ => h, trivial⟩) wr (Below.drew (Below.refl _ _)) trivial ?_
    refine val_cons ?_ (fun v0 => ?_)
    ·intro L vs w1 hvs hat hb hI hF; try simp [factsI, Region.binds, Is] at hF
     have hc := (Grows.cells hb).1
     clear hI
     go_simp
     try simp [upd]
     try first | exact Grows.refl _ | exact trivial | exact ⟨Grows.refl _, trivial⟩
    refine val_cons ?_ (fun v1 => ?_)
    ·intro L vs w1 hvs hat hb hI hF; try simp [factsI, Region.binds, Is] at hF
     obtain ⟨c0, c1, l3⟩ := HC0.out w1 (HCW.out w1 hb)
     clear hI
     go_simp
     try simp [upd]
     try exact Grows.refl _
    refine val_cons ?_ (fun v2 => ?_)
    ·intro L vs w1 hvs hat hb hI hF; try simp [factsI, Region.binds, Is] at hF
     have hc := (Grows.cells hb).1
     clear hI
     go_simp
     try simp [upd]
     try first | exact Grows.refl _ | exact trivial | exact ⟨Grows.refl _, trivial⟩
    refine val_cons ?_ (fun v3 => ?_)
    ·intro L vs w1 hvs hat hb hI hF; try simp [factsI, Region.binds, Is] at hF
     have hc := (Grows.cells hb).1
     clear hI
     go_simp
     try simp [upd]
     try first | exact Grows.refl _ | exact trivial | exact ⟨Grows.refl _, trivial⟩
    refine val_cons ?_ (fun v4 => ?_)
    ·intro L vs w1 hvs hat hb hI hF; try simp [factsI, Region.binds, Is] at hF
     have hc := (Grows.cells hb).1
     clear hI
     go_simp
     try simp [upd]
     try first | exact Grows.refl _ | exact trivial | exact ⟨Grows.refl _, trivial⟩
    refine val_cons ?_ (fun v5 => ?_)
    ·intro L vs w1 hvs hat hb hI hF; try simp [factsI, Region.binds, Is] at hF
     have hc := (Grows.cells hb).1
     clear hI
     go_simp
     try simp [upd]
     try first | exact Grows.refl _ | exact trivial | exact ⟨Grows.refl _, trivial⟩
    refine val_cons ?_ (fun v6 => ?_)
    ·intro L vs w1 hvs hat hb hI hF; try simp [factsI, Region.binds, Is] at hF
     have hc := (Grows.cells hb).1
     clear hI
     go_simp
     try simp [upd]
     try first | exact Grows.refl _ | exact trivial | exact ⟨Grows.refl _, trivial⟩
    refine val_cons ?_ (fun v7 => ?_)
    ·intro L vs w1 hvs hat hb hI hF; try simp [factsI, Region.binds, Is] at hF
     have hc := (Grows.cells hb).1
     clear hI
     go_simp
     try simp [upd]
     try first | exact Grows.refl _ | exact trivial | exact ⟨Grows.refl _, trivial⟩
    refine val_cons ?_ (fun v8 => ?_)
    ·intro L vs w1 hvs hat hb hI hF; try simp [factsI, Region.binds, Is] at hF
     clear hI
     have hS := HSL.out.1
     go_simp
     exact Grows.refl _
    refine val_cons ?_ (fun v9 => ?_)
    ·intro L vs w1 hvs hat hb hI hF; try simp [factsI, Region.binds, Is] at hF
     have hc := (Grows.cells hb).1
     clear hI
     go_simp
     try simp [upd]
     try first | exact Grows.refl _ | exact trivial | exact ⟨Grows.refl _, trivial⟩
    refine val_cons ?_ (fun v10 => ?_)
    ·intro L vs w1 hvs hat hb hI hF; try simp [factsI, Region.binds, Is] at hF
     have hc := (Grows.cells hb).1
     clear hI
     go_simp
     try simp [upd]
     try first | exact Grows.refl _ | exact trivial | exact ⟨Grows.refl _, trivial⟩
    refine val_cons ?_ (fun v11 => ?_)
    ·intro L vs w1 hvs hat hb hI hF; try simp [factsI, Region.binds, Is] at hF
     clear hI
     go_simp
     try simp [upd]
     try exact Grows.refl _
    refine val_cons ?_ (fun v12 => ?_)
    ·intro L vs w1 hvs hat hb hI hF; try simp [factsI, Region.binds, Is] at hF
     obtain ⟨cc, l3⟩ := HC1.out w1 hb
     clear hI
     go_simp
     try simp [upd]
     try exact Grows.refl _
    refine val_cons ?_ (fun v13 => ?_)
    ·intro L vs w1 hvs hat hb hI hF; try simp [factsI, Region.binds, Is] at hF
     clear hI
     go_simp
     exact ⟨bel_alloc (bel_refl _) _, Blk.new _ _ _⟩
    refine val_cons ?_ (fun v14 => ?_)
    ·intro L vs w1 hvs hat hb hI hF; try simp [factsI, Region.binds, Is] at hF
     clear hI
     obtain ⟨h8, gb, h13, hB⟩ := hF
     obtain ⟨v', w', hr, hbl, ho⟩ := app_full (W := w1) HSL.out.2.2.2 (by omega) HSL.out.2.1 (fun b hb' j u hu => HSL.out.2.2.1 b hb' j u hu w1 (bel_trans H5.out.1 (HCW.out w1 hb))) hB
     refine step_append (v := .slice a' K K) (v7 := .slice (some ⟨gb, 0, none⟩) 1 1) rfl rfl ?_ ?_ hr ⟨hbl, trivial, ho.sl⟩
     ·go_simp
     ·go_simp
    refine val_cons ?_ (fun v15 => ?_)
    ·intro L vs w1 hvs hat hb hI hF; try simp [factsI, Region.binds, Is] at hF
     clear hI
     go_simp
     refine (HREC.out w1 (bel_trans H5.out.1 (HCW.out w1 hb)) _ x hxn hF.2.2).mono ?_
     rintro e w3 ⟨hb3, rfl⟩
     rw [HCX.out]
     exact ⟨rfl, hb3⟩
    refine val_cons ?_ (fun v16 => ?_)
    ·intro L vs w1 hvs hat hb hI hF; try simp [factsI, Region.binds, Is] at hF
     clear hI
     go_simp
     refine ⟨Grows.refl _, ?_⟩
     have : s + cx ≤ 8916100448256 := hcl
     exact IntWalk.i64_in _ (by omega)
    refine val_cons ?_ (fun v17 => ?_)
    ·intro L vs w1 hvs hat hb hI hF; try simp [factsI, Region.binds, Is] at hF
     have hc := (Grows.cells hb).1
     clear hI
     go_simp
     try simp [upd]
     try first | exact Grows.refl _ | exact trivial | exact ⟨Grows.refl _, trivial⟩
    refine val_nil ?_
    intro vs w1 hvs hb hI hF
    simp [Is, Nat.forall_lt_succ_right] at hF
    have e0 := hF.1.1.1.1.1.1.1.1.1.1.1.1.1.1.1.1.1
    have e1 := hF.1.1.1.1.1.1.1.1.1.1.1.1.1.1.1.1.2
    have e2 := hF.1.1.1.1.1.1.1.1.1.1.1.1.1.1.1.2
    have e3 := hF.1.1.1.1.1.1.1.1.1.1.1.1.1.1.2
    have e4 := hF.1.1.1.1.1.1.1.1.1.1.1.1.1.2
    have e5 := hF.1.1.1.1.1.1.1.1.1.1.1.1.2
    have e6 := hF.1.1.1.1.1.1.1.1.1.1.1.2
    have e7 := hF.1.1.1.1.1.1.1.1.1.1.2
    have e8 := hF.1.1.1.1.1.1.1.1.1.2
    have e9 := hF.1.1.1.1.1.1.1.1.2
    have e10 := hF.1.1.1.1.1.1.1.2
    have e11 := hF.1.1.1.1.1.1.2
    have e12 := hF.1.1.1.1.1.2
    have e13 := hF.1.1.1.1.2
    have e14 := hF.1.1.1.2
    have e15 := hF.1.1.2
    have e16 := hF.1.2
    have e17 := hF.2
    clear hF
    simp only [Act.put, List.setIfInBounds_toArray, List.set_cons_succ, List.set_cons_zero, e0, e1, e2, e3, e4, e5, e6, e7, e8, e9, e10, e11, e12, e15, e16, e17]
    clear e0 e1 e2 e3 e4 e5 e6 e7 e8 e9 e10 e11 e12 e15 e16 e17
    have HZ2 := Lib.hid (bel_trans HI.out.2 hb)
    clear hb hI hvs
    go_wp2_with fail
    refine ⟨⟨i + 1, s + cx, by omega, rfl, rfl, hcl, Lib.hid ⟨HSUM.out.symm, HZ2.out⟩⟩, ?_⟩
    simp only [intOf]; omega
   ·have hdl : decide ((i : Int) < (n8 : Int)) = false := decide_eq_false (by omega)
    obtain rfl : i = n8 := by omega
    have HE := Lib.hid (And.intro HI.out.1 (bel_trans (bel_trans H5.out.1 HZ.out.1) HI.out.2))
    go_wp2_with fail
    go_ret
    exact ⟨HE.out.2, by rw [← HE.out.1]; rfl⟩
end Go.Proofs.YtlbhjikkpbknnaaGreatDoor
end
section
namespace Go.Proofs.YtlbhjikkpbknnaaGreatDoor
open Go.RowKit Go.Rel Go.Draw
set_option maxRecDepth 100000
/-! Orders of both -/
theorem orders_le {m : List Sol} (hm : m.length ≤ 12) : ordersM m ≤ 479001600 := by
 obtain ⟨_, _, h3⟩ := ways_inv hm (2 ^ m.length - 1) (Nat.le_refl _)
 have hpos : 0 < 2 ^ m.length := Nat.pow_pos (by omega)
 rw [show 2 ^ m.length - (2 ^ m.length - 1) = 1 by omega] at h3
 have h4 : BitVec.ofNat 64 (2 ^ m.length - 1) = allU m.length := (by decide +kernel : ∀ n, n ≤ 12 → BitVec.ofNat 64 (2 ^ n - 1) = allU n) _ hm
 have hu : Uf m (2 ^ m.length - 1) = 1 := by unfold Uf; rw [h4, card_all _ hm, Nat.sub_self]; rfl
 have hfac : fac m.length ≤ 479001600 := (by decide : ∀ n, n ≤ 12 → fac n ≤ 479001600) _ hm
 unfold ordersM
 unfold wsum at h3
 simp [hu] at h3
 exact Nat.le_trans (by simpa using h3) hfac
def ordN (m : List Sol) : Nat := if errM m = 0 then ordersM m else 0
theorem Orders_n {w : World} {v : Value} {m : List Sol} (H : SlS w v m) (hT : Tab w) : Calls Tryz.prog 47 #[v] w fun e w' => e = .returned (.tuple #[.int .i64 (ordN m : Nat), .int .i64 (errM m)]) ∧ Below w.heap.size w w' := by
 refine (Orders_spec H hT).mono ?_
 rintro e w2 ⟨hb, n, rfl, h0, h1⟩
 refine ⟨?_, hb⟩
 unfold ordN
 by_cases h : errM m = 0
 ·rw [if_pos h, h0 h]
 ·rw [if_neg h, h1 h]
set_option maxHeartbeats 8000000 in
theorem refOrders_n {w : World} {v : Value} {m : List Sol} (H : SlS w v m) : Calls Tryz.prog 48 #[v] w fun e w' => e = .returned (.tuple #[.int .i64 (ordN m : Nat), .int .i64 (errM m)]) ∧ Below w.heap.size w w' := by
 obtain ⟨R, hR⟩ : ∃ R, R = ordN m := ⟨_, rfl⟩
 obtain ⟨F, hF⟩ : ∃ F, F = errM m := ⟨_, rfl⟩
 rw [← hR, ← hF]
 unfold ordN at hR
 have H1 := Lib.hid (refMould_spec H)
 rw [← hF] at H1 hR
 obtain ⟨ai, nn, c, rfl, hnn, hc, hcm⟩ := H.out
 subst hnn
 have HH := Lib.hid (And.intro H (And.intro hR hF))
 clear H hR hF
 go_enter Tryz.func48, Tryz.ntmps48
 go_wp2_with fail
 refine H1.out.mono ?_
 rintro e w2 ⟨rfl, hb2⟩
 have HB := Lib.hid hb2
 clear hb2
 by_cases hF0 : F = 0
 ·obtain ⟨h12, hg⟩ := errM_zero.1 (HH.out.2.2.symm.trans hF0)
  have HQ := Lib.hid (And.intro h12 hg)
  have HWO := Lib.hid (WaysOf_spec (HH.out.1.mono HB.out) h12)
  have hR1 : R = ordersM m := by rw [HH.out.2.1, if_pos hF0]
  have hRl : R ≤ 479001600 := by rw [hR1]; exact orders_le h12
  have HRR := Lib.hid (hR1.trans (orders_ref h12))
  subst hF0
  clear h12 hg hR1
  go_wp2_with fail
  refine HWO.out.mono ?_
  rintro e w4 ⟨hb4, mv, nv, rfl, hW⟩
  obtain ⟨bm, nm, cm, bn, nn, cn, rfl, rfl⟩ := hW.sls
  have H4 := Lib.hid (And.intro (bel_trans HB.out hb4) (ordersR_spec (ai := ai) (n := m.length) (c := c) rfl HQ.out.1 HQ.out.2 m.length (gv := .slice none 0 0) (g := []) hW sl_nil (fun i hi => by cases hi) (by simp)))
  clear hb4 hW HWO
  have hcc : cntR m m.length (setF []) = R := HRR.out.symm
  rw [hcc] at H4
  clear hcc
  go_wp2_with fail
  refine H4.out.2.mono ?_
  rintro e w5 ⟨hb5, rfl⟩
  have H5 := Lib.hid (bel_trans H4.out.1 hb5)
  clear hb5
  have hmin : min (R : Int) 1000000000 = (R : Int) := by omega
  go_wp2_with fail
  go_ret2
  exact ⟨rfl, H5.out⟩
 ·have h1 : ¬ (F = 0) := hF0
  have HR0 := Lib.hid (show R = 0 by rw [HH.out.2.1, if_neg hF0])
  go_wp2_with fail
  refine bodyPost_ret (v := .tuple #[.int .i64 0, .int .i64 F]) (by simp [results, Tryz.results48, go_sem]) rfl ⟨by rw [HR0.out]; rfl, HB.out⟩
end Go.Proofs.YtlbhjikkpbknnaaGreatDoor
end
section
namespace Go.Proofs.YtlbhjikkpbknnaaGreatDoor
open Go.RowKit Go.Rel Go.Draw
set_option maxRecDepth 100000
/-! DrawOrders -/
set_option maxHeartbeats 8000000 in
theorem DrawOrders_walk {W : World} {v lv : Value} {m : List Sol} {ls : List MvI} (H : SlS W v m) (HL : SlX W lv ls) (hT : Tab W) : Calls Tryz.prog 7 #[v, lv] W fun e w' => e = .returned (.bool true) ∧ Below W.heap.size W w' := by
 have HFW := Lib.hid (few_spec 6 H)
 obtain ⟨pa, K, ca, rfl, hK, hKc, hKm⟩ := HL.out
 rw [List.length_map] at hK
 have HAR := Lib.hid fun W1 (h : Below W.heap.size W W1) => (show SlS W1 v m ∧ SlX W1 (.slice pa K ca) ls ∧ Tab W1 from ⟨H.mono h, HL.mono h, hT.grow h⟩)
 have HC := Lib.hid fun W1 (h : Below W.heap.size W W1) => cast_spec (hT.grow h)
 obtain ⟨F, hF⟩ : ∃ F, F = (decide ((m.length : Int) ≤ 6) || (decide (12 < m.length) && decide (m.length ≤ 15))) := ⟨_, rfl⟩
 rw [← hF] at HFW
 have HK := Lib.hid hK
 clear H hT hF HL hK
 go_enter Tryz.func7, Tryz.ntmps7
 go_wp2_with fail
 refine HFW.out.mono ?_
 rintro e w1 ⟨rfl, hw1⟩
 have hw2 := hw1.symm
 subst hw2
 clear hw1
 cases F
 ·go_wp2_with fail
  refine (HC.out _ (bel_refl _)).mono ?_
  rintro e w4 ⟨rfl, hb4⟩
  have H4 := Lib.hid hb4; clear hb4
  go_wp2_with fail
  go_ret
  exact ⟨rfl, H4.out⟩
 ·by_cases hbig : K ≤ 20
  ·have hdb : decide ((20 : Int) < (K : Int)) = false := decide_eq_false (by omega)
   have HKL := Lib.hid (show ls.length ≤ 1000 by rw [← HK.out]; omega)
   clear hbig
   have HB2 := Lib.hid (bel_refl W)
   obtain ⟨E, hE⟩ : ∃ x, x = errM m := ⟨_, rfl⟩
   obtain ⟨L1, hL1⟩ : ∃ x, x = drwL m := ⟨_, rfl⟩
   obtain ⟨B1, hB1⟩ : ∃ x, x = drwB m := ⟨_, rfl⟩
   obtain ⟨B2, hB2⟩ : ∃ x, x = cdB m ls := ⟨_, rfl⟩
   obtain ⟨B3, hB3⟩ : ∃ x, x = chkB m ls := ⟨_, rfl⟩
   obtain ⟨R, hR⟩ : ∃ x, x = rndL m := ⟨_, rfl⟩
   obtain ⟨N, hN⟩ : ∃ x, x = ordN m := ⟨_, rfl⟩
   obtain ⟨L2, hL2⟩ : ∃ x, x = lstL m := ⟨_, rfl⟩
   have S1 := Lib.hid fun W1 (h : Below W.heap.size W W1) => Draw_n (HAR.out W1 h).1 (HAR.out W1 h).2.2
   have S2 := Lib.hid fun W1 (h : Below W.heap.size W W1) => refDraw_n (HAR.out W1 h).1
   have S3 := Lib.hid fun W1 (h : Below W.heap.size W W1) => CheckDraw_n (HAR.out W1 h).1 (HAR.out W1 h).2.1
   have S4 := Lib.hid fun W1 (h : Below W.heap.size W W1) => refCheckDraw_n (HAR.out W1 h).1 (HAR.out W1 h).2.1 HKL.out
   have S5 := Lib.hid fun W1 (h : Below W.heap.size W W1) => CheckOrder_n (HAR.out W1 h).1 (HAR.out W1 h).2.1
   have S6 := Lib.hid fun W1 (h : Below W.heap.size W W1) => refCheckOrder_n (HAR.out W1 h).1 (HAR.out W1 h).2.1 HKL.out
   have S7 := Lib.hid fun W1 (h : Below W.heap.size W W1) => Rounds_n (HAR.out W1 h).1 (HAR.out W1 h).2.2
   have S8 := Lib.hid fun W1 (h : Below W.heap.size W W1) => refRounds_n (HAR.out W1 h).1
   have S9 := Lib.hid fun W1 (h : Below W.heap.size W W1) => Orders_n (HAR.out W1 h).1 (HAR.out W1 h).2.2
   have S10 := Lib.hid fun W1 (h : Below W.heap.size W W1) => refOrders_n (HAR.out W1 h).1
   have S11 := Lib.hid fun W1 (h : Below W.heap.size W W1) => Last_n (HAR.out W1 h).1 (HAR.out W1 h).2.2
   have S12 := Lib.hid fun W1 (h : Below W.heap.size W W1) => refLast_n (HAR.out W1 h).1
   simp only [← hE, ← hL1, ← hB1] at S1 S2
   simp only [← hE, ← hB2] at S3 S4
   simp only [← hE, ← hB3] at S5 S6
   simp only [← hE, ← hR] at S7 S8
   simp only [← hE, ← hN] at S9 S10
   simp only [← hE, ← hL2] at S11 S12
   clear hE hL1 hB1 hB2 hB3 hR hN hL2
   go_wp2_with fail
   refine (S1.out _ HB2.out).mono ?_
   rintro e w3 ⟨u1, rfl, hs, hb⟩
   have HB3 := Lib.hid (bel_trans HB2.out hb)
   have HU1 := Lib.hid hs
   clear hb hs
   go_wp2_with fail
   refine (S2.out _ HB3.out).mono ?_
   rintro e w4 ⟨u2, rfl, hs, hb⟩
   have HB4 := Lib.hid (bel_trans HB3.out hb)
   replace HU1 := Lib.hid (HU1.out.mono hb)
   have HU2 := Lib.hid hs
   clear hb hs
   go_wp2_with fail
   refine (S3.out _ HB4.out).mono ?_
   rintro e w5 ⟨rfl, hb⟩
   have HB5 := Lib.hid (bel_trans HB4.out hb)
   replace HU1 := Lib.hid (HU1.out.mono hb)
   replace HU2 := Lib.hid (HU2.out.mono hb)
   clear hb
   go_wp2_with fail
   refine (S4.out _ HB5.out).mono ?_
   rintro e w6 ⟨rfl, hb⟩
   have HB6 := Lib.hid (bel_trans HB5.out hb)
   replace HU1 := Lib.hid (HU1.out.mono hb)
   replace HU2 := Lib.hid (HU2.out.mono hb)
   clear hb
   go_wp2_with fail
   refine (S5.out _ HB6.out).mono ?_
   rintro e w7 ⟨rfl, hb⟩
   have HB7 := Lib.hid (bel_trans HB6.out hb)
   replace HU1 := Lib.hid (HU1.out.mono hb)
   replace HU2 := Lib.hid (HU2.out.mono hb)
   clear hb
   go_wp2_with fail
   refine (S6.out _ HB7.out).mono ?_
   rintro e w8 ⟨rfl, hb⟩
   have HB8 := Lib.hid (bel_trans HB7.out hb)
   replace HU1 := Lib.hid (HU1.out.mono hb)
   replace HU2 := Lib.hid (HU2.out.mono hb)
   clear hb
   go_wp2_with fail
   refine (SameMoves_spec HU1.out HU2.out).mono ?_
   rintro e w9 ⟨rfl, hb⟩
   rw [beq_self_eq_true]
   have HB9 := Lib.hid (bel_trans HB8.out hb)
   replace HU1 := Lib.hid (HU1.out.mono hb)
   replace HU2 := Lib.hid (HU2.out.mono hb)
   clear hb
   go_wp2_with fail
   refine (S7.out _ HB9.out).mono ?_
   rintro e w10 ⟨u3, rfl, hs, hb⟩
   have HB10 := Lib.hid (bel_trans HB9.out hb)
   replace HU1 := Lib.hid (HU1.out.mono hb)
   replace HU2 := Lib.hid (HU2.out.mono hb)
   have HU3 := Lib.hid hs
   clear hb hs
   go_wp2_with fail
   refine (S8.out _ HB10.out).mono ?_
   rintro e w11 ⟨u4, rfl, hs, hb⟩
   have HB11 := Lib.hid (bel_trans HB10.out hb)
   replace HU1 := Lib.hid (HU1.out.mono hb)
   replace HU2 := Lib.hid (HU2.out.mono hb)
   replace HU3 := Lib.hid (HU3.out.mono hb)
   have HU4 := Lib.hid hs
   clear hb hs
   go_wp2_with fail
   refine (S9.out _ HB11.out).mono ?_
   rintro e w12 ⟨rfl, hb⟩
   have HB12 := Lib.hid (bel_trans HB11.out hb)
   replace HU1 := Lib.hid (HU1.out.mono hb)
   replace HU2 := Lib.hid (HU2.out.mono hb)
   replace HU3 := Lib.hid (HU3.out.mono hb)
   replace HU4 := Lib.hid (HU4.out.mono hb)
   clear hb
   go_wp2_with fail
   refine (S10.out _ HB12.out).mono ?_
   rintro e w13 ⟨rfl, hb⟩
   have HB13 := Lib.hid (bel_trans HB12.out hb)
   replace HU1 := Lib.hid (HU1.out.mono hb)
   replace HU2 := Lib.hid (HU2.out.mono hb)
   replace HU3 := Lib.hid (HU3.out.mono hb)
   replace HU4 := Lib.hid (HU4.out.mono hb)
   clear hb
   go_wp2_with fail
   refine (S11.out _ HB13.out).mono ?_
   rintro e w14 ⟨u5, rfl, hs, hb⟩
   have HB14 := Lib.hid (bel_trans HB13.out hb)
   replace HU1 := Lib.hid (HU1.out.mono hb)
   replace HU2 := Lib.hid (HU2.out.mono hb)
   replace HU3 := Lib.hid (HU3.out.mono hb)
   replace HU4 := Lib.hid (HU4.out.mono hb)
   have HU5 := Lib.hid hs
   clear hb hs
   go_wp2_with fail
   refine (S12.out _ HB14.out).mono ?_
   rintro e w15 ⟨u6, rfl, hs, hb⟩
   have HB15 := Lib.hid (bel_trans HB14.out hb)
   replace HU1 := Lib.hid (HU1.out.mono hb)
   replace HU2 := Lib.hid (HU2.out.mono hb)
   replace HU3 := Lib.hid (HU3.out.mono hb)
   replace HU4 := Lib.hid (HU4.out.mono hb)
   replace HU5 := Lib.hid (HU5.out.mono hb)
   have HU6 := Lib.hid hs
   clear hb hs
   go_wp2_with fail
   refine (HC.out _ HB15.out).mono ?_
   rintro e w16 ⟨rfl, hb⟩
   have HB16 := Lib.hid (bel_trans HB15.out hb)
   replace HU1 := Lib.hid (HU1.out.mono hb)
   replace HU2 := Lib.hid (HU2.out.mono hb)
   replace HU3 := Lib.hid (HU3.out.mono hb)
   replace HU4 := Lib.hid (HU4.out.mono hb)
   replace HU5 := Lib.hid (HU5.out.mono hb)
   replace HU6 := Lib.hid (HU6.out.mono hb)
   clear hb
   go_wp2_with fail
   refine (SameLists_spec HU3.out HU4.out).mono ?_
   rintro e w17 ⟨rfl, hb⟩
   rw [beq_self_eq_true]
   have HB17 := Lib.hid (bel_trans HB16.out hb)
   replace HU1 := Lib.hid (HU1.out.mono hb)
   replace HU2 := Lib.hid (HU2.out.mono hb)
   replace HU3 := Lib.hid (HU3.out.mono hb)
   replace HU4 := Lib.hid (HU4.out.mono hb)
   replace HU5 := Lib.hid (HU5.out.mono hb)
   replace HU6 := Lib.hid (HU6.out.mono hb)
   clear hb
   go_wp2_with fail
   refine (SameInts_spec HU5.out HU6.out).mono ?_
   rintro e w18 ⟨rfl, hb⟩
   rw [beq_self_eq_true]
   have HB18 := Lib.hid (bel_trans HB17.out hb)
   replace HU1 := Lib.hid (HU1.out.mono hb)
   replace HU2 := Lib.hid (HU2.out.mono hb)
   replace HU3 := Lib.hid (HU3.out.mono hb)
   replace HU4 := Lib.hid (HU4.out.mono hb)
   replace HU5 := Lib.hid (HU5.out.mono hb)
   replace HU6 := Lib.hid (HU6.out.mono hb)
   clear hb
   go_wp2_with fail
   go_ret
   exact ⟨ret_bool (by simp), HB18.out⟩
  ·have hdb : decide ((20 : Int) < (K : Int)) = true := decide_eq_true (by omega)
   go_wp2_with fail
   refine (HC.out _ (bel_refl _)).mono ?_
   rintro e w4 ⟨rfl, hb4⟩
   have H4 := Lib.hid hb4; clear hb4
   go_wp2_with fail
   go_ret
   exact ⟨rfl, H4.out⟩
end Go.Proofs.YtlbhjikkpbknnaaGreatDoor
end
