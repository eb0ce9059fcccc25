import Derived.Test.YtlbhjikkpbknnaaGreatDoorHQ35
/-
  Given contracts of functions of the program, and laws for them, one behind the other.
-/
set_option linter.unusedVariables false
set_option linter.unusedSimpArgs false
set_option linter.unusedSectionVars false
section
namespace Go.Proofs.YtlbhjikkpbknnaaGreatDoor
open Go.RowKit Go.Rel Go.Draw
set_option maxRecDepth 100000
/-! Without of both -/
def witL (m : List Sol) (p : Int) : List Sol := if askE m [] [p] = 0 then m.eraseIdx p.toNat else []
theorem Without_n {w : World} {v : Value} {m : List Sol} {p : Int} (H : SlS w v m) : Calls Tryz.prog 53 #[v, .int .i64 p] w fun e w' => ∃ u, e = .returned (.tuple #[u, .int .i64 (askE m [] [p])]) ∧ SlS w' u (witL m p) ∧ Below w.heap.size w w' := by
 refine (Without_spec H).mono ?_
 rintro e w' ⟨hb, u, rfl, h0, h1⟩
 refine ⟨u, rfl, ?_, hb⟩
 unfold witL
 by_cases h : askE m [] [p] = 0
 ·rw [if_pos h]; exact h0 h
 ·rw [if_neg h, h1 h]; exact sl_nil
def IW (N : Nat) (m : List Sol) (p : Nat) (a0 a4 a9 a10 : Bool) (v0 v4 v9 v10 : Value) (W : World) : Prop :=
 N ≤ W.heap.size ∧ (a0 = true → a4 = false → OwnS W N v0 []) ∧ (a4 = true → a9 = false → OwnS W N v4 (m.take p)) ∧ (a9 = true → OwnS W N v9 (m.take p ++ m.drop (p + 1))) ∧ (a10 = true → v10 = v9)
set_option maxHeartbeats 16000000 in
theorem refWithout_n {w : World} {v : Value} {m : List Sol} {p : Int} (H : SlS w v m) : Calls Tryz.prog 54 #[v, .int .i64 p] w fun e w' => ∃ u, e = .returned (.tuple #[u, .int .i64 (askE m [] [p])]) ∧ SlS w' u (witL m p) ∧ Below w.heap.size w w' := by
 have HA := Lib.hid fun W (h : Below w.heap.size w W) => refAsked_spec (gone := []) p (H.mono h) (sl_nil (w := W))
 obtain ⟨ai, nn, c, rfl, hnn, hc, hcm⟩ := H.out
 subst hnn
 have HH := Lib.hid H
 clear H
 obtain ⟨E, hE⟩ : ∃ E, E = askE m [] [p] := ⟨_, rfl⟩
 obtain ⟨L, hL⟩ : ∃ L, L = witL m p := ⟨_, rfl⟩
 rw [← hL, ← hE]
 rw [← hE] at HA
 unfold witL at hL
 rw [← hE] at hL
 have HE := Lib.hid (And.intro hE hL)
 clear hE hL
 go_enter Tryz.func54, Tryz.ntmps54
 go_wp2_with fail
 refine (HA.out _ (bel_refl _)).mono ?_
 rintro e wq ⟨rfl, hb⟩
 by_cases h0 : E = 0
 ·obtain ⟨hm12, q, rfl, hq⟩ := ask_in (HE.out.1.symm.trans h0)
  have hLL : L = m.eraseIdx q := by rw [HE.out.2, if_pos h0]; simp
  subst h0
  have HB := Lib.hid (And.intro hb (And.intro hLL hm12))
  obtain ⟨s, hs⟩ : ∃ x, m[q]? = some x := ⟨_, List.getElem?_eq_getElem hq⟩
  obtain ⟨b, off, c1, he, _, _, hbb, hcs⟩ := sol_at_piece HH.out hs
  obtain ⟨rfl, -, rfl⟩ : ai = some ⟨b, off, none⟩ ∧ True ∧ c = c1 := by
   simp only [Value.slice.injEq] at he; exact ⟨he.1, trivial, he.2.2⟩
  have hqc : q ≤ c := by omega
  have hqn : q ≤ m.length := by omega
  have hq1 : q + 1 ≤ m.length := by omega
  have hq1c : q + 1 ≤ c := by omega
  have hqi : (q : Int) ≤ (c : Int) := by omega
  have hqi1 : (q : Int) + 1 ≤ (m.length : Int) := by omega
  have h0i : (0 : Int) ≤ (q : Int) + 1 := by omega
  have hwq := wrap_succ (q := q) (by omega)
  clear hb hLL hm12 hs he hcs HA HE
  go_wp2_with fail
  have hI0 : IW wq.heap.size m q false false false false undef undef undef undef wq.drew := ⟨Nat.le_refl _, fun e => by (cases e), fun e => by (cases e), fun e => by (cases e), fun e => by (cases e)⟩
  refine wp_region_val (Below wq.heap.size) (fun L vs W => IW wq.heap.size m q (L 0) (L 4) (L 9) (L 10) (vs 0) (vs 4) (vs 9) (vs 10) W) [AnyV, Is (.slice (some ⟨b, off, none⟩) m.length c), Is (.int .i64 (q : Int)), Is (.slice (some ⟨b, off, none⟩) q c), AnyV, Is (.slice (some ⟨b, off, none⟩) m.length c), Is (.int .i64 (q : Int)), Is (.int .i64 ((q : Int) + 1)), VSl (sliced (some ⟨b, off, none⟩) (q + 1) m.length c 8), AnyV, AnyV, Is (.int .i64 0)] (by kernel_rfl) (by kernel_rfl) rfl (Below.refl wq.heap.size) (fun _ _ _ => Below.trans) (stable_mem ⟨fun _ _ _ h _ => h, fun _ _ _ h _ => h, fun _ _ _ h _ => h, fun _ _ _ h _ => h, fun _ _ _ h _ => h, fun _ _ _ h _ => h, fun _ _ _ h _ => h, fun _ _ _ h _ => h, VSl.stab, fun _ _ _ h _ => h, fun _ _ _ h _ => h, fun _ _ _ h _ => h, trivial⟩) wq (Below.drew (Below.refl _ _)) (⟨Nat.le_refl _, fun e => (by cases e), fun e => (by cases e), fun e => (by cases e), fun e => (by cases e)⟩) ?_
  refine val_cons ?_ (fun v0 => ?_)
  ·intro L vs w1 hvs hat hb hI hF; try simp [factsI, Region.binds, Is] at hF
   have h4 := Lib.hid (hat.later 12 4 (by kernel_rfl))
   have h9 := Lib.hid (hat.later 12 9 (by kernel_rfl))
   have h10 := Lib.hid (hat.later 12 10 (by kernel_rfl))
   have hs := hI.1
   clear hI
   go_simp
   refine ⟨(bel_alloc (bel_refl w1) _).mono hs, ⟨by simp; omega, fun _ _ => ?_, fun e => (by have : L 4 = true := e; rw [h4.out] at this; cases this), fun e => (by have : L 9 = true := e; rw [h9.out] at this; cases this), fun e => (by have : L 10 = true := e; rw [h10.out] at this; cases this)⟩, trivial⟩
   simpa [upd] using own_nilS w1 hs
  refine val_cons ?_ (fun v1 => ?_)
  ·intro L vs w1 hvs hat hb hI hF; try simp [factsI, Region.binds, Is] at hF
   have HI2 := Lib.hid hI; clear hI
   go_simp
   try simp [upd]
   first | exact ⟨Below.refl _ _, HI2.out⟩ | exact ⟨Below.refl _ _, HI2.out, trivial⟩
  refine val_cons ?_ (fun v2 => ?_)
  ·intro L vs w1 hvs hat hb hI hF; try simp [factsI, Region.binds, Is] at hF
   have HI2 := Lib.hid hI; clear hI
   go_simp
   try simp [upd]
   first | exact ⟨Below.refl _ _, HI2.out⟩ | exact ⟨Below.refl _ _, HI2.out, trivial⟩
  refine val_cons ?_ (fun v3 => ?_)
  ·intro L vs w1 hvs hat hb hI hF; try simp [factsI, Region.binds, Is] at hF
   have HI2 := Lib.hid hI; clear hI
   go_simp
   try simp [upd]
   first | exact ⟨Below.refl _ _, HI2.out⟩ | exact ⟨Below.refl _ _, HI2.out, trivial⟩
  refine val_cons ?_ (fun v4 => ?_)
  ·intro L vs w1 hvs hat hb hI hF; try simp [factsI, Region.binds, Is] at hF
   have h0 := hat.ahead 12 0 (by kernel_rfl)
   have h4 := hat.self
   have h9 := Lib.hid (hat.later 12 9 (by kernel_rfl))
   have h10 := Lib.hid (hat.later 12 10 (by kernel_rfl))
   have hv0 : vs 0 = v0 := hvs 0 (by omega)
   have hs := hI.1
   have hO := hI.2.1 h0 h4
   rw [hv0] at hO
   have hS : SlS w1 (.slice (some ⟨b, off, none⟩) q c) (m.take q) := by
    have := sl_takeW (HH.out.mono (bel_trans HB.out.1 hb)) hqn
    rwa [← List.map_take] at this
   have hX := app_sols hO hS (by rw [List.length_take]; have := HB.out.2.2; simp; omega) hs
   have hX2 := Lib.hid hX
   clear hI hO hX hS h0 h4
   refine Exists.elim hX2.out (fun v' h => Exists.elim h (fun w' h => ?_))
   refine step_append (v := v0) (v7 := .slice (some ⟨b, off, none⟩) q c) rfl rfl ?_ ?_ h.1 ?_
   ·go_simp
   ·go_simp
    try simp [hF]
   ·exact ⟨h.2.2, ⟨Nat.le_trans hs h.2.2.size, fun _ e => (by cases e), fun _ _ => by simpa [upd] using h.2.1, fun e => (by have : L 9 = true := e; rw [h9.out] at this; cases this), fun e => (by have : L 10 = true := e; rw [h10.out] at this; cases this)⟩, trivial⟩
  refine val_cons ?_ (fun v5 => ?_)
  ·intro L vs w1 hvs hat hb hI hF; try simp [factsI, Region.binds, Is] at hF
   have HI2 := Lib.hid hI; clear hI
   go_simp
   try simp [upd]
   first | exact ⟨Below.refl _ _, HI2.out⟩ | exact ⟨Below.refl _ _, HI2.out, trivial⟩
  refine val_cons ?_ (fun v6 => ?_)
  ·intro L vs w1 hvs hat hb hI hF; try simp [factsI, Region.binds, Is] at hF
   have HI2 := Lib.hid hI; clear hI
   go_simp
   try simp [upd]
   first | exact ⟨Below.refl _ _, HI2.out⟩ | exact ⟨Below.refl _ _, HI2.out, trivial⟩
  refine val_cons ?_ (fun v7 => ?_)
  ·intro L vs w1 hvs hat hb hI hF; try simp [factsI, Region.binds, Is] at hF
   have HI2 := Lib.hid hI; clear hI
   go_simp
   try simp [upd]
   first | exact ⟨Below.refl _ _, HI2.out⟩ | exact ⟨Below.refl _ _, HI2.out, trivial⟩
  refine val_cons ?_ (fun v8 => ?_)
  ·intro L vs w1 hvs hat hb hI hF; try simp [factsI, Region.binds, Is] at hF
   have HI2 := Lib.hid hI; clear hI
   go_simp
   try simp [upd]
   first | exact ⟨Below.refl _ _, HI2.out, (by unfold VSl; rfl)⟩ | (refine ⟨Below.refl _ _, HI2.out, ?_⟩; unfold VSl; rfl)
  refine val_cons ?_ (fun v9 => ?_)
  ·intro L vs w1 hvs hat hb hI hF; try simp [factsI, Region.binds, Is] at hF
   have h4 := hat.ahead 12 4 (by kernel_rfl)
   have h9 := hat.self
   have h4' := Lib.hid h4
   have h10 := Lib.hid (hat.later 12 10 (by kernel_rfl))
   have hv4 : vs 4 = v4 := hvs 4 (by omega)
   have hs := hI.1
   have hO := hI.2.2.1 h4 h9
   rw [hv4] at hO
   have hv8 : v8 = sliced (some ⟨b, off, none⟩) (q + 1) m.length c 8 := by have := hF.2; unfold VSl at this; exact this.1
   have hS : SlS w1 (sliced (some ⟨b, off, none⟩) (q + 1) m.length c 8) (m.drop (q + 1)) := by
    have := sl_dropW (HH.out.mono (bel_trans HB.out.1 hb)) hq1
    rwa [← List.map_drop] at this
   have hX := app_sols hO hS (by rw [List.length_take, List.length_drop]; have := HB.out.2.2; omega) hs
   have hX2 := Lib.hid hX
   clear hI hO hX hS h4 h9
   subst hv8
   refine Exists.elim hX2.out (fun v' h => Exists.elim h (fun w' h => ?_))
   refine step_append (v := v4) (v7 := sliced (some ⟨b, off, none⟩) (q + 1) m.length c 8) rfl rfl ?_ ?_ h.1 ?_
   ·go_simp
   ·go_simp
   ·exact ⟨h.2.2, ⟨Nat.le_trans hs h.2.2.size, fun _ e => (by have : L 4 = false := e; rw [h4'.out] at this; cases this), fun _ e => (by cases e), fun _ => by simpa [upd] using h.2.1, fun e => (by have : L 10 = true := e; rw [h10.out] at this; cases this)⟩, trivial⟩
  refine val_cons ?_ (fun v10 => ?_)
  ·intro L vs w1 hvs hat hb hI hF; try simp [factsI, Region.binds, Is] at hF
   have h9 := hat.ahead 12 9 (by kernel_rfl)
   have hv9 : vs 9 = v9 := hvs 9 (by omega)
   rw [h9] at hI
   have HI2 := Lib.hid hI; clear hI
   go_simp
   simp [upd]
   exact ⟨Below.refl _ _, HI2.out.1, HI2.out.2.1, HI2.out.2.2.1, HI2.out.2.2.2.1, fun _ => hv9.symm⟩
  refine val_cons ?_ (fun v11 => ?_)
  ·intro L vs w1 hvs hat hb hI hF; try simp [factsI, Region.binds, Is] at hF
   have HI2 := Lib.hid hI; clear hI
   go_simp
   try simp [upd]
   first | exact ⟨Below.refl _ _, HI2.out⟩ | exact ⟨Below.refl _ _, HI2.out, trivial⟩
  refine val_nil ?_
  intro vs w1 hvs hb hI hF
  simp [Is, Nat.forall_lt_succ_right] at hF
  have e0 := hF.1.1.1.1.1.1.1.1.1.1.1
  have e1 := hF.1.1.1.1.1.1.1.1.1.1.2
  have e2 := hF.1.1.1.1.1.1.1.1.1.2
  have e3 := hF.1.1.1.1.1.1.1.1.2
  have e4 := hF.1.1.1.1.1.1.1.2
  have e5 := hF.1.1.1.1.1.1.2
  have e6 := hF.1.1.1.1.1.2
  have e7 := hF.1.1.1.1.2
  have e8 := hF.1.1.1.2
  have e9 := hF.1.1.2
  have e10 := hF.1.2
  have e11 := hF.2
  clear hF
  simp only [Act.put, List.setIfInBounds_toArray, List.set_cons_succ, List.set_cons_zero, e1, e2, e3, e5, e6, e7, e11]
  clear e1 e2 e3 e5 e6 e7 e11
  have hv9 : vs 9 = v9 := hvs 9 (by omega)
  have hv10 : vs 10 = v10 := hvs 10 (by omega)
  have hO := hI.2.2.2.1 rfl
  have hv := hI.2.2.2.2 rfl
  rw [hv10, hv9] at hv
  rw [hv9] at hO
  subst hv
  have HZ := Lib.hid (And.intro hO.sl hb)
  clear hI hO hb hvs hv9 hv10 e0 e4 e8 e9 e10 hI0
  go_wp2_with fail
  go_ret2
  exact ⟨_, rfl, by rw [HB.out.2.1, List.eraseIdx_eq_take_drop_succ]; exact HZ.out.1, bel_trans HB.out.1 HZ.out.2⟩
 ·have HB := Lib.hid (And.intro hb (HE.out.2.trans (if_neg h0)))
  have h1 : ¬ (E = 0) := h0
  clear hb h0 HA HE
  go_wp2_with fail
  go_ret2
  exact ⟨_, rfl, by rw [HB.out.2]; exact sl_nil, HB.out.1⟩
end Go.Proofs.YtlbhjikkpbknnaaGreatDoor
end
section
namespace Go.Proofs.YtlbhjikkpbknnaaGreatDoor
open Go.RowKit Go.Rel Go.Draw
set_option maxRecDepth 100000
/-! Joined of the program -/
theorem sl_news2 {W : World} {b : Nat} {x y : Int} {t : TypeId} (h : Blk W b #[.int .i64 x, .int .i64 y] t) : SlI W (.slice (some ⟨b, 0, none⟩) 2 2) [x, y] := by
 refine ⟨_, 2, rfl, by simp, by simp, .inr ⟨b, 0, rfl, h.lt, fun i j u hu => ?_⟩⟩
 rw [h.cell]
 match i, j with
 | 0, 0 => simpa using hu
 | 1, 0 => simpa using hu
 | 0, j + 1 => simp at hu
 | 1, j + 1 => simp at hu
 | i + 2, j => simp at hu
theorem join_in {m : List Sol} {p q : Int} (h : askE m [] [p, q] = 0) : m.length ≤ 12 ∧ ∃ a b : Nat, p = (a : Int) ∧ q = (b : Int) ∧ a < m.length ∧ b < m.length := by
 rw [askE_two] at h
 by_cases h0 : askE m [] [p] = 0
 ·rw [if_pos h0] at h
  obtain ⟨h1, a, ha, ha2⟩ := ask_in h0
  obtain ⟨_, b, hb, hb2⟩ := ask_in h
  exact ⟨h1, a, b, ha, hb, ha2, hb2⟩
 ·rw [if_neg h0] at h; exact absurd h h0
/-- what the joined list is, by the lesser and the greater number -/
def joinN (m : List Sol) (a b : Nat) : List Sol := (m.set a (m.getD a 0 ||| m.getD b 0)).eraseIdx b
theorem joinL_of {m : List Sol} {p q : Int} {a b : Nat} (h : joinE m p q = 0) (ha : min p q = a) (hb : max p q = b) : joinL m p q = joinN m a b := by
 unfold joinL joinN
 rw [if_pos h, ha, hb, Int.toNat_natCast, Int.toNat_natCast]
def JJ (N : Nat) (m : List Sol) (a : Nat) (x t : Sol) (z g cap : Nat) (done : Bool) (W : World) : Prop :=
 (done = false → OwnR W N (m.set a (mixW x t z)) g cap) ∧ (done = true → OwnR W N (m.set a (mixW x t (z + 1))) g cap)
theorem OwnR.blk {W : World} {base g cap : Nat} {m : List Sol} (h : OwnR W base m g cap) : ∃ cur, Blk W g cur 64 := by
 obtain ⟨cur, h⟩ := h
 exact ⟨cur, h.blk⟩
theorem OwnR.drew {W : World} {base g cap : Nat} {m : List Sol} (h : OwnR W base m g cap) : OwnR W.drew base m g cap := by
 obtain ⟨cur, h⟩ := h
 exact ⟨cur, h.base, h.blk.drew, h.le, h.lim, h.size, h.rows⟩
theorem OwnR.cellz {W : World} {base g cap : Nat} {m : List Sol} (h : OwnR W base m g cap) {k z : Nat} {s : Sol} (hs : m[k]? = some s) (hz : z < 8) : W.cell? ⟨g, k * 8 + z, none⟩ = some (.int .u64 (pl s z)) := by
 obtain ⟨cur, h⟩ := h
 exact h.cellz hs hz
set_option maxHeartbeats 16000000 in
theorem Joined_n {w : World} {v : Value} {m : List Sol} {p q : Int} (H : SlS w v m) : Calls Tryz.prog 55 #[v, .int .i64 p, .int .i64 q] w fun e w' => ∃ u, e = .returned (.tuple #[u, .int .i64 (joinE m p q)]) ∧ SlS w' u (joinL m p q) ∧ Below w.heap.size w w' := by
 have HA := Lib.hid (asked_spec (gone := []) (of := [p, q]) (H.mono (bel_alloc (bel_refl w) (.cells #[.int .i64 p, .int .i64 q] 3))) sl_nil (sl_news2 (Blk.new w #[.int .i64 p, .int .i64 q] 3)))
 obtain ⟨ai, nn, c, rfl, hnn, hc, hcm⟩ := H.out
 subst hnn
 have HH := Lib.hid H
 clear H
 obtain ⟨E, hE⟩ : ∃ E, E = joinE m p q := ⟨_, rfl⟩
 obtain ⟨L, hL⟩ : ∃ L, L = joinL m p q := ⟨_, rfl⟩
 rw [← hL, ← hE]
 have hE2 : E = if askE m [] [p, q] = 0 then (if p = q then 1 else 0) else askE m [] [p, q] := hE
 have HE := Lib.hid (And.intro hE (And.intro hL hE2))
 clear hE hL hE2
 go_enter Tryz.func55, Tryz.ntmps55
 go_wp2_with fail
 refine HA.out.mono ?_
 rintro e w1 ⟨hb1, a', G, rfl, hx, hn⟩
 have hb : Below w.heap.size w w1 := bel_trans (bel_alloc (bel_refl w) (.cells #[.int .i64 p, .int .i64 q] 3)) hb1
 obtain ⟨F, hF⟩ : ∃ F, F = askE m [] [p, q] := ⟨_, rfl⟩
 rw [← hF]
 have hEF : E = if F = 0 then (if p = q then 1 else 0) else F := by rw [hF]; exact HE.out.2.2
 by_cases h0 : F = 0
 ·subst h0
  rw [if_pos rfl] at hEF
  obtain ⟨hm12, p', q', rfl, rfl, hp, hq⟩ := join_in hF.symm
  by_cases hpq : p' = q'
  ·have hpi : (p' : Int) = (q' : Int) := by rw [hpq]
   rw [if_pos hpi] at hEF
   subst hEF
   have hLe : L = [] := by rw [HE.out.2.1]; unfold joinL; rw [← HE.out.1, if_neg (by decide)]
   subst hpq
   have HB := Lib.hid (And.intro hb hLe)
   clear hb hb1 hx hn hF HE HA hpi hLe
   go_wp2_with fail
   go_ret2
   exact ⟨_, rfl, by rw [HB.out.2]; exact sl_nil, HB.out.1⟩
  ·have hpi : ¬ ((p' : Int) = (q' : Int)) := by omega
   rw [if_neg hpi] at hEF
   subst hEF
   obtain ⟨a, b, ha, hb', hab, hbm⟩ : ∃ a b : Nat, min (p' : Int) q' = a ∧ max (p' : Int) q' = b ∧ a < b ∧ b < m.length := by
    rcases Nat.lt_or_gt_of_ne hpq with h | h
    ·exact ⟨p', q', by omega, by omega, h, hq⟩
    ·exact ⟨q', p', by omega, by omega, h, hp⟩
   have hLe : L = joinN m a b := HE.out.2.1.trans (joinL_of HE.out.1.symm ha hb')
   have HC := Lib.hid (CloneSol_spec (.slice ai m.length c) m w1 (HH.out.mono hb) (by omega))
   have HB := Lib.hid (And.intro hb (And.intro hLe hm12))
   have ne1 : ((p' : Int) == (q' : Int)) = false := by simp; omega
   clear hb hb1 hx hn hF HE HA hLe hm12
   go_wp2_with fail
   refine HC.out.mono ?_
   rintro e w2 ⟨u, rfl, hO, hb2⟩
   obtain ⟨g, cap, cur, rfl, hQ⟩ := hO.opn (fun h => by rw [h] at hbm; simp at hbm)
   obtain ⟨x, hx⟩ : ∃ x, m[a]? = some x := ⟨_, List.getElem?_eq_getElem (by omega)⟩
   obtain ⟨y, hy⟩ : ∃ y, m[b]? = some y := ⟨_, List.getElem?_eq_getElem hbm⟩
   obtain ⟨t, ht⟩ : ∃ t, t = x ||| y := ⟨_, rfl⟩
   have hset : m.set a x = m := by
    apply List.ext_getElem?
    intro k
    rw [List.getElem?_set]
    by_cases h : a = k
    ·subst h; rw [if_pos rfl, if_pos (by omega), hx]
    ·rw [if_neg h]
   have hbg := hQ.base
   have hbc := hQ.le
   have hcM := hQ.lim
   have H2 : Hid (OwnR w2 w1.heap.size (m.set a (mixW x t 0)) g cap ∧ Below w.heap.size w w2 ∧ m[a]? = some x ∧ m[b]? = some y ∧ t = x ||| y ∧ Below w1.heap.size w1 w2 ∧ cap ≤ maxLen) := Lib.hid ⟨⟨cur, by rw [show mixW x t 0 = x from rfl, hset]; exact hQ⟩, bel_trans HB.out.1 hb2, hx, hy, ht, hb2, hcM⟩
   have hwg : w1.heap.size ≤ g := hbg
   unfold maxLen at hcM
   clear hO hQ hb2 hx hy ht hset hbg
   obtain ⟨n, hn⟩ : ∃ n, n = m.length := ⟨_, rfl⟩
   rw [← hn] at hbm hbc hc ⊢
   have HN := Lib.hid hn
   clear hn
   go_wp2_with fail
   obtain ⟨wo, hwo⟩ : ∃ wo, wo = w2 := ⟨_, rfl⟩
   go_loopw [40] (fun iv wx => ∃ z : Nat, z ≤ 8 ∧ iv = .int .i64 z ∧ Hid (OwnR wx w1.heap.size (m.set a (mixW x t z)) g cap ∧ w2.grownBy wx (some g))) (fun iv _ => 8 - (intOf iv).toNat)
   case atStart => exact ⟨0, by omega, rfl, Lib.hid ⟨H2.out.1, gb_refl _ _⟩⟩
   case round =>
    obtain ⟨z, hz, rfl, HI⟩ := hrel
    by_cases hz8 : z < 8
    ·have hzI : (z : Int) < 8 := by omega
     have hai : (a : Int) < (n : Int) := by omega
     have hbi : (b : Int) < (n : Int) := by omega
     have hxz : Hid ((m.set a (mixW x t z))[a]? = some (mixW x t z) ∧ (m.set a (mixW x t z))[b]? = some y ∧ pl (mixW x t z) z = pl x z) := Lib.hid ⟨by rw [List.getElem?_set, if_pos rfl, if_pos (by rw [← HN.out]; omega)], by rw [List.getElem?_set, if_neg (by omega)]; exact H2.out.2.2.2.1, by rw [pl_uI, pl_uI, plv_mixW x t hz8 z (by omega), if_neg (by omega)]⟩
     have hor := (bits_or_pl x y z).trans (by rw [← H2.out.2.2.2.2.1])
     go_wp2_with fail
     refine wp_region_val (GbN g) (fun L vs W => JJ w1.heap.size m a x t z g cap (L 15) W) [Is (.slice (some ⟨g, 0, none⟩) n cap), Is (.int .i64 (a : Int)), Is (.int .i64 (z : Int)), Is (.pointer (some ⟨g, a * 8, none⟩)), Is (.pointer (some ⟨g, a * 8 + z, none⟩)), Is (.int .u64 (pl x z)), Is (.slice (some ⟨g, 0, none⟩) n cap), Is (.int .i64 (b : Int)), Is (.int .i64 (z : Int)), Is (.pointer (some ⟨g, b * 8, none⟩)), Is (.pointer (some ⟨g, b * 8 + z, none⟩)), Is (.int .u64 (pl y z)), Is (.int .u64 (pl t z)), Is (.pointer (some ⟨g, a * 8, none⟩)), Is (.pointer (some ⟨g, a * 8 + z, none⟩)), AnyV] (by kernel_rfl) (by kernel_rfl) rfl (fun W => gb_refl W _) (GbN.trans g) (stable_mem ⟨fun _ _ _ h _ => h, fun _ _ _ h _ => h, fun _ _ _ h _ => h, fun _ _ _ h _ => h, fun _ _ _ h _ => h, fun _ _ _ h _ => h, fun _ _ _ h _ => h, fun _ _ _ h _ => h, fun _ _ _ h _ => h, fun _ _ _ h _ => h, fun _ _ _ h _ => h, fun _ _ _ h _ => h, fun _ _ _ h _ => h, fun _ _ _ h _ => h, fun _ _ _ h _ => h, fun _ _ _ h _ => h, trivial⟩) wr (gb_drew (gb_refl _ _)) (⟨fun _ => HI.out.1.drew, fun e => (by cases e)⟩) ?_
     refine val_cons ?_ (fun v0 => ?_)
     ·intro L vs w1 hvs hat hb hI hF; try simp [factsI, Region.binds, Is] at hF
      have HI2 := Lib.hid hI; clear hI
      go_simp
      first | exact ⟨gb_refl _ _, HI2.out⟩ | exact HI2.out | exact ⟨HI2.out, trivial⟩
     refine val_cons ?_ (fun v1 => ?_)
     ·intro L vs w1 hvs hat hb hI hF; try simp [factsI, Region.binds, Is] at hF
      have HI2 := Lib.hid hI; clear hI
      go_simp
      first | exact ⟨gb_refl _ _, HI2.out⟩ | exact HI2.out | exact ⟨HI2.out, trivial⟩
     refine val_cons ?_ (fun v2 => ?_)
     ·intro L vs w1 hvs hat hb hI hF; try simp [factsI, Region.binds, Is] at hF
      have HI2 := Lib.hid hI; clear hI
      go_simp
      first | exact ⟨gb_refl _ _, HI2.out⟩ | exact HI2.out | exact ⟨HI2.out, trivial⟩
     refine val_cons ?_ (fun v3 => ?_)
     ·intro L vs w1 hvs hat hb hI hF; try simp [factsI, Region.binds, Is] at hF
      have HI2 := Lib.hid hI; clear hI
      go_simp
      first | exact ⟨gb_refl _ _, HI2.out⟩ | exact HI2.out | exact ⟨HI2.out, trivial⟩
     refine val_cons ?_ (fun v4 => ?_)
     ·intro L vs w1 hvs hat hb hI hF; try simp [factsI, Region.binds, Is] at hF
      have HI2 := Lib.hid hI; clear hI
      go_simp
      first | exact ⟨gb_refl _ _, HI2.out⟩ | exact HI2.out | exact ⟨HI2.out, trivial⟩
     refine val_cons ?_ (fun v5 => ?_)
     ·intro L vs w1 hvs hat hb hI hF; try simp [factsI, Region.binds, Is] at hF
      have h15 := hat.later 16 15 (by kernel_rfl)
      have OR := hI.1 h15
      obtain ⟨cur1, hB1⟩ := OR.blk
      have l6 := hB1.lt
      have c6 := OR.cellz hxz.out.1 hz8
      rw [hxz.out.2.2] at c6
      clear h15 OR hB1
      have HI2 := Lib.hid hI; clear hI
      go_simp
      first | exact ⟨gb_refl _ _, HI2.out⟩ | exact HI2.out | exact ⟨HI2.out, trivial⟩
     refine val_cons ?_ (fun v6 => ?_)
     ·intro L vs w1 hvs hat hb hI hF; try simp [factsI, Region.binds, Is] at hF
      have HI2 := Lib.hid hI; clear hI
      go_simp
      first | exact ⟨gb_refl _ _, HI2.out⟩ | exact HI2.out | exact ⟨HI2.out, trivial⟩
     refine val_cons ?_ (fun v7 => ?_)
     ·intro L vs w1 hvs hat hb hI hF; try simp [factsI, Region.binds, Is] at hF
      have HI2 := Lib.hid hI; clear hI
      go_simp
      first | exact ⟨gb_refl _ _, HI2.out⟩ | exact HI2.out | exact ⟨HI2.out, trivial⟩
     refine val_cons ?_ (fun v8 => ?_)
     ·intro L vs w1 hvs hat hb hI hF; try simp [factsI, Region.binds, Is] at hF
      have HI2 := Lib.hid hI; clear hI
      go_simp
      first | exact ⟨gb_refl _ _, HI2.out⟩ | exact HI2.out | exact ⟨HI2.out, trivial⟩
     refine val_cons ?_ (fun v9 => ?_)
     ·intro L vs w1 hvs hat hb hI hF; try simp [factsI, Region.binds, Is] at hF
      have HI2 := Lib.hid hI; clear hI
      go_simp
      first | exact ⟨gb_refl _ _, HI2.out⟩ | exact HI2.out | exact ⟨HI2.out, trivial⟩
     refine val_cons ?_ (fun v10 => ?_)
     ·intro L vs w1 hvs hat hb hI hF; try simp [factsI, Region.binds, Is] at hF
      have HI2 := Lib.hid hI; clear hI
      go_simp
      first | exact ⟨gb_refl _ _, HI2.out⟩ | exact HI2.out | exact ⟨HI2.out, trivial⟩
     refine val_cons ?_ (fun v11 => ?_)
     ·intro L vs w1 hvs hat hb hI hF; try simp [factsI, Region.binds, Is] at hF
      have h15 := hat.later 16 15 (by kernel_rfl)
      have OR := hI.1 h15
      obtain ⟨cur1, hB1⟩ := OR.blk
      have l6 := hB1.lt
      have c6 := OR.cellz hxz.out.2.1 hz8
      clear h15 OR hB1
      have HI2 := Lib.hid hI; clear hI
      go_simp
      first | exact ⟨gb_refl _ _, HI2.out⟩ | exact HI2.out | exact ⟨HI2.out, trivial⟩
     refine val_cons ?_ (fun v12 => ?_)
     ·intro L vs w1 hvs hat hb hI hF; try simp [factsI, Region.binds, Is] at hF
      have HI2 := Lib.hid hI; clear hI
      go_simp
      first | exact ⟨gb_refl _ _, HI2.out⟩ | exact HI2.out | exact ⟨HI2.out, trivial⟩
     refine val_cons ?_ (fun v13 => ?_)
     ·intro L vs w1 hvs hat hb hI hF; try simp [factsI, Region.binds, Is] at hF
      have HI2 := Lib.hid hI; clear hI
      go_simp
      first | exact ⟨gb_refl _ _, HI2.out⟩ | exact HI2.out | exact ⟨HI2.out, trivial⟩
     refine val_cons ?_ (fun v14 => ?_)
     ·intro L vs w1 hvs hat hb hI hF; try simp [factsI, Region.binds, Is] at hF
      have HI2 := Lib.hid hI; clear hI
      go_simp
      first | exact ⟨gb_refl _ _, HI2.out⟩ | exact HI2.out | exact ⟨HI2.out, trivial⟩
     refine val_cons ?_ (fun v15 => ?_)
     ·intro L vs w1 hvs hat hb hI hF; try simp [factsI, Region.binds, Is] at hF
      have h15 := Lib.hid hat.self
      have OR := hI.1 h15.out
      obtain ⟨cur1, hB1⟩ := OR.blk
      have l6 := hB1.lt
      have f6 := hB1.free (a * 8 + z)
      have c6 := OR.cellz hxz.out.1 hz8
      have HW := Lib.hid OR
      clear hI OR hB1
      go_simp
      exact ⟨gb_set (gb_refl _ _) _ rfl _, ⟨fun e => (by cases e), fun _ => HW.out.step (by rw [← HN.out]; omega) hz8⟩, trivial⟩
     refine val_nil ?_
     intro vs w1 hvs hb hI hF
     simp [Is, Nat.forall_lt_succ_right] at hF
     have e0 := hF.1.1.1.1.1.1.1.1.1.1.1.1.1.1.1
     have e1 := hF.1.1.1.1.1.1.1.1.1.1.1.1.1.1.2
     have e2 := hF.1.1.1.1.1.1.1.1.1.1.1.1.1.2
     have e3 := hF.1.1.1.1.1.1.1.1.1.1.1.1.2
     have e4 := hF.1.1.1.1.1.1.1.1.1.1.1.2
     have e5 := hF.1.1.1.1.1.1.1.1.1.1.2
     have e6 := hF.1.1.1.1.1.1.1.1.1.2
     have e7 := hF.1.1.1.1.1.1.1.1.2
     have e8 := hF.1.1.1.1.1.1.1.2
     have e9 := hF.1.1.1.1.1.1.2
     have e10 := hF.1.1.1.1.1.2
     have e11 := hF.1.1.1.1.2
     have e12 := hF.1.1.1.2
     have e13 := hF.1.1.2
     have e14 := hF.1.2
     have e15 := hF.2
     clear hF
     simp only [Act.put, List.setIfInBounds_toArray, List.set_cons_succ, List.set_cons_zero, e0, e1, e2, e3, e4, e5, e6, e7, e8, e9, e10, e11, e12, e13, e14]
     clear e0 e1 e2 e3 e4 e5 e6 e7 e8 e9 e10 e11 e12 e13 e14
     have HC2 := Lib.hid (And.intro (hI.2 rfl) (HI.out.2.trans hb))
     clear hI hb hvs hor
     go_wp2_with fail
     go_roundw
     case rel => exact ⟨z + 1, by omega, by go_num, HC2⟩
     case measure => simp [intOf]; omega
    ·obtain rfl : z = 8 := by omega
     have hbl : Below w.heap.size w wr := H2.out.2.1.grown HI.out.2 H2.out.2.1.size (fun j e => by cases e; exact Nat.le_trans HB.out.1.size hwg)
     have hO8 := HI.out.1
     rw [mixW_end] at hO8
     obtain ⟨cur8, hQ8⟩ := hO8
     have hD := DeleteSol w1.heap.size n cap g b (m.set a t) cur8 wr hQ8 (by rw [List.length_set]; exact HN.out.symm) hbm (by have := HB.out.2.2; rw [← HN.out] at this; omega)
     have HD := Lib.hid (And.intro hD hbl)
     have hwq := wrap_succ (q := b) (by have := HB.out.2.2; rw [← HN.out] at this; omega)
     clear hQ8 hD hbl HI
     go_wp2_with fail
     refine HD.out.1.mono ?_
     rintro e w3 ⟨u3, rfl, hO3, hb3⟩
     have HZ := Lib.hid (And.intro hO3.sl hb3)
     clear hO3 hb3
     go_wp2_with fail
     go_ret2
     refine ⟨_, rfl, ?_, HD.out.2.trans (HZ.out.2.mono HB.out.1.size)⟩
     rw [HB.out.2.1]
     unfold joinN
     rw [List.eraseIdx_eq_take_drop_succ]
     have e1 : m.getD a 0 = x := by rw [List.getD_eq_getElem?_getD, H2.out.2.2.1]; rfl
     have e2 : m.getD b 0 = y := by rw [List.getD_eq_getElem?_getD, H2.out.2.2.2.1]; rfl
     rw [e1, e2, ← H2.out.2.2.2.2.1]
     exact HZ.out.1
 ·rw [if_neg h0] at hEF
  subst hEF
  have hLe : L = [] := by
   rw [HE.out.2.1]; unfold joinL; rw [← HE.out.1, if_neg h0]
  have h1 : ¬ (E = 0) := h0
  have hc0 : (E == 0) = false := by simpa using h0
  have HB := Lib.hid (And.intro hb hLe)
  clear hb hb1 hx hn hF HE HA hLe h0
  go_wp2_with fail
  go_ret2
  exact ⟨_, rfl, by rw [HB.out.2]; exact sl_nil, HB.out.1⟩
end Go.Proofs.YtlbhjikkpbknnaaGreatDoor
end
