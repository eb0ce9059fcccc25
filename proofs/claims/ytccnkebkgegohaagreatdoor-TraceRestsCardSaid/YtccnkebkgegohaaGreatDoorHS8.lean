import Derived.Test.YtccnkebkgegohaaGreatDoorHS4
/-
  Given contracts of functions of the program, and laws for them, one behind the other.
-/
set_option linter.unusedVariables false
set_option linter.unusedSimpArgs false
set_option linter.unusedSectionVars false
section
namespace Go.Proofs.YtccnkebkgegohaaGreatDoor
open Go.RowKit Go.Rel
set_option maxRecDepth 100000
/-! behind, of the reference -/
theorem step_append {P : Program} {ops : Array Oper} {R : World → World → Prop} {o : Oper} {a : Act} {φ : Value → World → Prop} {W w' : World} {x y : Operand} {t : TypeId} {v v7 v' : Value}
  (hgd : o.guard = none) (ho : o.op = .call { callee := .builtin .append, args := #[x, y], argTypes := #[t, t] }) (hs : a.eval x = v) (hx : a.eval y = v7)
  (hr : (Builtin.append_ #[t, t] o.type #[v, v7]).run P W = .ok v' w') (h : R W w' ∧ φ v' w') : Rel.step P ops R o a φ W := by
 unfold Rel.step
 have hw : Region.wanted o (yielded ops a.tmps) = true := by unfold Region.wanted; rw [hgd]
 rw [if_pos hw]
 unfold execOp
 simp only [ho, resolve, invoke, builtin, Sem.run_bind, Sem.run_pure, Result.andThen_ok, List.map_toArray, List.map_cons, List.map_nil, hs, hx, hr]
 exact h
def I9 (G : Nat) (c0 : Array Value) (f : Value → Array Value) (xs ys : List Ac) (a b c d e : Bool) (x y z r : Value) (W : World) : Prop := G + 1 ≤ W.heap.size ∧ (a = true → b = false → OwnA W (G + 1) x []) ∧ (b = true → c = false → OwnA W (G + 1) y xs) ∧ (c = true → OwnA W (G + 1) z (xs ++ ys)) ∧ (d = false → Blk W G c0 30) ∧ (d = true → Blk W G (f z) 30) ∧ (e = true → r = .agg (f z))
theorem bel_alloc' {G : Nat} {W : World} (h : G + 1 ≤ W.heap.size) (o : Obj) : Below G W (W.alloc o) := (bel_alloc (bel_refl _) o).mono (by omega)
theorem own_empty {G : Nat} {W : World} (h : G + 1 ≤ W.heap.size) : OwnA (W.alloc (.cells #[] 46)) (G + 1) (.slice (some ⟨W.heap.size, 0, none⟩) 0 0) [] := by
 refine ⟨rfl, .inr ⟨_, 0, #[], rfl, h, ?_, Nat.le_refl _, by decide, rfl, rfl⟩⟩
 show (W.heap.push _)[W.heap.size]? = _
 simp
theorem own_rowO {G : Nat} {W : World} {v : Value} {xs : List Ac} (h : OwnA W (G + 1) v xs) (cs : Array Value) : OwnA (W.setRow G cs) (G + 1) v xs := by
 obtain ⟨hl, h | ⟨g, cap, cur, hv, hg, hh, hr⟩⟩ := h
 ·exact ⟨hl, .inl h⟩
 ·exact ⟨hl, .inr ⟨g, cap, cur, hv, hg, (setRow_other W G g cs (by omega)).trans hh, hr⟩⟩
set_option maxHeartbeats 16000000 in
theorem behind_spec (b : Sol) (v av u : Value) (acts la : List Ac) (w : World) (Hv : ∃ p n c, v = .slice p n c) (Hav : SlN w av acts) (Hu : SlN w u la) (hm : acts.length + la.length ≤ 1048576) :
  Calls Tryz.prog 106 #[.agg #[.int .u64 (pl b 0), .int .u64 (pl b 1), .int .u64 (pl b 2), .int .u64 (pl b 3), .int .u64 (pl b 4), .int .u64 (pl b 5), .int .u64 (pl b 6), .int .u64 (pl b 7), v, av], u] w fun e w' => ∃ bv, e = .returned (.agg #[.int .u64 (pl b 0), .int .u64 (pl b 1), .int .u64 (pl b 2), .int .u64 (pl b 3), .int .u64 (pl b 4), .int .u64 (pl b 5), .int .u64 (pl b 6), .int .u64 (pl b 7), v, bv]) ∧ OwnA w' w.heap.size bv (acts ++ la) ∧ Below w.heap.size w w' := by
 have HA := Lib.hid Hav
 have HU := Lib.hid Hu
 obtain ⟨⟨ap, ac, rfl, _⟩, _⟩ := Hav
 rw [List.length_map] at *
 obtain ⟨vp, vn, vc, rfl⟩ := Hv
 have HM := Lib.hid hm
 clear Hu hm
 go_enter Tryz.func106, Tryz.ntmps106
 go_wp2_with fail
 have g0 : Blk ((w.alloc (.cells (#[.int .u64 (pl b 0), .int .u64 (pl b 1), .int .u64 (pl b 2), .int .u64 (pl b 3), .int .u64 (pl b 4), .int .u64 (pl b 5), .int .u64 (pl b 6), .int .u64 (pl b 7), .slice vp vn vc, .slice ap acts.length ac] : Array Value) 30)).alloc (.cells #[.int .u64 0, .int .u64 0, .int .u64 0, .int .u64 0, .int .u64 0, .int .u64 0, .int .u64 0, .int .u64 0, .slice none 0 0, .slice none 0 0] 30)) w.heap.size #[.int .u64 (pl b 0), .int .u64 (pl b 1), .int .u64 (pl b 2), .int .u64 (pl b 3), .int .u64 (pl b 4), .int .u64 (pl b 5), .int .u64 (pl b 6), .int .u64 (pl b 7), .slice vp vn vc, .slice ap acts.length ac] 30 := blk_by
 have g4 : Blk ((w.alloc (.cells (#[.int .u64 (pl b 0), .int .u64 (pl b 1), .int .u64 (pl b 2), .int .u64 (pl b 3), .int .u64 (pl b 4), .int .u64 (pl b 5), .int .u64 (pl b 6), .int .u64 (pl b 7), .slice vp vn vc, .slice ap acts.length ac] : Array Value) 30)).alloc (.cells #[.int .u64 0, .int .u64 0, .int .u64 0, .int .u64 0, .int .u64 0, .int .u64 0, .int .u64 0, .int .u64 0, .slice none 0 0, .slice none 0 0] 30)) (w.heap.size + 1) #[.int .u64 0, .int .u64 0, .int .u64 0, .int .u64 0, .int .u64 0, .int .u64 0, .int .u64 0, .int .u64 0, .slice none 0 0, .slice none 0 0] 30 := blk_by
 have hB : Below w.heap.size w ((w.alloc (.cells (#[.int .u64 (pl b 0), .int .u64 (pl b 1), .int .u64 (pl b 2), .int .u64 (pl b 3), .int .u64 (pl b 4), .int .u64 (pl b 5), .int .u64 (pl b 6), .int .u64 (pl b 7), .slice vp vn vc, .slice ap acts.length ac] : Array Value) 30)).alloc (.cells #[.int .u64 0, .int .u64 0, .int .u64 0, .int .u64 0, .int .u64 0, .int .u64 0, .int .u64 0, .int .u64 0, .slice none 0 0, .slice none 0 0] 30)) := bel_by
 generalize ((w.alloc (.cells (#[.int .u64 (pl b 0), .int .u64 (pl b 1), .int .u64 (pl b 2), .int .u64 (pl b 3), .int .u64 (pl b 4), .int .u64 (pl b 5), .int .u64 (pl b 6), .int .u64 (pl b 7), .slice vp vn vc, .slice ap acts.length ac] : Array Value) 30)).alloc (.cells #[.int .u64 0, .int .u64 0, .int .u64 0, .int .u64 0, .int .u64 0, .int .u64 0, .int .u64 0, .int .u64 0, .slice none 0 0, .slice none 0 0] 30)) = wr at *
 generalize hG : w.heap.size + 1 = G at *
 have hGs := g4.lt
 refine wp_region_val (Below G) (fun L vs W => I9 G #[.int .u64 0, .int .u64 0, .int .u64 0, .int .u64 0, .int .u64 0, .int .u64 0, .int .u64 0, .int .u64 0, .slice none 0 0, .slice none 0 0] (fun z => #[.int .u64 (pl b 0), .int .u64 (pl b 1), .int .u64 (pl b 2), .int .u64 (pl b 3), .int .u64 (pl b 4), .int .u64 (pl b 5), .int .u64 (pl b 6), .int .u64 (pl b 7), .slice vp vn vc, z]) acts la (L 2) (L 5) (L 7) (L 9) (L 8) (vs 2) (vs 5) (vs 7) (vs 8) W) [Is (.pointer (some ⟨w.heap.size, 0, none⟩)), Is (.agg #[.int .u64 (pl b 0), .int .u64 (pl b 1), .int .u64 (pl b 2), .int .u64 (pl b 3), .int .u64 (pl b 4), .int .u64 (pl b 5), .int .u64 (pl b 6), .int .u64 (pl b 7), .slice vp vn vc]), AnyV, Is (.pointer (some ⟨w.heap.size, 9, none⟩)), Is (.slice ap acts.length ac), AnyV, Is u, AnyV, AnyV, AnyV] (by kernel_rfl) (by kernel_rfl) rfl (Below.refl G) (fun _ _ _ => Below.trans) (stable_mem ⟨fun _ _ _ h _ => h, fun _ _ _ h _ => h, fun _ _ _ h _ => h, fun _ _ _ h _ => h, fun _ _ _ h _ => h, fun _ _ _ h _ => h, fun _ _ _ h _ => h, fun _ _ _ h _ => h, fun _ _ _ h _ => h, fun _ _ _ h _ => h, trivial⟩) wr (Below.drew (Below.refl _ _)) (⟨hGs, (fun e => by cases e), (fun e => by cases e), (fun e => by cases e), (fun _ => g4), (fun e => by cases e), (fun e => by cases e)⟩) ?_
 refine val_cons ?_ (fun v0 => ?_)
 ·intro L vs w1 hvs hat hb hI hF; try simp [factsI, Region.binds, Is] at hF
  go_simp
  simp [upd]
  exact ⟨Below.refl _ _, hI⟩
 refine val_cons ?_ (fun v1 => ?_)
 ·intro L vs w1 hvs hat hb hI hF; try simp [factsI, Region.binds, Is] at hF
  have c0 := (g0.below hb (by omega)).cell
  go_simp
  simp [upd]
  exact ⟨Below.refl _ _, hI⟩
 refine val_cons ?_ (fun v2 => ?_)
 ·intro L vs w1 hvs hat hb hI hF; try simp [factsI, Region.binds, Is] at hF
  have h5 := hat.later 9 5 (by kernel_rfl)
  have h7 := hat.later 9 7 (by kernel_rfl)
  have h8 := hat.later 9 8 (by kernel_rfl)
  have h9 := hat.later 9 9 (by kernel_rfl)
  obtain ⟨hs, _, _, _, h4, _⟩ := hI
  have hg4 := h4 h9
  clear h4
  go_simp
  simp [upd]
  refine ⟨bel_alloc' hs _, ⟨by simp; omega, fun _ _ => own_empty hs, fun e => (by first | (rw [h5] at e; cases e) | cases e), fun e => (by first | (rw [h7] at e; cases e) | cases e), fun _ => hg4.alloc _, fun e => (by first | (rw [h9] at e; cases e) | cases e), fun e => (by first | (rw [h8] at e; cases e) | cases e)⟩, trivial⟩
 refine val_cons ?_ (fun v3 => ?_)
 ·intro L vs w1 hvs hat hb hI hF; try simp [factsI, Region.binds, Is] at hF
  go_simp
  simp [upd]
  exact ⟨Below.refl _ _, hI⟩
 refine val_cons ?_ (fun v4 => ?_)
 ·intro L vs w1 hvs hat hb hI hF; try simp [factsI, Region.binds, Is] at hF
  have c0 := (g0.below hb (by omega)).cell
  go_simp
  simp [upd]
  exact ⟨Below.refl _ _, hI⟩
 refine val_cons ?_ (fun v5 => ?_)
 ·intro L vs w1 hvs hat hb hI hF; try simp [factsI, Region.binds, Is] at hF
  have h2 := hat.ahead 9 2 (by kernel_rfl)
  have h5 := hat.self
  have h7 := hat.later 9 7 (by kernel_rfl)
  have h8 := hat.later 9 8 (by kernel_rfl)
  have h9 := hat.later 9 9 (by kernel_rfl)
  have hv2 : vs 2 = v2 := hvs 2 (by omega)
  obtain ⟨_, rfl⟩ := hF
  obtain ⟨hs, h1, _, _, h4, _⟩ := hI
  have hO := h1 h2 h5
  rw [hv2] at hO
  have hg4 := h4 h9
  obtain ⟨v', w', hr, hO', hg⟩ := app_ac hO (HA.out.mono (hB.trans (hb.mono (by omega)))) (by have := HM.out; simp; omega) hs
  have hbl : Below (G + 1) w1 w' := (Below.refl (G + 1) w1).grown hg (by omega) (fun k hk => by have := (hO.lt k hk).1; omega)
  refine step_append rfl rfl rfl rfl hr ?_
  simp [upd]
  exact ⟨hbl.mono (by omega), ⟨Nat.le_trans hs hbl.size, fun _ e => (by cases e), fun _ _ => hO', fun e => (by first | (rw [h7] at e; cases e) | cases e), fun _ => hg4.below hbl (by omega), fun e => (by first | (rw [h9] at e; cases e) | cases e), fun e => (by first | (rw [h8] at e; cases e) | cases e)⟩, trivial⟩
 refine val_cons ?_ (fun v6 => ?_)
 ·intro L vs w1 hvs hat hb hI hF; try simp [factsI, Region.binds, Is] at hF
  go_simp
  simp [upd]
  exact ⟨Below.refl _ _, hI⟩
 refine val_cons ?_ (fun v7 => ?_)
 ·intro L vs w1 hvs hat hb hI hF; try simp [factsI, Region.binds, Is] at hF
  have h5 := hat.ahead 9 5 (by kernel_rfl)
  have h7 := hat.self
  have h8 := hat.later 9 8 (by kernel_rfl)
  have h9 := hat.later 9 9 (by kernel_rfl)
  have hv5 : vs 5 = v5 := hvs 5 (by omega)
  obtain ⟨_, rfl, _⟩ := hF
  obtain ⟨hs, _, h1, _, h4, _⟩ := hI
  have hO := h1 h5 h7
  rw [hv5] at hO
  have hg4 := h4 h9
  obtain ⟨v', w', hr, hO', hg⟩ := app_ac hO (HU.out.mono (hB.trans (hb.mono (by omega)))) HM.out hs
  have hbl : Below (G + 1) w1 w' := (Below.refl (G + 1) w1).grown hg (by omega) (fun k hk => by have := (hO.lt k hk).1; omega)
  refine step_append rfl rfl rfl rfl hr ?_
  simp [upd]
  exact ⟨hbl.mono (by omega), ⟨Nat.le_trans hs hbl.size, fun _ e => (by first | (rw [h5] at e; cases e) | cases e), fun _ e => (by cases e), fun _ => hO', fun _ => hg4.below hbl (by omega), fun e => (by first | (rw [h9] at e; cases e) | cases e), fun e => (by first | (rw [h8] at e; cases e) | cases e)⟩, trivial⟩
 refine val_cons ?_ (fun v8 => ?_)
 ·intro L vs w1 hvs hat hb hI hF; try simp [factsI, Region.binds, Is] at hF
  have h7 := hat.ahead 9 7 (by kernel_rfl)
  have hv7 : vs 7 = v7 := hvs 7 (by omega)
  obtain ⟨rfl, _⟩ := hF
  obtain ⟨hs, a1, a2, a3, a4, a5, _⟩ := hI
  have hO := a3 h7
  rw [hv7] at hO
  obtain ⟨p, m, c, hp⟩ := own_shape hO
  subst hp
  clear hO
  have A := Lib.hid (And.intro a1 (And.intro a2 (And.intro a3 (And.intro a4 a5))))
  clear a1 a2 a3 a4 a5
  go_simp
  simp [upd]
  exact ⟨Below.refl _ _, ⟨hs, A.out.1, (fun _ e => by cases e), (fun _ => A.out.2.2.1 h7), A.out.2.2.2.1, A.out.2.2.2.2, fun _ => by rw [hv7]⟩, trivial⟩
 refine val_cons ?_ (fun v9 => ?_)
 ·intro L vs w1 hvs hat hb hI hF; try simp [factsI, Region.binds, Is] at hF
  have h5 := hat.ahead 9 5 (by kernel_rfl)
  have h7 := hat.ahead 9 7 (by kernel_rfl)
  have h8 := hat.ahead 9 8 (by kernel_rfl)
  have h9 := hat.self
  have hv7 : vs 7 = v7 := hvs 7 (by omega)
  have hv8 : vs 8 = v8 := hvs 8 (by omega)
  obtain ⟨hs, a1, a2, a3, a4, a5, a6⟩ := hI
  have e8 := a6 h8
  have hO := a3 h7
  rw [hv7] at hO
  rw [hv7, hv8] at e8
  obtain ⟨p, m, c, hp⟩ := own_shape hO
  subst hp
  subst e8
  have g4' := a4 h9
  have r0 := g4'.row
  have HW := Lib.hid g4'.rw
  have HBK := Lib.hid g4'
  have HO := Lib.hid hO
  rw [← HW.out]
  clear hF a1 a2 a3 a4 a5 a6 g4' hO
  go_simp
  rw [HW.out]
  simp [upd]
  exact ⟨blw_row (Below.refl _ _) (Nat.le_refl _) _, ⟨by rw [setRow_size]; exact hs, fun _ e => (by first | (rw [h5] at e; cases e) | cases e), fun _ e => (by first | (rw [h7] at e; cases e) | cases e), fun _ => by rw [hv7]; exact own_rowO HO.out _, fun e => (by first | (rw [h9] at e; cases e) | cases e), fun _ => by rw [hv7]; exact HBK.out.rowS _, fun _ => by rw [hv8, hv7]⟩, trivial⟩
 refine val_nil ?_
 intro vs w1 hvs hb hI hF
 simp [Is, Nat.forall_lt_succ_right] at hF
 have e0 := hF.1.1.1.1.1.1.1.1.1
 have e1 := hF.1.1.1.1.1.1.1.1.2
 have e2 := hF.1.1.1.1.1.1.1.2
 have e3 := hF.1.1.1.1.1.1.2
 have e4 := hF.1.1.1.1.1.2
 have e5 := hF.1.1.1.1.2
 have e6 := hF.1.1.1.2
 have e7 := hF.1.1.2
 have e8 := hF.1.2
 have e9 := hF.2
 clear hF
 simp only [Act.put, List.setIfInBounds_toArray, List.set_cons_succ, List.set_cons_zero, e0, e1, e2, e3, e4, e5, e6, e8, e9]
 clear e0 e1 e2 e3 e4 e5 e6 e8 e9
 have hv7 : vs 7 = v7 := hvs 7 (by omega)
 obtain ⟨hs, _, _, a3, _, a5, _⟩ := hI
 have hO := a3 rfl
 have g4' := a5 rfl
 rw [hv7] at hO g4'
 obtain ⟨p, m, c, hp⟩ := own_shape hO
 subst hp
 have c4 := g4'.cell
 have l4 := g4'.lt
 have hbw : Below w.heap.size w w1 := hB.trans (hb.mono (by omega))
 have HO := Lib.hid (own_weak hO (show w.heap.size ≤ G + 1 by omega))
 clear hvs hv7 hO g4' a3 a5
 go_wp2_with fail
 refine bodyPost_ret (by simp [results, Tryz.results106, go_sem, *]) rfl ⟨_, rfl, HO.out, hbw⟩
end Go.Proofs.YtccnkebkgegohaaGreatDoor
end
section
namespace Go.Proofs.YtccnkebkgegohaaGreatDoor
open Go Go.Tra
/-! ### neighbours exchanged; projections -/
def swp (m : List Ac) (i : Nat) : List Ac := (m.set i (m.getD (i + 1) (0, 0, 0))).set (i + 1) (m.getD i (0, 0, 0))
theorem apart_dep {l : List Sol} {m : List Ac} (F : Fine l m) {x y : Ac} (hx : x ∈ m) : (!meetsB (acCells l x) (acCells l y)) = !depA l x y := by rw [depA_meets (F.ne x hx)]
/-- of a list only two acts, as the law keeps them -/
def prj (a b : Ac) (m : List Ac) : List Ac := m.filter fun x => !((!(x == a)) && (!(x == b)))
def freeOrSame (l : List Sol) (g h : List Ac) (a b : Ac) : Bool := !meetsB (acCells l a) (acCells l b) || (prj a b g == prj a b h)
end Go.Proofs.YtccnkebkgegohaaGreatDoor
end
section
-- mk: Trh
namespace Go.Proofs.YtccnkebkgegohaaGreatDoor
open Go Go.Tra
def atN (m : List Ac) (i : Nat) : Ac := m.getD i (0, 0, 0)
/-- the act with an index can be the first one -/
def freeL (l : List Sol) (m : List Ac) (i : Nat) : Bool := (m.take i).all fun z => !meetsB (acCells l z) (acCells l (atN m i))
end Go.Proofs.YtccnkebkgegohaaGreatDoor
end
section
namespace Go.Proofs.YtccnkebkgegohaaGreatDoor
open Go Go.Tra
/-! ### the reference's way to the least list, and to turns -/
/-- the least one so far of those that can be first -/
def bestL (l : List Sol) (m : List Ac) : Nat → Int
 | 0 => -1
 | k + 1 => if freeL l m k && (decide (bestL l m k < 0) || decide (cmpA (atN m k) (atN m (bestL l m k).toNat) < 0)) then (k : Int) else bestL l m k
def dropL (m : List Ac) (i : Nat) : List Ac := m.take i ++ m.drop (i + 1)
def normR (l : List Sol) : Nat → List Ac → List Ac
 | 0, _ => []
 | n + 1, m => atN m (bestL l m m.length).toNat :: normR l n (dropL m (bestL l m m.length).toNat)
section
variable {l : List Sol} {m : List Ac}
theorem atN_at {i : Nat} (h : i < m.length) : atN m i = m[i] := by simp [atN, List.getD_eq_getElem?_getD, List.getElem?_eq_getElem h]
theorem at_split {i : Nat} (h : i < m.length) : m = m.take i ++ atN m i :: m.drop (i + 1) := by
 rw [atN_at h, ← List.drop_eq_getElem_cons h, List.take_append_drop]
theorem freeL_dep (F : Fine l m) {i : Nat} : freeL l m i = (m.take i).all fun z => !depA l z (atN m i) := by
 unfold freeL
 rw [Bool.eq_iff_iff, List.all_eq_true, List.all_eq_true]
 exact ⟨fun h z hz => by rw [← apart_dep F (List.mem_of_mem_take hz)]; exact h z hz, fun h z hz => by rw [apart_dep F (List.mem_of_mem_take hz)]; exact h z hz⟩
theorem minV_snoc (f : Ac → Ac → Int) (y : Ac) : ∀ (x : Ac) (xs : List Ac), minV f x (xs ++ [y]) = if f y (minV f x xs) < 0 then y else minV f x xs
 | x, [] => rfl
 | x, z :: xs => by simp only [List.cons_append, minV]; exact minV_snoc f y _ xs
structure BestIs (l : List Sol) (m : List Ac) (k i : Nat) (x : Ac) (xs : List Ac) : Prop where
 lt : i < k
 fr : ∀ z ∈ m.take i, depA l z (atN m i) = false
 frs : frs (depA l) [] (m.take k) = x :: xs
 min : atN m i = minV cmpA x xs
theorem bestL_is (F : Fine l m) : ∀ k, k ≤ m.length → (bestL l m k = -1 ∧ frs (depA l) [] (m.take k) = []) ∨ ∃ (i : Nat) (x : Ac) (xs : List Ac), bestL l m k = (i : Int) ∧ BestIs l m k i x xs
 | 0, _ => .inl ⟨rfl, rfl⟩
 | k + 1, hk => by
  have hlt : k < m.length := by omega
  have ht : m.take (k + 1) = m.take k ++ [atN m k] := by rw [atN_at hlt, List.take_succ_eq_append_getElem hlt]
  have hf := freeL_dep F (i := k)
  have hs := frs_snoc (D := depA l) [] (m.take k) (atN m k)
  rw [List.nil_append, ← hf, ← ht] at hs
  rcases bestL_is F k (by omega) with ⟨h1, h2⟩ | ⟨i, x, xs, h1, B⟩
  ·rw [h2, List.nil_append] at hs
   unfold bestL
   rw [h1]
   cases hb : freeL l m k with
   | false => rw [hb] at hs; exact .inl ⟨by simp, by simpa using hs⟩
   | true =>
    rw [hb] at hs
    refine .inr ⟨k, atN m k, [], by simp, by omega, fun z hz => ?_, by simpa using hs, rfl⟩
    rw [hb] at hf
    have := List.all_eq_true.1 hf.symm z hz
    simpa using this
  ·rw [B.frs] at hs
   unfold bestL
   rw [h1]
   cases hb : freeL l m k with
   | false => rw [hb] at hs; exact .inr ⟨i, x, xs, by simp, by have := B.lt; omega, B.fr, by simpa using hs, B.min⟩
   | true =>
    rw [hb] at hs
    have hs' : frs (depA l) [] (m.take (k + 1)) = x :: (xs ++ [atN m k]) := by simpa using hs
    have hm := minV_snoc cmpA (atN m k) x xs
    rw [← B.min] at hm
    by_cases hc : cmpA (atN m k) (atN m i) < 0
    ·rw [if_pos hc] at hm
     refine .inr ⟨k, x, xs ++ [atN m k], by simp [hc], by omega, fun z hz => ?_, hs', hm.symm⟩
     rw [hb] at hf
     have := List.all_eq_true.1 hf.symm z hz
     simpa using this
    ·rw [if_neg hc] at hm
     exact .inr ⟨i, x, xs ++ [atN m k], by simp [hc]; omega, by have := B.lt; omega, B.fr, hs', hm.symm⟩
theorem best_all (F : Fine l m) (h0 : m ≠ []) : ∃ (i : Nat) (x : Ac) (xs : List Ac), bestL l m m.length = (i : Int) ∧ BestIs l m m.length i x xs := by
 rcases bestL_is F m.length (Nat.le_refl _) with ⟨_, h2⟩ | h
 ·exfalso
  rw [List.take_length] at h2
  obtain ⟨y, m', rfl⟩ := List.exists_cons_of_ne_nil h0
  rw [frs_head] at h2
  cases h2
 ·exact h
theorem dropL_len {i : Nat} (h : i < m.length) : (dropL m i).length = m.length - 1 := by
 unfold dropL
 rw [List.length_append, List.length_take, List.length_drop]
 omega
theorem dropL_sub {i : Nat} {x : Ac} (h : x ∈ dropL m i) : x ∈ m := by
 rcases List.mem_append.1 h with h | h
 ·exact List.mem_of_mem_take h
 ·exact List.mem_of_mem_drop h
end
theorem normR_nrm {l : List Sol} : ∀ (n : Nat) {m : List Ac}, Fine l m → m.length = n → normR l n m = norm (depA l) cmpA n m
 | 0, _, _, _ => rfl
 | n + 1, m, F, h => by
  have h0 : m ≠ [] := fun e => by subst e; cases h
  obtain ⟨i, x, xs, hb, B⟩ := best_all F h0
  have hi := B.lt
  have hfr := B.frs
  rw [List.take_length] at hfr
  unfold normR norm
  rw [hfr, hb]
  simp only [Int.toNat_natCast]
  rw [← B.min]
  have e : @List.erase Ac instBEqOfDecidableEq m (atN m i) = dropL m i := by
   have hm := at_split hi
   have : @List.erase Ac instBEqOfDecidableEq (m.take i ++ atN m i :: m.drop (i + 1)) (atN m i) = m.take i ++ m.drop (i + 1) := erase_mid (D := depA l) (depA_refl l) B.fr
   rw [← hm] at this
   exact this
  rw [e, normR_nrm n (F.sub fun a ha => dropL_sub ha) (by rw [dropL_len hi, h]; rfl)]
theorem normR_eq {l : List Sol} {m : List Ac} (F : Fine l m) : normR l m.length m = nrm l m := normR_nrm _ F rfl
/-! turns -/
def oppR (x y : Ac) : Bool := !(y.1 == 1) && !(y.1 == x.1) && (y.2.1 == x.2.1)
def scanR (l : List Sol) (x : Ac) : List Ac → Nat → Option Nat
 | [], _ => none
 | y :: ys, k => if meetsB (acCells l x) (acCells l y) then (if oppR x y then some k else none) else scanR l x ys (k + 1)
def turnRf (l : List Sol) : List Ac → Nat → Option (Nat × Nat)
 | [], _ => none
 | x :: ys, i => if x.1 = 1 then turnRf l ys (i + 1) else match scanR l x ys (i + 1) with
  | some k => some (i, k)
  | none => turnRf l ys (i + 1)
def reduceR (l : List Sol) : Nat → List Ac → List Ac
 | 0, m => m
 | n + 1, m => match turnRf l m 0 with
  | none => m
  | some (i, k) => reduceR l n (dropL (dropL m k) i)
end Go.Proofs.YtccnkebkgegohaaGreatDoor
end
section
namespace Go.Proofs.YtccnkebkgegohaaGreatDoor
open Go Go.Tra
/-! ### in how many ways the acts of a set can stand first: the numbers stay small -/
def pc (t : Nat) : Nat → Nat
 | 0 => 0
 | j + 1 => pc t j + (if t.testBit j then 1 else 0)
theorem bit_or (s j i : Nat) : (s ||| 2 ^ j).testBit i = (s.testBit i || decide (i = j)) := by
 rw [Nat.testBit_or, Nat.testBit_two_pow]
 congr 1
 rw [Bool.eq_iff_iff]; simp; exact eq_comm
theorem pc_or {s j : Nat} (hj : s.testBit j = false) : ∀ n, pc (s ||| 2 ^ j) n = pc s n + (if j < n then 1 else 0)
 | 0 => by simp [pc]
 | n + 1 => by
  unfold pc
  rw [pc_or hj n, bit_or]
  by_cases h : n = j
  ·subst h; simp [hj]
  ·by_cases h2 : j < n
   ·rw [if_pos h2, if_pos (by omega : j < n + 1)]; simp [h]; omega
   ·rw [if_neg h2, if_neg (by omega : ¬ j < n + 1)]; simp [h]
/-- how many of the sets with one act less have been seen -/
def seen (s j t : Nat) : Nat → Nat
 | 0 => 0
 | i + 1 => seen s j t i + (if t.testBit i && (decide (t - 2 ^ i < s) || (decide (t - 2 ^ i = s) && decide (i < j))) then 1 else 0)
theorem seen_le (s j t : Nat) : ∀ n, seen s j t n ≤ n
 | 0 => Nat.le_refl _
 | n + 1 => by unfold seen; have := seen_le s j t n; split <;> omega
theorem seen_next (s t : Nat) : ∀ n m, n ≤ m → seen (s + 1) 0 t n = seen s m t n
 | 0, _, _ => rfl
 | n + 1, m, h => by
  unfold seen
  rw [seen_next s t n m (by omega)]
  congr 2
  rw [eq_iff_iff]
  simp only [Bool.and_eq_true, Bool.or_eq_true, decide_eq_true_eq]
  constructor
  ·rintro ⟨h1, h2⟩; exact ⟨h1, by omega⟩
  ·rintro ⟨h1, h2⟩; exact ⟨h1, by omega⟩
theorem seen_mono (s j t : Nat) : ∀ n, seen s j t n ≤ seen s (j + 1) t n
 | 0 => Nat.le_refl _
 | n + 1 => by
  unfold seen
  have ih := seen_mono s j t n
  by_cases h : (t.testBit n && (decide (t - 2 ^ n < s) || (decide (t - 2 ^ n = s) && decide (n < j)))) = true
  ·have h' : (t.testBit n && (decide (t - 2 ^ n < s) || (decide (t - 2 ^ n = s) && decide (n < j + 1)))) = true := by
    simp only [Bool.and_eq_true, Bool.or_eq_true, decide_eq_true_eq] at h ⊢
    exact ⟨h.1, by omega⟩
   rw [if_pos h, if_pos h']; omega
  ·rw [if_neg h]; split <;> omega
theorem or_sub {s j : Nat} (hj : s.testBit j = false) : s ||| 2 ^ j = s + 2 ^ j := by
 have h2 : s / 2 ^ j % 2 = 0 := by
  rw [Nat.testBit_eq_decide_div_mod_eq] at hj
  have := of_decide_eq_false hj
  omega
 have hr : s % 2 ^ (j + 1) < 2 ^ j := by
  rw [Nat.pow_succ, Nat.mod_mul, h2, Nat.mul_zero, Nat.add_zero]
  exact Nat.mod_lt _ (Nat.two_pow_pos j)
 have hs : s = 2 ^ (j + 1) * (s / 2 ^ (j + 1)) + s % 2 ^ (j + 1) := (Nat.div_add_mod _ _).symm
 generalize s / 2 ^ (j + 1) = q at *
 generalize s % 2 ^ (j + 1) = r at *
 have h3 : 2 ^ j + r < 2 ^ (j + 1) := by rw [Nat.pow_succ]; omega
 have h4 := Nat.two_pow_add_eq_or_of_lt hr 1
 rw [Nat.mul_one] at h4
 have h5 := Nat.two_pow_add_eq_or_of_lt h3 q
 have h6 := Nat.two_pow_add_eq_or_of_lt (show r < 2 ^ (j + 1) by omega) q
 rw [hs]
 rw [h6, Nat.or_assoc, Nat.or_comm r, ← h4, ← h5, ← h6]
 omega
theorem seen_step {s j : Nat} (hj : s.testBit j = false) : ∀ n, j < n → seen s j (s ||| 2 ^ j) n + 1 ≤ seen s (j + 1) (s ||| 2 ^ j) n
 | 0, h => by omega
 | n + 1, h => by
  by_cases e : n = j
  ·subst e
   unfold seen
   have := seen_mono s n (s ||| 2 ^ n) n
   have hs : s ||| 2 ^ n - 2 ^ n = s ||| 2 ^ n - 2 ^ n := rfl
   have hsub : (s ||| 2 ^ n) - 2 ^ n = s := by rw [or_sub hj]; omega
   rw [hsub, bit_or]
   simp
   omega
  ·have ih := seen_step hj n (by omega)
   unfold seen
   by_cases h2 : ((s ||| 2 ^ j).testBit n && (decide ((s ||| 2 ^ j) - 2 ^ n < s) || (decide ((s ||| 2 ^ j) - 2 ^ n = s) && decide (n < j)))) = true
   ·have h' : ((s ||| 2 ^ j).testBit n && (decide ((s ||| 2 ^ j) - 2 ^ n < s) || (decide ((s ||| 2 ^ j) - 2 ^ n = s) && decide (n < j + 1)))) = true := by
     simp only [Bool.and_eq_true, Bool.or_eq_true, decide_eq_true_eq] at h2 ⊢
     exact ⟨h2.1, by omega⟩
    rw [if_pos h2, if_pos h']; omega
   ·rw [if_neg h2]; split <;> omega
theorem pow_one14 (k : Nat) : (1 : Int) ≤ 14 ^ k := by
 have e : (14 : Int) ^ k = ((14 ^ k : Nat) : Int) := by rw [Int.natCast_pow]; rfl
 have := Nat.pow_pos (n := k) (by decide : 0 < 14)
 rw [e]; omega
/-- what is known of the numbers when set s is at act j -/
structure Small (n s j : Nat) (f : Nat → Int) : Prop where
 zero : f 0 = 1
 nn : ∀ t, 0 ≤ f t
 le : ∀ t, t ≠ 0 → f t * 14 ≤ (seen s j t n : Int) * 14 ^ pc t n
theorem Small.le1 {n s j : Nat} {f : Nat → Int} (h : Small n s j f) (hn : n ≤ 14) (t : Nat) : f t ≤ 14 ^ pc t n := by
 by_cases e : t = 0
 ·subst e; rw [h.zero]
  exact pow_one14 _
 ·have h1 := h.le t e
  have h2 : (seen s j t n : Int) ≤ 14 := by have := seen_le s j t n; omega
  have h3 : (0 : Int) ≤ 14 ^ pc t n := Int.pow_nonneg (by decide)
  have h4 : (seen s j t n : Int) * 14 ^ pc t n ≤ 14 * 14 ^ pc t n := Int.mul_le_mul_of_nonneg_right h2 h3
  omega
theorem Small.skip {n s j : Nat} {f : Nat → Int} (h : Small n s j f) : Small n s (j + 1) f :=
 ⟨h.zero, h.nn, fun t ht => Int.le_trans (h.le t ht) (Int.mul_le_mul_of_nonneg_right (by have := seen_mono s j t n; omega) (Int.pow_nonneg (by decide)))⟩
theorem Small.next {n s : Nat} {f : Nat → Int} (h : Small n s n f) : Small n (s + 1) 0 f :=
 ⟨h.zero, h.nn, fun t ht => by rw [seen_next s t n n (Nat.le_refl _)]; exact h.le t ht⟩
theorem Small.step {n s j : Nat} {f : Nat → Int} (h : Small n s j f) (hn : n ≤ 14) (hj : j < n) (hb : s.testBit j = false) : Small n s (j + 1) (fun t => if t = s ||| 2 ^ j then f (s ||| 2 ^ j) + f s else f t) := by
 have hne : s ||| 2 ^ j ≠ 0 := by
  intro e
  have := bit_or s j j
  rw [e] at this
  simp at this
 refine ⟨by rw [if_neg (Ne.symm hne)]; exact h.zero, fun t => ?_, fun t ht => ?_⟩
 ·split
  ·exact Int.add_nonneg (h.nn _) (h.nn _)
  ·exact h.nn t
 ·by_cases e : t = s ||| 2 ^ j
  ·subst e
   rw [if_pos rfl]
   have h1 := h.le _ ht
   have h2 := h.le1 hn s
   have h3 := seen_step hb n hj
   have h4 := pc_or hb n
   rw [if_pos hj] at h4
   rw [h4, Int.pow_succ] at h1 ⊢
   have h3' : (seen s j (s ||| 2 ^ j) n : Int) + 1 ≤ seen s (j + 1) (s ||| 2 ^ j) n := by omega
   have h5 : (0 : Int) ≤ 14 ^ pc s n * 14 := Int.mul_nonneg (Int.pow_nonneg (by decide)) (by decide)
   have h6 := Int.mul_le_mul_of_nonneg_right h3' h5
   rw [Int.add_mul, Int.one_mul] at h6
   rw [Int.add_mul]
   refine Int.le_trans ?_ h6
   exact Int.add_le_add h1 (Int.mul_le_mul_of_nonneg_right h2 (by decide))
  ·rw [if_neg e]; exact h.skip.le t ht
end Go.Proofs.YtccnkebkgegohaaGreatDoor
end
