import Derived.Test.YtccnkebkgegohaaGreatDoorHY3
import Derived.Test.YtccnkebkgegohaaGreatDoorHS4
import Derived.Laws.CopyRow
import Derived.Laws.Tables
import Derived.Laws.AppendOwn
/-
  Given contracts of functions of the program, and laws for them, one behind the other.
-/
set_option linter.unusedVariables false
set_option linter.unusedSimpArgs false
set_option linter.unusedSectionVars false
section
namespace Go.Proofs.YtccnkebkgegohaaGreatDoor
open Go.RowKit Go.Rel
set_option maxRecDepth 100000
/-! behind, of the reference -/
theorem step_append {P : Program} {ops : Array Oper} {R : World → World → Prop} {o : Oper} {a : Act} {φ : Value → World → Prop} {W w' : World} {x y : Operand} {t : TypeId} {v v7 v' : Value}
    (hgd : o.guard = none) (ho : o.op = .call { callee := .builtin .append, args := #[x, y], argTypes := #[t, t] }) (hs : a.eval x = v) (hx : a.eval y = v7)
    (hr : (Builtin.append_ #[t, t] o.type #[v, v7]).run P W = .ok v' w') (h : R W w' ∧ φ v' w') : Rel.step P ops R o a φ W := by
  unfold Rel.step
  have hw : Region.wanted o (yielded ops a.tmps) = true := by unfold Region.wanted; rw [hgd]
  rw [if_pos hw]
  unfold execOp
  simp only [ho, resolve, invoke, builtin, Sem.run_bind, Sem.run_pure, Result.andThen_ok, List.map_toArray, List.map_cons, List.map_nil, hs, hx, hr]
  exact h
def I9 (G : Nat) (c0 : Array Value) (f : Value → Array Value) (xs ys : List Ac) (a b c d e : Bool) (x y z r : Value) (W : World) : Prop := G + 1 ≤ W.heap.size ∧ (a = true → b = false → OwnA W (G + 1) x []) ∧ (b = true → c = false → OwnA W (G + 1) y xs) ∧ (c = true → OwnA W (G + 1) z (xs ++ ys)) ∧ (d = false → Blk W G c0 30) ∧ (d = true → Blk W G (f z) 30) ∧ (e = true → r = .agg (f z))
theorem bel_alloc' {G : Nat} {W : World} (h : G + 1 ≤ W.heap.size) (o : Obj) : Below G W (W.alloc o) := (bel_alloc (bel_refl _) o).mono (by omega)
theorem own_empty {G : Nat} {W : World} (h : G + 1 ≤ W.heap.size) : OwnA (W.alloc (.cells #[] 46)) (G + 1) (.slice (some ⟨W.heap.size, 0, none⟩) 0 0) [] := by
  refine ⟨rfl, .inr ⟨_, 0, #[], rfl, h, ?_, Nat.le_refl _, by decide, rfl, rfl⟩⟩
  show (W.heap.push _)[W.heap.size]? = _
  simp
theorem own_rowO {G : Nat} {W : World} {v : Value} {xs : List Ac} (h : OwnA W (G + 1) v xs) (cs : Array Value) : OwnA (W.setRow G cs) (G + 1) v xs := by
  obtain ⟨hl, h | ⟨g, cap, cur, hv, hg, hh, hr⟩⟩ := h
  · exact ⟨hl, .inl h⟩
  · exact ⟨hl, .inr ⟨g, cap, cur, hv, hg, (setRow_other W G g cs (by omega)).trans hh, hr⟩⟩
set_option maxHeartbeats 16000000 in
theorem behind_spec (b : Sol) (v av u : Value) (acts la : List Ac) (w : World) (Hv : ∃ p n c, v = .slice p n c) (Hav : SlN w av acts) (Hu : SlN w u la) (hm : acts.length + la.length ≤ 1048576) :
    Calls Tryz.prog 106 #[.agg #[.int .u64 (pl b 0), .int .u64 (pl b 1), .int .u64 (pl b 2), .int .u64 (pl b 3), .int .u64 (pl b 4), .int .u64 (pl b 5), .int .u64 (pl b 6), .int .u64 (pl b 7), v, av], u] w fun e w' => ∃ bv, e = .returned (.agg #[.int .u64 (pl b 0), .int .u64 (pl b 1), .int .u64 (pl b 2), .int .u64 (pl b 3), .int .u64 (pl b 4), .int .u64 (pl b 5), .int .u64 (pl b 6), .int .u64 (pl b 7), v, bv]) ∧ OwnA w' w.heap.size bv (acts ++ la) ∧ Below w.heap.size w w' := by
  have HA := Lib.hid Hav
  have HU := Lib.hid Hu
  obtain ⟨⟨ap, ac, rfl, _⟩, _⟩ := Hav
  rw [List.length_map] at *
  obtain ⟨vp, vn, vc, rfl⟩ := Hv
  have HM := Lib.hid hm
  clear Hu hm
  go_enter Tryz.func106, Tryz.ntmps106
  go_wp2_with fail
  have g0 : Blk ((w.alloc (.cells (#[.int .u64 (pl b 0), .int .u64 (pl b 1), .int .u64 (pl b 2), .int .u64 (pl b 3), .int .u64 (pl b 4), .int .u64 (pl b 5), .int .u64 (pl b 6), .int .u64 (pl b 7), .slice vp vn vc, .slice ap acts.length ac] : Array Value) 30)).alloc (.cells #[.int .u64 0, .int .u64 0, .int .u64 0, .int .u64 0, .int .u64 0, .int .u64 0, .int .u64 0, .int .u64 0, .slice none 0 0, .slice none 0 0] 30)) w.heap.size #[.int .u64 (pl b 0), .int .u64 (pl b 1), .int .u64 (pl b 2), .int .u64 (pl b 3), .int .u64 (pl b 4), .int .u64 (pl b 5), .int .u64 (pl b 6), .int .u64 (pl b 7), .slice vp vn vc, .slice ap acts.length ac] 30 := blk_by
  have g4 : Blk ((w.alloc (.cells (#[.int .u64 (pl b 0), .int .u64 (pl b 1), .int .u64 (pl b 2), .int .u64 (pl b 3), .int .u64 (pl b 4), .int .u64 (pl b 5), .int .u64 (pl b 6), .int .u64 (pl b 7), .slice vp vn vc, .slice ap acts.length ac] : Array Value) 30)).alloc (.cells #[.int .u64 0, .int .u64 0, .int .u64 0, .int .u64 0, .int .u64 0, .int .u64 0, .int .u64 0, .int .u64 0, .slice none 0 0, .slice none 0 0] 30)) (w.heap.size + 1) #[.int .u64 0, .int .u64 0, .int .u64 0, .int .u64 0, .int .u64 0, .int .u64 0, .int .u64 0, .int .u64 0, .slice none 0 0, .slice none 0 0] 30 := blk_by
  have hB : Below w.heap.size w ((w.alloc (.cells (#[.int .u64 (pl b 0), .int .u64 (pl b 1), .int .u64 (pl b 2), .int .u64 (pl b 3), .int .u64 (pl b 4), .int .u64 (pl b 5), .int .u64 (pl b 6), .int .u64 (pl b 7), .slice vp vn vc, .slice ap acts.length ac] : Array Value) 30)).alloc (.cells #[.int .u64 0, .int .u64 0, .int .u64 0, .int .u64 0, .int .u64 0, .int .u64 0, .int .u64 0, .int .u64 0, .slice none 0 0, .slice none 0 0] 30)) := bel_by
  generalize ((w.alloc (.cells (#[.int .u64 (pl b 0), .int .u64 (pl b 1), .int .u64 (pl b 2), .int .u64 (pl b 3), .int .u64 (pl b 4), .int .u64 (pl b 5), .int .u64 (pl b 6), .int .u64 (pl b 7), .slice vp vn vc, .slice ap acts.length ac] : Array Value) 30)).alloc (.cells #[.int .u64 0, .int .u64 0, .int .u64 0, .int .u64 0, .int .u64 0, .int .u64 0, .int .u64 0, .int .u64 0, .slice none 0 0, .slice none 0 0] 30)) = wr at *
  generalize hG : w.heap.size + 1 = G at *
  have hGs := g4.lt
  refine wp_region_val (Below G) (fun L vs W => I9 G #[.int .u64 0, .int .u64 0, .int .u64 0, .int .u64 0, .int .u64 0, .int .u64 0, .int .u64 0, .int .u64 0, .slice none 0 0, .slice none 0 0] (fun z => #[.int .u64 (pl b 0), .int .u64 (pl b 1), .int .u64 (pl b 2), .int .u64 (pl b 3), .int .u64 (pl b 4), .int .u64 (pl b 5), .int .u64 (pl b 6), .int .u64 (pl b 7), .slice vp vn vc, z]) acts la (L 2) (L 5) (L 7) (L 9) (L 8) (vs 2) (vs 5) (vs 7) (vs 8) W) [Is (.pointer (some ⟨w.heap.size, 0, none⟩)), Is (.agg #[.int .u64 (pl b 0), .int .u64 (pl b 1), .int .u64 (pl b 2), .int .u64 (pl b 3), .int .u64 (pl b 4), .int .u64 (pl b 5), .int .u64 (pl b 6), .int .u64 (pl b 7), .slice vp vn vc]), AnyV, Is (.pointer (some ⟨w.heap.size, 9, none⟩)), Is (.slice ap acts.length ac), AnyV, Is u, AnyV, AnyV, AnyV] (by kernel_rfl) (by kernel_rfl) rfl (Below.refl G) (fun _ _ _ => Below.trans) (stable_mem ⟨fun _ _ _ h _ => h, fun _ _ _ h _ => h, fun _ _ _ h _ => h, fun _ _ _ h _ => h, fun _ _ _ h _ => h, fun _ _ _ h _ => h, fun _ _ _ h _ => h, fun _ _ _ h _ => h, fun _ _ _ h _ => h, fun _ _ _ h _ => h, trivial⟩) wr (Below.drew (Below.refl _ _)) (⟨hGs, (fun e => by cases e), (fun e => by cases e), (fun e => by cases e), (fun _ => g4), (fun e => by cases e), (fun e => by cases e)⟩) ?_
  refine val_cons ?_ (fun v0 => ?_)
  · intro L vs w1 hvs hat hb hI hF
    try simp [factsI, Region.binds, Is] at hF
    go_simp
    simp [upd]
    exact ⟨Below.refl _ _, hI⟩
  refine val_cons ?_ (fun v1 => ?_)
  · intro L vs w1 hvs hat hb hI hF
    try simp [factsI, Region.binds, Is] at hF
    have c0 := (g0.below hb (by omega)).cell
    go_simp
    simp [upd]
    exact ⟨Below.refl _ _, hI⟩
  refine val_cons ?_ (fun v2 => ?_)
  · intro L vs w1 hvs hat hb hI hF
    try simp [factsI, Region.binds, Is] at hF
    have h5 := hat.later 9 5 (by kernel_rfl)
    have h7 := hat.later 9 7 (by kernel_rfl)
    have h8 := hat.later 9 8 (by kernel_rfl)
    have h9 := hat.later 9 9 (by kernel_rfl)
    obtain ⟨hs, _, _, _, h4, _⟩ := hI
    have hg4 := h4 h9
    clear h4
    go_simp
    simp [upd]
    refine ⟨bel_alloc' hs _, ⟨by simp; omega, fun _ _ => own_empty hs, fun e => (by first | (rw [h5] at e; cases e) | cases e), fun e => (by first | (rw [h7] at e; cases e) | cases e), fun _ => hg4.alloc _, fun e => (by first | (rw [h9] at e; cases e) | cases e), fun e => (by first | (rw [h8] at e; cases e) | cases e)⟩, trivial⟩
  refine val_cons ?_ (fun v3 => ?_)
  · intro L vs w1 hvs hat hb hI hF
    try simp [factsI, Region.binds, Is] at hF
    go_simp
    simp [upd]
    exact ⟨Below.refl _ _, hI⟩
  refine val_cons ?_ (fun v4 => ?_)
  · intro L vs w1 hvs hat hb hI hF
    try simp [factsI, Region.binds, Is] at hF
    have c0 := (g0.below hb (by omega)).cell
    go_simp
    simp [upd]
    exact ⟨Below.refl _ _, hI⟩
  refine val_cons ?_ (fun v5 => ?_)
  · intro L vs w1 hvs hat hb hI hF
    try simp [factsI, Region.binds, Is] at hF
    have h2 := hat.ahead 9 2 (by kernel_rfl)
    have h5 := hat.self
    have h7 := hat.later 9 7 (by kernel_rfl)
    have h8 := hat.later 9 8 (by kernel_rfl)
    have h9 := hat.later 9 9 (by kernel_rfl)
    have hv2 : vs 2 = v2 := hvs 2 (by omega)
    obtain ⟨_, rfl⟩ := hF
    obtain ⟨hs, h1, _, _, h4, _⟩ := hI
    have hO := h1 h2 h5
    rw [hv2] at hO
    have hg4 := h4 h9
    obtain ⟨v', w', hr, hO', hg⟩ := app_ac hO (HA.out.mono (hB.trans (hb.mono (by omega)))) (by have := HM.out; simp; omega) hs
    have hbl : Below (G + 1) w1 w' := (Below.refl (G + 1) w1).grown hg (by omega) (fun k hk => by have := (hO.lt k hk).1; omega)
    refine step_append rfl rfl rfl rfl hr ?_
    simp [upd]
    exact ⟨hbl.mono (by omega), ⟨Nat.le_trans hs hbl.size, fun _ e => (by cases e), fun _ _ => hO', fun e => (by first | (rw [h7] at e; cases e) | cases e), fun _ => hg4.below hbl (by omega), fun e => (by first | (rw [h9] at e; cases e) | cases e), fun e => (by first | (rw [h8] at e; cases e) | cases e)⟩, trivial⟩
  refine val_cons ?_ (fun v6 => ?_)
  · intro L vs w1 hvs hat hb hI hF
    try simp [factsI, Region.binds, Is] at hF
    go_simp
    simp [upd]
    exact ⟨Below.refl _ _, hI⟩
  refine val_cons ?_ (fun v7 => ?_)
  · intro L vs w1 hvs hat hb hI hF
    try simp [factsI, Region.binds, Is] at hF
    have h5 := hat.ahead 9 5 (by kernel_rfl)
    have h7 := hat.self
    have h8 := hat.later 9 8 (by kernel_rfl)
    have h9 := hat.later 9 9 (by kernel_rfl)
    have hv5 : vs 5 = v5 := hvs 5 (by omega)
    obtain ⟨_, rfl, _⟩ := hF
    obtain ⟨hs, _, h1, _, h4, _⟩ := hI
    have hO := h1 h5 h7
    rw [hv5] at hO
    have hg4 := h4 h9
    obtain ⟨v', w', hr, hO', hg⟩ := app_ac hO (HU.out.mono (hB.trans (hb.mono (by omega)))) HM.out hs
    have hbl : Below (G + 1) w1 w' := (Below.refl (G + 1) w1).grown hg (by omega) (fun k hk => by have := (hO.lt k hk).1; omega)
    refine step_append rfl rfl rfl rfl hr ?_
    simp [upd]
    exact ⟨hbl.mono (by omega), ⟨Nat.le_trans hs hbl.size, fun _ e => (by first | (rw [h5] at e; cases e) | cases e), fun _ e => (by cases e), fun _ => hO', fun _ => hg4.below hbl (by omega), fun e => (by first | (rw [h9] at e; cases e) | cases e), fun e => (by first | (rw [h8] at e; cases e) | cases e)⟩, trivial⟩
  refine val_cons ?_ (fun v8 => ?_)
  · intro L vs w1 hvs hat hb hI hF
    try simp [factsI, Region.binds, Is] at hF
    have h7 := hat.ahead 9 7 (by kernel_rfl)
    have hv7 : vs 7 = v7 := hvs 7 (by omega)
    obtain ⟨rfl, _⟩ := hF
    obtain ⟨hs, a1, a2, a3, a4, a5, _⟩ := hI
    have hO := a3 h7
    rw [hv7] at hO
    obtain ⟨p, m, c, hp⟩ := own_shape hO
    subst hp
    clear hO
    have A := Lib.hid (And.intro a1 (And.intro a2 (And.intro a3 (And.intro a4 a5))))
    clear a1 a2 a3 a4 a5
    go_simp
    simp [upd]
    exact ⟨Below.refl _ _, ⟨hs, A.out.1, (fun _ e => by cases e), (fun _ => A.out.2.2.1 h7), A.out.2.2.2.1, A.out.2.2.2.2, fun _ => by rw [hv7]⟩, trivial⟩
  refine val_cons ?_ (fun v9 => ?_)
  · intro L vs w1 hvs hat hb hI hF
    try simp [factsI, Region.binds, Is] at hF
    have h5 := hat.ahead 9 5 (by kernel_rfl)
    have h7 := hat.ahead 9 7 (by kernel_rfl)
    have h8 := hat.ahead 9 8 (by kernel_rfl)
    have h9 := hat.self
    have hv7 : vs 7 = v7 := hvs 7 (by omega)
    have hv8 : vs 8 = v8 := hvs 8 (by omega)
    obtain ⟨hs, a1, a2, a3, a4, a5, a6⟩ := hI
    have e8 := a6 h8
    have hO := a3 h7
    rw [hv7] at hO
    rw [hv7, hv8] at e8
    obtain ⟨p, m, c, hp⟩ := own_shape hO
    subst hp
    subst e8
    have g4' := a4 h9
    have r0 := g4'.row
    have HW := Lib.hid g4'.rw
    have HBK := Lib.hid g4'
    have HO := Lib.hid hO
    rw [← HW.out]
    clear hF a1 a2 a3 a4 a5 a6 g4' hO
    go_simp
    rw [HW.out]
    simp [upd]
    exact ⟨blw_row (Below.refl _ _) (Nat.le_refl _) _, ⟨by rw [setRow_size]; exact hs, fun _ e => (by first | (rw [h5] at e; cases e) | cases e), fun _ e => (by first | (rw [h7] at e; cases e) | cases e), fun _ => by rw [hv7]; exact own_rowO HO.out _, fun e => (by first | (rw [h9] at e; cases e) | cases e), fun _ => by rw [hv7]; exact HBK.out.rowS _, fun _ => by rw [hv8, hv7]⟩, trivial⟩
  refine val_nil ?_
  intro vs w1 hvs hb hI hF
  simp [Is, Nat.forall_lt_succ_right] at hF
  have e0 := hF.1.1.1.1.1.1.1.1.1
  have e1 := hF.1.1.1.1.1.1.1.1.2
  have e2 := hF.1.1.1.1.1.1.1.2
  have e3 := hF.1.1.1.1.1.1.2
  have e4 := hF.1.1.1.1.1.2
  have e5 := hF.1.1.1.1.2
  have e6 := hF.1.1.1.2
  have e7 := hF.1.1.2
  have e8 := hF.1.2
  have e9 := hF.2
  clear hF
  simp only [Act.put, List.setIfInBounds_toArray, List.set_cons_succ, List.set_cons_zero, e0, e1, e2, e3, e4, e5, e6, e8, e9]
  clear e0 e1 e2 e3 e4 e5 e6 e8 e9
  have hv7 : vs 7 = v7 := hvs 7 (by omega)
  obtain ⟨hs, _, _, a3, _, a5, _⟩ := hI
  have hO := a3 rfl
  have g4' := a5 rfl
  rw [hv7] at hO g4'
  obtain ⟨p, m, c, hp⟩ := own_shape hO
  subst hp
  have c4 := g4'.cell
  have l4 := g4'.lt
  have hbw : Below w.heap.size w w1 := hB.trans (hb.mono (by omega))
  have HO := Lib.hid (own_weak hO (show w.heap.size ≤ G + 1 by omega))
  clear hvs hv7 hO g4' a3 a5
  go_wp2_with fail
  refine bodyPost_ret (by simp [results, Tryz.results106, go_sem, *]) rfl ⟨_, rfl, HO.out, hbw⟩
end Go.Proofs.YtccnkebkgegohaaGreatDoor
end
section
namespace Go.Proofs.YtccnkebkgegohaaGreatDoor
open Go
/-! a struct stored into a list in place -/
def spl (cur : Array Value) (o : Nat) (vs : List Value) : Array Value := (cur.toList.take o ++ vs ++ cur.toList.drop (o + vs.length)).toArray
theorem spl_size {cur : Array Value} {o : Nat} {vs : List Value} (h : o + vs.length ≤ cur.size) : (spl cur o vs).size = cur.size := by
  unfold spl; simp; omega
theorem run_storeVar_at {P : Program} (w : World) (g of : Nat) (t ty : TypeId) (cur cells : Array Value) (hg : w.heap[g]? = some (.cells cur t (0, 0))) (hi : (P.info? ty).map (·.size) = some cells.size)
    (hfit : of + cells.size ≤ cur.size) (h1 : cells.all (·.oneCell') = true) : (storeVar ty ⟨g, of, none⟩ (.agg cells)).run P w = .ok () (w.setRow g (spl cur of cells.toList)) := by
  have := run_storeCells_at (P := P) g of t cells.toList 0 cur w hg (by simpa using hfit) (fun v hv => (Array.all_eq_true_iff_forall_mem.1 h1) v (by simpa using hv))
  cases hq : P.info? ty with
  | none => simp [hq] at hi
  | some i =>
    have hs : cells.size = i.size := by simp [hq] at hi; omega
    simp only [Nat.add_zero] at this
    simp [storeVar, sizeOf, typeInfo, hq, Value.cells, hs, this, spl]
theorem wpList_store_at {P : Program} {ops : Array Oper} {rest : List Oper} {o : Oper} {a : Act} {w : World} {Q : Exit → Act → World → Prop} (hgd : o.guard = none) (ty : TypeId) (x y : Operand) (ho : o.op = .store ty x y)
    (g of : Nat) (cells : Array Value) (hx : a.eval x = .pointer (some ⟨g, of, none⟩)) (hy : a.eval y = .agg cells)
    (t : TypeId) (cur : Array Value) (hg : w.heap[g]? = some (.cells cur t (0, 0))) (hi : (P.info? ty).map (·.size) = some cells.size)
    (hfit : of + cells.size ≤ cur.size) (h1 : cells.all (·.oneCell') = true)
    (h : wpList P ops Q rest (a.put o.dst undef) (w.setRow g (spl cur of cells.toList))) : wpList P ops Q (o :: rest) a w :=
  wpList_plain hgd fun _ hK => by
    unfold Oper.wp execOp
    simp only [ho, hx, hy, Instr.storeAt, Instr.sureAddr, Sem.run_bind, Sem.run_pure, Result.andThen_ok, run_storeVar_at w g of t ty cur cells hg hi hfit h1]
    exact hK _ _ h
/-- rows of k cells, one of them set -/
theorem flat_set {k : Nat} {α : Type} (row : α → List Value) (hk : ∀ a, (row a).length = k) (x : α) : ∀ (m : List α) (i : Nat), i < m.length → ((m.set i x).map row).flatten = (m.map row).flatten.take (i * k) ++ row x ++ (m.map row).flatten.drop (i * k + k)
  | y :: m, 0, _ => by
    have h : (row y).length = k := hk y
    simp only [List.set_cons_zero, List.map_cons, List.flatten_cons, Nat.zero_mul, List.take_zero, List.nil_append, Nat.zero_add]
    rw [← h, List.drop_left]
  | y :: m, i + 1, h => by
    have hy : (row y).length = k := hk y
    have ih := flat_set row hk x m i (by simpa using h)
    simp only [List.set_cons_succ, List.map_cons, List.flatten_cons, ih]
    have e1 : (i + 1) * k = (row y).length + i * k := by rw [hy, Nat.add_mul, Nat.one_mul, Nat.add_comm]
    rw [e1, List.take_length_add_append, Nat.add_assoc, List.drop_length_add_append]
    simp
theorem flat_len10 {k : Nat} {α : Type} (row : α → List Value) (hk : ∀ a, (row a).length = k) : ∀ m : List α, ((m.map row).flatten).length = m.length * k
  | [] => by simp
  | y :: m => by simp [flat_len10 row hk m, hk y, Nat.add_mul]; omega
/-- a block whose first cells are the rows of a list, one row stored -/
theorem spl_take {k : Nat} {α : Type} (row : α → List Value) (hk : ∀ a, (row a).length = k) {m : List α} {cur : Array Value} {i : Nat} (hi : i < m.length) (hc : m.length * k ≤ cur.size) (ht : cur.toList.take (m.length * k) = (m.map row).flatten) (x : α) :
    (spl cur (i * k) (row x)).toList.take (m.length * k) = ((m.set i x).map row).flatten := by
  rw [flat_set row hk x m i hi, ← ht]
  have hik : i * k + k ≤ m.length * k := by
    have := Nat.mul_le_mul_right k (show i + 1 ≤ m.length from hi)
    rwa [Nat.add_mul, Nat.one_mul] at this
  unfold spl
  simp only [hk]
  rw [List.take_take, Nat.min_eq_left (by omega), List.drop_take]
  have hP : (cur.toList.take (i * k) ++ row x).length = i * k + k := by
    rw [List.length_append, List.length_take, Array.length_toList, hk]; omega
  have hN : m.length * k = (cur.toList.take (i * k) ++ row x).length + (m.length * k - (i * k + k)) := by rw [hP]; omega
  show (cur.toList.take (i * k) ++ row x ++ cur.toList.drop (i * k + k)).take (m.length * k) = _
  generalize hM : m.length * k - (i * k + k) = M at *
  rw [hN, List.take_length_add_append]
end Go.Proofs.YtccnkebkgegohaaGreatDoor
end
section
namespace Go.Proofs.YtccnkebkgegohaaGreatDoor
open Go.RowKit Go.Rel
set_option maxRecDepth 100000
/-! a list of acts of our own, one act stored in place -/
structure OwnB (W : World) (base : Nat) (m : List Ac) (g cap : Nat) (cur : Array Value) : Prop where
  base : base ≤ g
  blk : Blk W g cur 46
  le : m.length ≤ cap
  lim : cap ≤ maxLen
  size : cur.size = cap * 10
  rows : cur.toList.take (m.length * 10) = (m.map acL).flatten
theorem OwnA.opn {W : World} {base : Nat} {v : Value} {m : List Ac} (h : OwnA W base v m) (h0 : m ≠ []) : ∃ g cap cur, v = .slice (some ⟨g, 0, none⟩) m.length cap ∧ OwnB W base m g cap cur := by
  obtain ⟨_, h | ⟨g, cap, cur, hv, hg, hh, hr⟩⟩ := h
  · exact absurd (List.eq_nil_of_length_eq_zero h.2) h0
  · exact ⟨g, cap, cur, hv, hg, hh, hr.1, hr.2.1, hr.2.2.1, hr.2.2.2⟩
theorem acL_len (a : Ac) : (acL a).length = 10 := rfl
@[irreducible] def VBk (base : Nat) (C : Array Value) (t : TypeId) (v : Value) (W : World) : Prop := ∃ g, v = .pointer (some ⟨g, 0, none⟩) ∧ base ≤ g ∧ Blk W g C t
theorem VBk.stab {base : Nat} {C : Array Value} {t : TypeId} (v : Value) (W W' : World) (h : VBk base C t v W) (g : Grows W W') : VBk base C t v W' := by unfold VBk at *; obtain ⟨q, h1, h2, h3⟩ := h; exact ⟨q, h1, h2, h3.grow g⟩
section
variable {W : World} {base g cap : Nat} {m : List Ac} {cur : Array Value}
theorem OwnB.own (h : OwnB W base m g cap cur) : OwnA W base (.slice (some ⟨g, 0, none⟩) m.length cap) m :=
  ⟨flat_len10 acL acL_len m, .inr ⟨g, cap, cur, rfl, h.base, h.blk, h.le, h.lim, h.size, h.rows⟩⟩
theorem OwnB.fit (h : OwnB W base m g cap cur) {i : Nat} (hi : i < m.length) (x : Ac) : i * 10 + (acL x).length ≤ cur.size := by
  rw [h.size, acL_len]
  have := h.le
  omega
theorem OwnB.set (h : OwnB W base m g cap cur) {i : Nat} (hi : i < m.length) (x : Ac) : OwnB (W.setRow g (spl cur (i * 10) (acL x))) base (m.set i x) g cap (spl cur (i * 10) (acL x)) := by
  have hf := h.fit hi x
  have hl : (m.set i x).length = m.length := List.length_set ..
  refine ⟨h.base, h.blk.rowS _, by rw [hl]; exact h.le, h.lim, by rw [spl_size hf]; exact h.size, ?_⟩
  rw [hl]
  exact spl_take acL acL_len hi (by rw [h.size]; have := h.le; omega) h.rows x
end
theorem own_rowT {w : World} {base bp : Nat} {e t : TypeId} {size : Nat} {u : Value} {n : Nat} {zs : List Value} {C : Array Value} (hu : w.ownsRow base e size u n zs) (hb : Blk w bp C t) (hne : t ≠ e) (c : Array Value) : (w.setRow bp c).ownsRow base e size u n zs := by
  obtain ⟨hl, h | ⟨g, cap, cur, hv, hg, hh, hr⟩⟩ := hu
  · exact ⟨hl, .inl h⟩
  · refine ⟨hl, .inr ⟨g, cap, cur, hv, hg, (setRow_other w bp g c ?_).trans hh, hr⟩⟩
    rintro rfl
    have h2 : w.heap[g]? = some (.cells C t (0, 0)) := hb
    rw [h2] at hh
    exact hne (by injection hh with hh; injection hh)
end Go.Proofs.YtccnkebkgegohaaGreatDoor
end
section
namespace Go.Proofs.YtccnkebkgegohaaGreatDoor
open Go.RowKit Go.Rel
set_option maxRecDepth 100000
/-! Stand in the reference's form; what Act answers -/
theorem runT_sol (r : (Nat × Int) ⊕ Stn) : ∃ (s : Sol) (o : Int), runT r = #[.int .u64 (pl s 0), .int .u64 (pl s 1), .int .u64 (pl s 2), .int .u64 (pl s 3), .int .u64 (pl s 4), .int .u64 (pl s 5), .int .u64 (pl s 6), .int .u64 (pl s 7), .int .u8 o] := by
  cases r with
  | inl x => exact ⟨0, 0, by simp only [runT, show ∀ k, pl (0 : Sol) k = 0 from pl_zero]⟩
  | inr s => exact ⟨s.1, s.2, rfl⟩
theorem Stand_v (b : Sol) (v av : Value) (l : List Sol) (acts : List Ac) (w : World) (Hv : SlS w v l) (Hav : SlA w av acts) :
    Calls Tryz.prog 22 #[.agg #[.int .u64 (pl b 0), .int .u64 (pl b 1), .int .u64 (pl b 2), .int .u64 (pl b 3), .int .u64 (pl b 4), .int .u64 (pl b 5), .int .u64 (pl b 6), .int .u64 (pl b 7), v, av]] w fun e w' => e = .returned (.tuple #[.agg (runT (begunM b l acts)), .int .i64 (checkR b l acts).2]) ∧ Below w.heap.size w w' := by
  cases h : begunM b l acts with
  | inl x => unfold checkR; rw [h]; exact Stand_bad h w Hv Hav
  | inr s => unfold checkR; rw [h]; exact Stand_good h w Hv Hav
def actE (b : Sol) (l : List Sol) (m : List Ac) (a : Ac) : Int := if (checkR b l m).2 = 0 then (checkR b l (m ++ [a])).2 else (checkR b l m).2
def ActRes (b : Sol) (l : List Sol) (m : List Ac) (a : Ac) (w : World) (e : Ending) (w' : World) : Prop := if actE b l m a = 0 then HRes b l (m ++ [a]) 0 w e w' else HRes 0 [] [] (actE b l m a) w e w'
theorem checkR_ok {b : Sol} {l : List Sol} {m : List Ac} (h : (checkR b l m).2 = 0) : ∃ s, begunM b l m = .inr s := by
  unfold checkR at h
  cases hb : begunM b l m with
  | inr s => exact ⟨s, rfl⟩
  | inl x =>
    rw [hb] at h
    have := begunM_bad hb
    have h' : x.2 = 0 := h
    rw [h'] at this
    cases this
theorem checkR_len {b : Sol} {l : List Sol} {m : List Ac} (h : (checkR b l m).2 = 0) : m.length ≤ 60 := by
  obtain ⟨s, hs⟩ := checkR_ok h
  exact (begunM_good hs).2.1
theorem actRes_no {b : Sol} {l : List Sol} {m : List Ac} {a : Ac} (h : ¬ (checkR b l m).2 = 0) {w w' : World} {e : Ending} (hr : HRes 0 [] [] (checkR b l m).2 w e w') : ActRes b l m a w e w' := by
  have : actE b l m a = (checkR b l m).2 := by unfold actE; rw [if_neg h]
  unfold ActRes
  rw [this, if_neg h]; exact hr
theorem actRes_no2 {b : Sol} {l : List Sol} {m : List Ac} {a : Ac} (h : (checkR b l m).2 = 0) (h2 : ¬ (checkR b l (m ++ [a])).2 = 0) {w w' : World} {e : Ending} (hr : HRes 0 [] [] (checkR b l (m ++ [a])).2 w e w') : ActRes b l m a w e w' := by
  have : actE b l m a = (checkR b l (m ++ [a])).2 := by unfold actE; rw [if_pos h]
  unfold ActRes
  rw [this, if_neg h2]; exact hr
theorem actRes_yes {b : Sol} {l : List Sol} {m : List Ac} {a : Ac} (h : (checkR b l m).2 = 0) (h2 : (checkR b l (m ++ [a])).2 = 0) {w w' : World} {e : Ending} (hr : HRes b l (m ++ [a]) 0 w e w') : ActRes b l m a w e w' := by
  have : actE b l m a = 0 := by unfold actE; rw [if_pos h, h2]
  unfold ActRes
  rw [if_pos this]; exact hr
end Go.Proofs.YtccnkebkgegohaaGreatDoor
end
