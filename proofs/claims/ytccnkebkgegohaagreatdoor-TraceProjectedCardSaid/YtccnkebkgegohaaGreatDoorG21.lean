import Derived.Test.YtccnkebkgegohaaGreatDoorG20
/-
  Given contracts of functions of the program, and laws for them, one behind the other.
-/
set_option linter.unusedVariables false
set_option linter.unusedSimpArgs false
set_option linter.unusedSectionVars false
section
namespace Go.Proofs.YtccnkebkgegohaaGreatDoor
open Go.RowKit Go.Rel
set_option maxRecDepth 100000
/-- what a step of the region that takes a letter from both may turn -/
structure RBy (h : Nat) (uB : Value) (cs : List Ac) (W W' : World) : Prop where
  mk ::
  bel : Below h W W'
  kept : ∀ j, j < W.heap.size → j ≠ h + 1 + 1 → j ≠ h + 1 + 1 + 1 → j ≠ h + 1 + 1 + 1 + 1 → some j ≠ uB.ownBlock → W'.heap[j]? = W.heap[j]?
  own : ∀ u, OwnA W (h + 1 + 1 + 1 + 1 + 1) u cs → OwnA W' (h + 1 + 1 + 1 + 1 + 1) u cs
  oth : KeepsFrom 0 W W'
section
variable {h : Nat} {uB : Value} {cs : List Ac} {W W' W'' : World}
theorem RBy.refl (W : World) : RBy h uB cs W W := ⟨Below.refl _ _, fun _ _ _ _ _ _ => rfl, fun _ hu => hu, KeepsFrom.refl _ _⟩
theorem RBy.trans (x : RBy h uB cs W W') (y : RBy h uB cs W' W'') : RBy h uB cs W W'' :=
  ⟨x.bel.trans y.bel, fun j hj h1 h2 h3 h4 => (y.kept j (Nat.lt_of_lt_of_le hj x.bel.size) h1 h2 h3 h4).trans (x.kept j hj h1 h2 h3 h4), fun u hu => y.own u (x.own u hu), x.oth.trans y.oth⟩
theorem RBy.grow (hh : h ≤ W.heap.size) (hb : Below W.heap.size W W') : RBy h uB cs W W' :=
  ⟨hb.mono hh, fun j hj _ _ _ _ => hb.block j hj, fun _ hu => own_grow hu hb, keeps_of_below hb⟩
theorem keeps_rows {g : Nat} (hr : Row W g) (a b : Array Value) : KeepsFrom 0 (W.setRow g a) (W.setRow g b) :=
  ⟨by rw [setRow_size, setRow_size]; exact Nat.le_refl _, fun k o _ hk ho => by
    by_cases e : k = g
    · subst e
      obtain ⟨c, t, hb⟩ := hr
      have := setRow_heap W k c a t (0, 0) hb
      rw [this] at hk; cases hk; cases ho
    · rw [setRow_other W g k b e, ← setRow_other W g k a e]; exact hk⟩
theorem RBy.rows {g : Nat} (hg : g = h + 1 + 1 ∨ g = h + 1 + 1 + 1 ∨ g = h + 1 + 1 + 1 + 1) (hr : Row W g) (a b : Array Value) : RBy h uB cs (W.setRow g a) (W.setRow g b) :=
  ⟨blw_rows (by omega) a b, fun j _ h1 h2 h3 _ => by
    have hne : j ≠ g := by omega
    exact (setRow_other W g j b hne).trans (setRow_other W g j a hne).symm,
   fun u hu => hu.kept (row := some g) ⟨rfl, rfl, rfl, by rw [setRow_size, setRow_size]; exact Nat.le_refl _, fun j _ hj => (setRow_other W g j b (fun e => hj (by rw [e]))).trans (setRow_other W g j a (fun e => hj (by rw [e]))).symm⟩ (by
     cases e : u.ownBlock with
     | none => exact .inl rfl
     | some k => refine .inr fun hgk => ?_; cases hgk; have := (hu.lt _ e).1; omega), keeps_rows hr a b⟩
end
/-- a list of numbers of one's own, apart from the letters' row -/
def OwnIX (h : Nat) (uB : Value) (la : List Int) (v : Value) (W : World) : Prop := OwnI W (h + 1 + 1 + 1 + 1 + 1) v la ∧ (∀ g, v.ownBlock = some g → uB.ownBlock ≠ some g)
@[irreducible] def VIX (h : Nat) (uB : Value) (la : List Int) (v : Value) (W : World) : Prop := OwnIX h uB la v W
@[irreducible] def New8 (h : Nat) (uB : Value) (x : Ac) (v : Value) (W : World) : Prop := ∃ g, v = .slice (some ⟨g, 0, none⟩) 1 1 ∧ Blk W g (#[.int .u8 x.1, .int .i64 x.2.1, .int .u64 (pl x.2.2 0), .int .u64 (pl x.2.2 1), .int .u64 (pl x.2.2 2), .int .u64 (pl x.2.2 3), .int .u64 (pl x.2.2 4), .int .u64 (pl x.2.2 5), .int .u64 (pl x.2.2 6), .int .u64 (pl x.2.2 7)]) 46 ∧ h + 1 + 1 + 1 + 1 < g ∧ uB.ownBlock ≠ some g
@[irreducible] def NewI (h : Nat) (uB : Value) (i : Int) (v : Value) (W : World) : Prop := ∃ g, v = .slice (some ⟨g, 0, none⟩) 1 1 ∧ Blk W g #[.int .i64 i] 3 ∧ h + 1 + 1 + 1 + 1 < g ∧ uB.ownBlock ≠ some g
@[irreducible] def OwnAX (h : Nat) (cs : List Ac) (v : Value) (W : World) : Prop := OwnA W (h + 1 + 1 + 1 + 1 + 1) v cs
theorem OwnIX.stable {h : Nat} {uB : Value} {cs : List Ac} {la : List Int} (v : Value) (W W' : World) (H : OwnIX h uB la v W) (r : RBy h uB cs W W') : OwnIX h uB la v W' := by
  refine ⟨⟨H.1.1, ?_⟩, H.2⟩
  rcases H.1.2 with h1 | ⟨g, cap, cur, e, hb, hg, rest⟩
  · exact .inl h1
  · refine .inr ⟨g, cap, cur, e, hb, ?_, rest⟩
    rw [r.kept g (Array.getElem?_eq_some_iff.1 hg).1 (by omega) (by omega) (by omega) (fun e2 => H.2 g (by rw [e]; rfl) e2.symm)]
    exact hg
theorem VIX.stable {h : Nat} {uB : Value} {cs : List Ac} {la : List Int} (v : Value) (W W' : World) (H : VIX h uB la v W) (r : RBy h uB cs W W') : VIX h uB la v W' := by unfold VIX at *; exact H.stable v W W' r
theorem New8.stable {h : Nat} {uB : Value} {cs : List Ac} {x : Ac} (v : Value) (W W' : World) (H : New8 h uB x v W) (r : RBy h uB cs W W') : New8 h uB x v W' := by
  unfold New8 at *
  obtain ⟨g, e, hb, hg, hu⟩ := H
  exact ⟨g, e, (r.kept g hb.lt (by omega) (by omega) (by omega) (fun e2 => hu e2.symm)).trans hb, hg, hu⟩
theorem NewI.stable {h : Nat} {uB : Value} {cs : List Ac} {i : Int} (v : Value) (W W' : World) (H : NewI h uB i v W) (r : RBy h uB cs W W') : NewI h uB i v W' := by
  unfold NewI at *
  obtain ⟨g, e, hb, hg, hu⟩ := H
  exact ⟨g, e, (r.kept g hb.lt (by omega) (by omega) (by omega) (fun e2 => hu e2.symm)).trans hb, hg, hu⟩
theorem OwnAX.stable {h : Nat} {uB : Value} {cs : List Ac} (v : Value) (W W' : World) (H : OwnAX h cs v W) (r : RBy h uB cs W W') : OwnAX h cs v W' := by unfold OwnAX at *; exact r.own v H
/-- what is known within that region -/
structure InvBy (w : World) (h bp bq : Nat) (uB uA uC : Value) (cs : List Ac) (x : Ac) (la lb la' lb' : List Int) (Bx : Nat) (i : Int) (f9 f18 f19 f20 : Bool) (W : World) : Prop where
  mk ::
  b0 : Blk W h #[.pointer (some ⟨bp, 0, none⟩)] 101
  b1 : Blk W (h + 1) #[.pointer (some ⟨bq, 0, none⟩)] 101
  b2 : ∃ c, Blk W (h + 1 + 1) #[c] 28 ∧ (f18 = false → c = uB) ∧ (f18 = true → OwnAX h (cs ++ [x]) c W)
  b3 : ∃ c, Blk W (h + 1 + 1 + 1) #[c] 104 ∧ (f19 = false → c = uA) ∧ (f19 = true → VIX h uB la' c W)
  b4 : ∃ c, Blk W (h + 1 + 1 + 1 + 1) #[c] 104 ∧ (f20 = false → c = uC) ∧ (f20 = true → VIX h uB lb' c W)
  own : f9 = false → OwnA W (h + 1 + 1 + 1 + 1 + 1) uB cs
  oA : OwnIX h uB la uA W
  oC : OwnIX h uB lb uC W
  bx : Blk W Bx #[.int .i64 i] 3
  hBx : h + 1 + 1 + 1 + 1 < Bx
  uBx : uB.ownBlock ≠ some Bx
  uB5 : ∀ g, uB.ownBlock = some g → h + 1 + 1 + 1 + 1 + 1 ≤ g ∧ g < W.heap.size
  bel : Below h w W
section
variable {w : World} {h bp bq : Nat} {uB uA uC : Value} {cs : List Ac} {x : Ac} {la lb la' lb' : List Int} {Bx : Nat} {i : Int} {f9 f18 f19 f20 : Bool} {W W' : World}
theorem InvBy.grow (H : InvBy w h bp bq uB uA uC cs x la lb la' lb' Bx i f9 f18 f19 f20 W) (hb : Below W.heap.size W W') : InvBy w h bp bq uB uA uC cs x la lb la' lb' Bx i f9 f18 f19 f20 W' :=
  have hh : h ≤ W.heap.size := Nat.le_of_lt H.b0.lt
  have r : RBy h uB (cs ++ [x]) W W' := RBy.grow hh hb
  ⟨H.b0.grow hb, H.b1.grow hb, let ⟨c, h1, h2, h3⟩ := H.b2; ⟨c, h1.grow hb, h2, fun e => (h3 e).stable _ _ _ r⟩, let ⟨c, h1, h2, h3⟩ := H.b3; ⟨c, h1.grow hb, h2, fun e => (h3 e).stable _ _ _ r⟩, let ⟨c, h1, h2, h3⟩ := H.b4; ⟨c, h1.grow hb, h2, fun e => (h3 e).stable _ _ _ r⟩,
   fun e => own_grow (H.own e) hb, H.oA.stable _ _ _ r, H.oC.stable _ _ _ r, H.bx.grow hb, H.hBx, H.uBx, fun g e => ⟨(H.uB5 g e).1, Nat.lt_of_lt_of_le (H.uB5 g e).2 hb.size⟩, H.bel.trans (hb.mono hh)⟩
theorem InvBy.app (H : InvBy w h bp bq uB uA uC cs x la lb la' lb' Bx i false false f19 f20 W) (hg : W.grownBy W' uB.ownBlock) (r : RBy h uB (cs ++ [x]) W W') : InvBy w h bp bq uB uA uC cs x la lb la' lb' Bx i true false f19 f20 W' := by
  have kp : ∀ j, j ≤ h + 1 + 1 + 1 + 1 → j < W.heap.size → W'.heap[j]? = W.heap[j]? := fun j h1 h2 => hg.block j h2 (fun e => by have := (H.uB5 j e.symm).1; omega)
  obtain ⟨c2, p2, q2, _⟩ := H.b2
  obtain ⟨c3, p3, q3, s3⟩ := H.b3
  obtain ⟨c4, p4, q4, s4⟩ := H.b4
  exact ⟨H.b0.kept (kp _ (by omega) H.b0.lt), H.b1.kept (kp _ (by omega) H.b1.lt), ⟨c2, p2.kept (kp _ (by omega) p2.lt), q2, fun e => (by cases e)⟩, ⟨c3, p3.kept (kp _ (by omega) p3.lt), q3, fun e => (s3 e).stable _ _ _ r⟩, ⟨c4, p4.kept (kp _ (by omega) p4.lt), q4, fun e => (s4 e).stable _ _ _ r⟩,
    fun e => (by cases e), H.oA.stable _ _ _ r, H.oC.stable _ _ _ r, H.bx.kept (hg.block _ H.bx.lt (fun e => H.uBx e.symm)), H.hBx, H.uBx, fun g e => ⟨(H.uB5 g e).1, Nat.lt_of_lt_of_le (H.uB5 g e).2 hg.size⟩, H.bel.trans r.bel⟩
theorem InvBy.set18 (H : InvBy w h bp bq uB uA uC cs x la lb la' lb' Bx i true f18 f19 f20 W) {u : Value} (hu : OwnAX h (cs ++ [x]) u W) {c : Value} (hc : Blk W (h + 1 + 1) #[c] 28) : InvBy w h bp bq uB uA uC cs x la lb la' lb' Bx i true true f19 f20 (W.setRow (h + 1 + 1) #[u]) := by
  have r : RBy h uB (cs ++ [x]) W (W.setRow (h + 1 + 1) #[u]) := by
    have := RBy.rows (h := h) (uB := uB) (cs := cs ++ [x]) (W := W) (.inl rfl) hc.row #[c] #[u]
    rwa [hc.rw] at this
  obtain ⟨c3, p3, q3, s3⟩ := H.b3
  obtain ⟨c4, p4, q4, s4⟩ := H.b4
  have hB := H.hBx
  exact ⟨H.b0.rowO _ (by omega), H.b1.rowO _ (by omega), ⟨u, hc.rowS _, fun e => (by cases e), fun _ => hu.stable _ _ _ r⟩, ⟨c3, p3.rowO _ (by omega), q3, fun e => (s3 e).stable _ _ _ r⟩, ⟨c4, p4.rowO _ (by omega), q4, fun e => (s4 e).stable _ _ _ r⟩,
    fun e => (by cases e), H.oA.stable _ _ _ r, H.oC.stable _ _ _ r, H.bx.rowO _ (by omega), H.hBx, H.uBx, fun g e => ⟨(H.uB5 g e).1, by rw [setRow_size]; exact (H.uB5 g e).2⟩, H.bel.trans r.bel⟩
theorem InvBy.set19 (H : InvBy w h bp bq uB uA uC cs x la lb la' lb' Bx i true f18 f19 f20 W) {u : Value} (hu : VIX h uB la' u W) {c : Value} (hc : Blk W (h + 1 + 1 + 1) #[c] 104) : InvBy w h bp bq uB uA uC cs x la lb la' lb' Bx i true f18 true f20 (W.setRow (h + 1 + 1 + 1) #[u]) := by
  have r : RBy h uB (cs ++ [x]) W (W.setRow (h + 1 + 1 + 1) #[u]) := by
    have := RBy.rows (h := h) (uB := uB) (cs := cs ++ [x]) (W := W) (.inr (.inl rfl)) hc.row #[c] #[u]
    rwa [hc.rw] at this
  obtain ⟨c2, p2, q2, s2⟩ := H.b2
  obtain ⟨c4, p4, q4, s4⟩ := H.b4
  have hB := H.hBx
  exact ⟨H.b0.rowO _ (by omega), H.b1.rowO _ (by omega), ⟨c2, p2.rowO _ (by omega), q2, fun e => (s2 e).stable _ _ _ r⟩, ⟨u, hc.rowS _, fun e => (by cases e), fun _ => hu.stable _ _ _ r⟩, ⟨c4, p4.rowO _ (by omega), q4, fun e => (s4 e).stable _ _ _ r⟩,
    fun e => (by cases e), H.oA.stable _ _ _ r, H.oC.stable _ _ _ r, H.bx.rowO _ (by omega), H.hBx, H.uBx, fun g e => ⟨(H.uB5 g e).1, by rw [setRow_size]; exact (H.uB5 g e).2⟩, H.bel.trans r.bel⟩
theorem InvBy.set20 (H : InvBy w h bp bq uB uA uC cs x la lb la' lb' Bx i true f18 f19 f20 W) {u : Value} (hu : VIX h uB lb' u W) {c : Value} (hc : Blk W (h + 1 + 1 + 1 + 1) #[c] 104) : InvBy w h bp bq uB uA uC cs x la lb la' lb' Bx i true f18 f19 true (W.setRow (h + 1 + 1 + 1 + 1) #[u]) := by
  have r : RBy h uB (cs ++ [x]) W (W.setRow (h + 1 + 1 + 1 + 1) #[u]) := by
    have := RBy.rows (h := h) (uB := uB) (cs := cs ++ [x]) (W := W) (.inr (.inr rfl)) hc.row #[c] #[u]
    rwa [hc.rw] at this
  obtain ⟨c2, p2, q2, s2⟩ := H.b2
  obtain ⟨c3, p3, q3, s3⟩ := H.b3
  have hB := H.hBx
  exact ⟨H.b0.rowO _ (by omega), H.b1.rowO _ (by omega), ⟨c2, p2.rowO _ (by omega), q2, fun e => (s2 e).stable _ _ _ r⟩, ⟨c3, p3.rowO _ (by omega), q3, fun e => (s3 e).stable _ _ _ r⟩, ⟨u, hc.rowS _, fun e => (by cases e), fun _ => hu.stable _ _ _ r⟩,
    fun e => (by cases e), H.oA.stable _ _ _ r, H.oC.stable _ _ _ r, H.bx.rowO _ (by omega), H.hBx, H.uBx, fun g e => ⟨(H.uB5 g e).1, by rw [setRow_size]; exact (H.uB5 g e).2⟩, H.bel.trans r.bel⟩
theorem InvBy.fin (H : InvBy w h bp bq uB uA uC cs x la lb la' lb' Bx i true true true true W) : BySt w h bp bq (cs ++ [x]) la' lb' W := by
  obtain ⟨c2, p2, _, s2⟩ := H.b2
  obtain ⟨c3, p3, _, s3⟩ := H.b3
  obtain ⟨c4, p4, _, s4⟩ := H.b4
  have s2 := s2 rfl; have s3 := s3 rfl; have s4 := s4 rfl
  unfold OwnAX at s2; unfold VIX at s3 s4
  exact ⟨H.b0, H.b1, ⟨c2, p2, s2⟩, ⟨c3, p3, s3.1⟩, ⟨c4, p4, s4.1⟩, H.bel⟩
end
/-- the letter appended -/
theorem append_act {h : Nat} {uB v8 : Value} {cs : List Ac} {x : Ac} {W : World} (hown : OwnA W (h + 1 + 1 + 1 + 1 + 1) uB cs) (hn : New8 h uB x v8 W) (hk : cs.length ≤ 60) (hh : h + 1 + 1 + 1 + 1 < W.heap.size) :
    ∃ v' w', (Builtin.append_ #[28, 28] 28 #[uB, v8]).run Tryz.prog W = .ok v' w' ∧ OwnAX h (cs ++ [x]) v' w' ∧ W.grownBy w' uB.ownBlock ∧ RBy h uB (cs ++ [x]) W w' := by
  unfold New8 at hn
  obtain ⟨g, rfl, hb, hg, hu⟩ := hn
  obtain ⟨i0, hi, hz0, hz1, hz2⟩ := info_parts info46
  obtain ⟨v', w', hr, ho, hgr, hkp⟩ := run_append_keep W (h + 1 + 1 + 1 + 1 + 1) 28 28 46 i0 (.agg #[.int .u8 0, .int .i64 0, .int .u64 0, .int .u64 0, .int .u64 0, .int .u64 0, .int .u64 0, .int .u64 0, .int .u64 0, .int .u64 0]) 10 80 Tryz.underlying28 hi hz0 hz1 hz2 rfl (by decide) uB cs.length _ hown ⟨g, 0, none⟩ 1 1 (acL x) rfl (fun j u hu => by
      rw [Addr.add_lit, Nat.zero_add, hb.cell]
      simpa using hu) (fun z hz => by simp at hz; rcases hz with rfl | rfl | rfl | rfl | rfl | rfl | rfl | rfl | rfl | rfl <;> rfl) (by unfold maxLen; omega) (by omega) (by omega)
  have e : ((cs ++ [x]).map acL).flatten = (cs.map acL).flatten ++ acL x := by simp
  refine ⟨v', w', hr, ?_, hgr, ⟨(Below.refl h W).grown hgr (by omega) (fun k hk => by have := (hown.lt k hk).1; omega), fun j hj _ _ _ h4 => hgr.block j hj h4, ?_, (KeepsOthers.of_grownBy hgr ?_).from 0⟩⟩
  · unfold OwnAX OwnA
    rw [List.length_append, e]; exact ho
  · intro u hu
    unfold OwnA at *
    rw [List.length_append, e] at *
    exact hkp u hu
  · intro j o e2 hj
    rcases hown.2 with ⟨h1, _⟩ | ⟨g', cap, cur, h1, _, hg', _⟩
    · rw [h1] at e2; cases e2
    · rw [h1] at e2
      have e3 : g' = j := by simpa [Value.ownBlock] using e2
      subst e3
      rw [hg'] at hj; cases hj; rfl
end Go.Proofs.YtccnkebkgegohaaGreatDoor
end
