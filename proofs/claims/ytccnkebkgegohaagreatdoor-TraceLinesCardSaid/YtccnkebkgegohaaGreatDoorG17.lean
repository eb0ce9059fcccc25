import Derived.Test.YtccnkebkgegohaaGreatDoorG16
/-
  Given contracts of functions of the program, and laws for them, one behind the other.
-/
set_option linter.unusedVariables false
set_option linter.unusedSimpArgs false
set_option linter.unusedSectionVars false
section
namespace Go.Proofs.YtccnkebkgegohaaGreatDoor
open Go.RowKit Go.Rel
set_option maxRecDepth 100000
attribute [local go_sem] Oper.semAt_some
@[irreducible] def VInt (base : Nat) (l : List Int) (v : Value) (W : World) : Prop := OwnI W base v l
theorem VInt.stable {base : Nat} {l : List Int} (v : Value) (W W' : World) (h : VInt base l v W) (g : Grows W W') : VInt base l v W' := by unfold VInt at *; exact own_grow h g
/-- the blocks in which the deferred calls of the rounds would lie, all of them empty -/
def CollAt (h : Nat) (ds : List Deferred) (W : World) : Prop := ∃ Ds : List Nat, ds = Ds.map (fun D => { target := .collected D, args := #[] }) ∧ Ds.Nodup ∧ ∀ D ∈ Ds, h ≤ D ∧ W.heap[D]? = some (.deferred (some []))
theorem CollAt.nil (h : Nat) (W : World) : CollAt h [] W := ⟨[], rfl, List.nodup_nil, by simp⟩
theorem CollAt.keep {h : Nat} {ds : List Deferred} {W W' : World} (H : CollAt h ds W) (k : KeepsFrom 0 W W') : CollAt h ds W' := by
 obtain ⟨Ds, e, hn, hd⟩ := H
 exact ⟨Ds, e, hn, fun D hD => ⟨(hd D hD).1, k.same D _ (Nat.zero_le _) (hd D hD).2 rfl⟩⟩
theorem CollAt.cons {h : Nat} {ds : List Deferred} {W0 W : World} (H : CollAt h ds W0) (k : KeepsFrom 0 W0 W) {D : Nat} (hh : h ≤ W0.heap.size) (hD : W0.heap.size ≤ D) (hK : W.heap[D]? = some (.deferred (some []))) : CollAt h ({ target := .collected D, args := #[] } :: ds) W := by
 obtain ⟨Ds, e, hn, hd⟩ := H
 refine ⟨D :: Ds, by rw [e]; rfl, List.nodup_cons.2 ⟨fun hm => ?_, hn⟩, fun E hE => ?_⟩
 ·have := (Array.getElem?_eq_some_iff.1 (hd D hm).2).1; omega
 ·rcases List.mem_cons.1 hE with rfl | hE
  ·exact ⟨Nat.le_trans hh hD, hK⟩
  ·exact ⟨(hd E hE).1, k.same E _ (Nat.zero_le _) (hd E hE).2 rfl⟩
/-- the end of a function whose loops over functions have left such blocks -/
theorem leaves_coll {P : Program} {F : Fence} {n : Nat} {fn : Func} {tmps : Array Value} {R : Ending → World → Prop} {h : Nat} {Z : World → Prop} (hZ : ∀ W D, Z W → h ≤ D → W.heap[D]? = some (.deferred (some [])) → Z (W.putObj D (.deferred none)))
  (hfin : ∀ W, Z W → ∃ v, (results fn tmps).run P W = .ok v W ∧ R (.returned v) W) : ∀ (Ds : List Nat) (W : World), Ds.Nodup → (∀ D ∈ Ds, h ≤ D ∧ W.heap[D]? = some (.deferred (some []))) → Z W → LeavesInM F n P fn tmps R (Ds.map (fun D => { target := .collected D, args := #[] })) .returning W
 | [], W, _, _, hz => hfin W hz
 | D :: Ds, W, hn, hd, hz => by
  have hK := (hd D (List.mem_cons_self ..)).2
  have hn' := List.nodup_cons.1 hn
  refine ⟨by simp, .inl ⟨D, _, rfl, run_takeDeferred hK, ?_⟩⟩
  refine leaves_coll hZ hfin Ds _ hn'.2 (fun E hE => ⟨(hd E (List.mem_cons_of_mem _ hE)).1, ?_⟩) (hZ W D hz (hd D (List.mem_cons_self ..)).1 hK)
  rw [World.putObj_heap_other (fun e => hn'.1 (by rw [← e]; exact hE))]
  exact (hd E (List.mem_cons_of_mem _ hE)).2
theorem BySt.put {w : World} {h bp bq : Nat} {cs : List Ac} {la lb : List Int} {W : World} {D : Nat} (H : BySt w h bp bq cs la lb W) (hD : h ≤ D) (hK : W.heap[D]? = some (.deferred (some []))) : BySt w h bp bq cs la lb (W.putObj D (.deferred none)) :=
 H.kept (grownBy_putObj' W D _) (fun r e => by cases e; exact ⟨hD, _, hK, rfl⟩)
theorem own_types {W : World} {b1 b2 : Nat} {e1 e2 : TypeId} {s1 s2 : Nat} {u v : Value} {n m : Nat} {xs ys : List Value} (H1 : W.ownsRow b1 e1 s1 u n xs) (H2 : W.ownsRow b2 e2 s2 v m ys) (hne : e1 ≠ e2) : ∀ g, v.ownBlock = some g → u.ownBlock ≠ some g := by
 intro g hv hu
 rcases H1.2 with ⟨h, _⟩ | ⟨g1, _, c1, h, _, hg1, _⟩
 ·rw [h] at hu; cases hu
 ·rcases H2.2 with ⟨h', _⟩ | ⟨g2, _, c2, h', _, hg2, _⟩
  ·rw [h'] at hv; cases hv
  ·rw [h] at hu; rw [h'] at hv
   have a1 : g1 = g := by simpa [Value.ownBlock] using hu
   have a2 : g2 = g := by simpa [Value.ownBlock] using hv
   subst a1; subst a2
   rw [hg1] at hg2; cases hg2; exact hne rfl
theorem own_blk {W : World} {b : Nat} {e t : TypeId} {sz : Nat} {u : Value} {n : Nat} {xs : List Value} {g : Nat} {c : Array Value} (H1 : W.ownsRow b e sz u n xs) (H2 : Blk W g c t) (hne : e ≠ t) : u.ownBlock ≠ some g := by
 intro hu
 rcases H1.2 with ⟨h, _⟩ | ⟨g1, _, c1, h, _, hg1, _⟩
 ·rw [h] at hu; cases hu
 ·rw [h] at hu
  have a1 : g1 = g := by simpa [Value.ownBlock] using hu
  subst a1
  unfold Blk at H2
  rw [hg1] at H2; cases H2; exact hne rfl
theorem NewI.sl {h : Nat} {uB v : Value} {i : Int} {W : World} (H : NewI h uB i v W) : SlI W v [i] := by
 unfold NewI at H
 obtain ⟨g, rfl, hb, _⟩ := H
 refine ⟨_, 1, rfl, Nat.le_refl _, by omega, .inr ⟨g, 0, rfl, hb.lt, fun k j u hu => ?_⟩⟩
 rw [hb.cell]
 rcases k with _ | k
 ·rcases j with _ | j
  ·simpa using hu
  ·simp at hu
 ·simp at hu
theorem fresh8 {w : World} {h bp bq : Nat} {uB uA uC : Value} {cs : List Ac} {x : Ac} {la lb la' lb' : List Int} {Bx : Nat} {i : Int} {f9 f18 f19 f20 : Bool} {W : World} (H : InvBy w h bp bq uB uA uC cs x la lb la' lb' Bx i f9 f18 f19 f20 W) (z : Ac) : RBy h uB (cs ++ [x]) W (W.alloc (.cells #[.int .u8 z.1, .int .i64 z.2.1, .int .u64 (pl z.2.2 0), .int .u64 (pl z.2.2 1), .int .u64 (pl z.2.2 2), .int .u64 (pl z.2.2 3), .int .u64 (pl z.2.2 4), .int .u64 (pl z.2.2 5), .int .u64 (pl z.2.2 6), .int .u64 (pl z.2.2 7)] 46)) ∧ InvBy w h bp bq uB uA uC cs x la lb la' lb' Bx i f9 f18 f19 f20 (W.alloc (.cells #[.int .u8 z.1, .int .i64 z.2.1, .int .u64 (pl z.2.2 0), .int .u64 (pl z.2.2 1), .int .u64 (pl z.2.2 2), .int .u64 (pl z.2.2 3), .int .u64 (pl z.2.2 4), .int .u64 (pl z.2.2 5), .int .u64 (pl z.2.2 6), .int .u64 (pl z.2.2 7)] 46)) ∧ New8 h uB z (.slice (some ⟨W.heap.size, 0, none⟩) 1 1) (W.alloc (.cells #[.int .u8 z.1, .int .i64 z.2.1, .int .u64 (pl z.2.2 0), .int .u64 (pl z.2.2 1), .int .u64 (pl z.2.2 2), .int .u64 (pl z.2.2 3), .int .u64 (pl z.2.2 4), .int .u64 (pl z.2.2 5), .int .u64 (pl z.2.2 6), .int .u64 (pl z.2.2 7)] 46)) := by
 have hb := bel_alloc (bel_refl W) (.cells #[.int .u8 z.1, .int .i64 z.2.1, .int .u64 (pl z.2.2 0), .int .u64 (pl z.2.2 1), .int .u64 (pl z.2.2 2), .int .u64 (pl z.2.2 3), .int .u64 (pl z.2.2 4), .int .u64 (pl z.2.2 5), .int .u64 (pl z.2.2 6), .int .u64 (pl z.2.2 7)] 46)
 refine ⟨RBy.grow (Nat.le_of_lt H.b0.lt) hb, H.grow hb, ?_⟩
 unfold New8
 exact ⟨_, rfl, Blk.new _ _ _, (let ⟨_, p, _⟩ := H.b4; p.lt), fun e => (by have := (H.uB5 _ e).2; omega)⟩
theorem freshI {w : World} {h bp bq : Nat} {uB uA uC : Value} {cs : List Ac} {x : Ac} {la lb la' lb' : List Int} {Bx : Nat} {i : Int} {f9 f18 f19 f20 : Bool} {W : World} (H : InvBy w h bp bq uB uA uC cs x la lb la' lb' Bx i f9 f18 f19 f20 W) (z : Int) : RBy h uB (cs ++ [x]) W (W.alloc (.cells #[.int .i64 z] 3)) ∧ InvBy w h bp bq uB uA uC cs x la lb la' lb' Bx i f9 f18 f19 f20 (W.alloc (.cells #[.int .i64 z] 3)) ∧ NewI h uB z (.slice (some ⟨W.heap.size, 0, none⟩) 1 1) (W.alloc (.cells #[.int .i64 z] 3)) := by
 have hb := bel_alloc (bel_refl W) (.cells #[.int .i64 z] 3)
 refine ⟨RBy.grow (Nat.le_of_lt H.b0.lt) hb, H.grow hb, ?_⟩
 unfold NewI
 exact ⟨_, rfl, Blk.new _ _ _, (let ⟨_, p, _⟩ := H.b4; p.lt), fun e => (by have := (H.uB5 _ e).2; omega)⟩
/-- what holds ahead of each round of beyond -/
def ByI (w : World) (l : List Sol) (acts : List Ac) (l2 : List Sol) (acts2 : List Ac) (bp bq : Nat) (res : List Ac × List Int × List Int) (a : Act) (W : World) : Prop := ∃ u7 u8 u9 u10 u11 u12 u13 u14 u15 u16 u17 u18 u19 u20 u21 u22 u23 u24 u25 u26 u27 u28 u29 u30 u31 u32 u33 u34 u35 u36 u37 u38 u39 u40 u41 u42 u43 u44 u45 u46 u47 u48 u49 u50 u51 u52 u53 u54 u55 u56 ds cs la lb, a = { tmps := #[.pointer (some ⟨bp, 0, none⟩), .pointer (some ⟨bq, 0, none⟩), .pointer (some ⟨w.heap.size, 0, none⟩), .pointer (some ⟨w.heap.size + 1, 0, none⟩), .pointer (some ⟨w.heap.size + 1 + 1, 0, none⟩), .pointer (some ⟨w.heap.size + 1 + 1 + 1, 0, none⟩), .pointer (some ⟨w.heap.size + 1 + 1 + 1 + 1, 0, none⟩), u7, u8, u9, u10, u11, u12, u13, u14, u15, u16, u17, u18, u19, u20, u21, u22, u23, u24, u25, u26, u27, u28, u29, u30, u31, u32, u33, u34, u35, u36, u37, u38, u39, u40, u41, u42, u43, u44, u45, u46, u47, u48, u49, u50, u51, u52, u53, u54, u55, u56], defers := ds } ∧ BySt w w.heap.size bp bq cs la lb W ∧ CollAt w.heap.size ds W ∧ (∀ x ∈ la, 0 ≤ x ∧ x < (acts.length : Int)) ∧ (∀ x ∈ lb, 0 ≤ x ∧ x < (acts2.length : Int)) ∧ la.length ≤ 60 ∧ lb.length ≤ 60 ∧ cs.length + la.length ≤ 60 ∧ beyondI (fun i j => acts.getD i.toNat (0, 0, 0) == acts2.getD j.toNat (0, 0, 0)) (depI (cellsOf l acts)) (depI (cellsOf l2 acts2)) (fun i => acts.getD i.toNat (0, 0, 0)) la.length cs la lb = res
/-- a letter that both can begin with is found, and taken from both -/
def ByFound (w : World) (h bp bq : Nat) (cs : List Ac) (la lb : List Int) (p : Int → Int → Bool) (act : Int → Ac) (fb : List Int) (pre : List Int) (W : World) : Prop := ∃ pre' x y qre r2, pre = pre' ++ [x] ∧ (∀ i ∈ pre', ∀ j ∈ fb, p i j = false) ∧ fb = qre ++ y :: r2 ∧ (∀ j ∈ qre, p x j = false) ∧ p x y = true ∧ BySt w h bp bq (cs ++ [act x]) (drop1 la x) (drop1 lb y) W
theorem byFound_own {β : Type} {w : World} {h bp bq : Nat} {cs : List Ac} {la lb : List Int} {p : Int → Int → Bool} {act : Int → Ac} {fb : List Int} {B : Nat} (hB : h ≤ B) (f : β → List Int) : OwnFrom B (fun (s : β) W => ByFound w h bp bq cs la lb p act fb (f s) W) := fun _ _ _ _ hs hg hr => by
 obtain ⟨pre', x, y, qre, r2, h1, h2, h3, h4, h5, h6⟩ := hs
 exact ⟨pre', x, y, qre, r2, h1, h2, h3, h4, h5, h6.kept hg (fun r e => ⟨Nat.le_trans hB (hr r e).1, (hr r e).2⟩)⟩
def ByFound2 (w : World) (h bp bq : Nat) (cs : List Ac) (la lb : List Int) (p : Int → Int → Bool) (act : Int → Ac) (x : Int) (pre : List Int) (W : World) : Prop := ∃ qre y, pre = qre ++ [y] ∧ (∀ j ∈ qre, p x j = false) ∧ p x y = true ∧ BySt w h bp bq (cs ++ [act x]) (drop1 la x) (drop1 lb y) W
theorem byFound2_own {β : Type} {w : World} {h bp bq : Nat} {cs : List Ac} {la lb : List Int} {p : Int → Int → Bool} {act : Int → Ac} {x : Int} {B : Nat} (hB : h ≤ B) (f : β → List Int) : OwnFrom B (fun (s : β) W => ByFound2 w h bp bq cs la lb p act x (f s) W) := fun _ _ _ _ hs hg hr => by
 obtain ⟨qre, y, h1, h2, h3, h4⟩ := hs
 exact ⟨qre, y, h1, h2, h3, h4.kept hg (fun r e => ⟨Nat.le_trans hB (hr r e).1, (hr r e).2⟩)⟩
theorem blk_own {β : Type} {g : Nat} {c : Array Value} {t : TypeId} (B : Nat) : OwnFrom B (fun (_ : β) W => Blk W g c t) := fun _ _ _ _ hs hg hr => hs.row' hg (fun r e => (hr r e).2)
set_option maxHeartbeats 16000000 in
theorem beyond_spec {bp : Nat} {blank : Sol} {v av : Value} {l : List Sol} {acts : List Ac} {s : Stn} {bq : Nat} {blank2 : Sol} {v2 av2 : Value} {l2 : List Sol} {acts2 : List Ac} {s2 : Stn} (w : World) (HP : PastAt bp blank v av l acts s w) (HQ : PastAt bq blank2 v2 av2 l2 acts2 s2 w) (Ha : SlA w av acts) (Ha2 : SlA w av2 acts2) (hn : acts.length ≤ 60) (hn2 : acts2.length ≤ 60) :
  Calls Tryz.prog 97 #[.pointer (some ⟨bp, 0, none⟩), .pointer (some ⟨bq, 0, none⟩)] w fun e w' => ∃ u a b, e = .returned (.tuple #[u, a, b]) ∧ OwnA w' w.heap.size u (beyondI (fun i j => acts.getD i.toNat (0, 0, 0) == acts2.getD j.toNat (0, 0, 0)) (depI (cellsOf l acts)) (depI (cellsOf l2 acts2)) (fun i => acts.getD i.toNat (0, 0, 0)) (upto acts.length).length [] (upto acts.length) (upto acts2.length)).1 ∧ OwnI w' w.heap.size a (beyondI (fun i j => acts.getD i.toNat (0, 0, 0) == acts2.getD j.toNat (0, 0, 0)) (depI (cellsOf l acts)) (depI (cellsOf l2 acts2)) (fun i => acts.getD i.toNat (0, 0, 0)) (upto acts.length).length [] (upto acts.length) (upto acts2.length)).2.1 ∧ OwnI w' w.heap.size b (beyondI (fun i j => acts.getD i.toNat (0, 0, 0) == acts2.getD j.toNat (0, 0, 0)) (depI (cellsOf l acts)) (depI (cellsOf l2 acts2)) (fun i => acts.getD i.toNat (0, 0, 0)) (upto acts.length).length [] (upto acts.length) (upto acts2.length)).2.2 ∧ Below w.heap.size w w' := by
 generalize hres : beyondI (fun i j => acts.getD i.toNat (0, 0, 0) == acts2.getD j.toNat (0, 0, 0)) (depI (cellsOf l acts)) (depI (cellsOf l2 acts2)) (fun i => acts.getD i.toNat (0, 0, 0)) (upto acts.length).length [] (upto acts.length) (upto acts2.length) = res
 have HRES := Lib.hid hres; clear hres
 have HH := Lib.hid (And.intro HP (And.intro HQ (And.intro Ha Ha2))); clear HP HQ Ha Ha2
 refine (callsIn_wide (n := 9)).1 ?_
 refine callsIn_of_wp_marks Tryz.func97 rfl trivial ?_ rfl
 simp only [Tryz.ntmps97, List.size_toArray, List.length_cons, List.length_nil, Nat.reduceAdd, Nat.reduceSub, Array.replicate_succ, Array.replicate_zero, List.push_toArray, List.append_toArray, List.nil_append, List.cons_append]
 refine wpIn_wide.2 ?_
 go_wp2_with fail
 go_step3
 go_wp2_with fail
 obtain ⟨w0, hw0⟩ : ∃ w0 : World, w0 = ((((w.alloc (.cells #[.pointer (some ⟨bp, 0, none⟩)] 101)).alloc (.cells #[.pointer (some ⟨bq, 0, none⟩)] 101)).alloc (.cells #[.slice none 0 0] 28)).alloc (.cells #[.slice none 0 0] 104)).alloc (.cells #[.slice none 0 0] 104) := ⟨_, rfl⟩
 have b0 : Blk w0 w.heap.size #[.pointer (some ⟨bp, 0, none⟩)] 101 := by subst hw0; exact blk_by
 have b1 : Blk w0 (w.heap.size + 1) #[.pointer (some ⟨bq, 0, none⟩)] 101 := by subst hw0; exact blk_by
 have b2 : Blk w0 (w.heap.size + 1 + 1) #[.slice none 0 0] 28 := by subst hw0; exact blk_by
 have b3 : Blk w0 (w.heap.size + 1 + 1 + 1) #[.slice none 0 0] 104 := by subst hw0; exact blk_by
 have b4 : Blk w0 (w.heap.size + 1 + 1 + 1 + 1) #[.slice none 0 0] 104 := by subst hw0; exact blk_by
 have hbel : Below w.heap.size w w0 := by subst hw0; exact bel_by
 rw [← hw0]
 clear hw0
 have c0 := b0.cell
 have c1 := b1.cell
 have l0 := b0.lt
 have l1 := b1.lt
 have l4 := b4.lt
 have HB := Lib.hid (And.intro b0 (And.intro b1 (And.intro b2 (And.intro b3 (And.intro b4 hbel))))); clear b0 b1 b2 b3 b4 hbel
 refine wp_region_grow 4 [Is (.pointer (some ⟨bp, 0, none⟩)), VInt (w.heap.size + 1 + 1 + 1 + 1 + 1) (upto acts.length), Is (.pointer (some ⟨bq, 0, none⟩)), VInt (w.heap.size + 1 + 1 + 1 + 1 + 1) (upto acts2.length)] (by kernel_rfl) (by kernel_rfl) rfl ⟨fun _ _ _ h _ => h, VInt.stable, fun _ _ _ h _ => h, VInt.stable, trivial⟩ ?_
 simp only [List.take_succ_cons, List.take_zero, List.drop_succ_cons, List.drop_zero]
 refine rel_cons ?_ (fun v0 => ?_)
 ·intro w1 hb hF; have hc := (Grows.cells hb).1; have hf := (Grows.cells hb).2; try simp [facts, Is] at hF
  go_simp
  exact Grows.refl _
 refine rel_cons ?_ (fun v1 => ?_)
 ·intro w1 hb hF; have hc := (Grows.cells hb).1; have hf := (Grows.cells hb).2; try simp [facts, Is] at hF
  go_simp
  refine (indices_spec w1 (HH.out.1.grow (bel_trans HB.out.2.2.2.2.2 hb)) hn).mono ?_
  rintro e w4 ⟨u, rfl, hO, hb4⟩
  exact ⟨_, rfl, hb4, by unfold VInt; exact own_weak hO (by have := Below.size hb; omega)⟩
 refine rel_cons ?_ (fun v2 => ?_)
 ·intro w1 hb hF; have hc := (Grows.cells hb).1; have hf := (Grows.cells hb).2; try simp [facts, Is] at hF
  go_simp
  exact Grows.refl _
 refine rel_cons ?_ (fun v3 => ?_)
 ·intro w1 hb hF; have hc := (Grows.cells hb).1; have hf := (Grows.cells hb).2; try simp [facts, Is] at hF
  go_simp
  refine (indices_spec w1 (HH.out.2.1.grow (bel_trans HB.out.2.2.2.2.2 hb)) hn2).mono ?_
  rintro e w4 ⟨u, rfl, hO, hb4⟩
  exact ⟨_, rfl, hb4, by unfold VInt; exact own_weak hO (by have := Below.size hb; omega)⟩
 refine rel_nil ?_
 intro w1 hb hF
 simp [Is, Nat.forall_lt_succ_right] at hF
 have e0 := hF.1.1.1
 have e1 := hF.1.1.2
 have e2 := hF.1.2
 have e3 := hF.2
 clear hF
 simp only [Act.put, List.setIfInBounds_toArray, List.set_cons_succ, List.set_cons_zero, e0, e2]
 clear e0 e2
 clear c0 c1 l0 l1
 unfold VInt at e1 e3
 refine Veil.out ?_
 obtain ⟨p1, c1, rfl, _, _⟩ := own_shape' e1
 obtain ⟨p3, c3, rfl, _, _⟩ := own_shape' e3
 refine Veil.on ?_
 have hbw : Below w.heap.size w w1 := bel_trans HB.out.2.2.2.2.2 hb
 have b0 := HB.out.1.grow hb
 have b1 := HB.out.2.1.grow hb
 have b2 := HB.out.2.2.1.grow hb
 have b3 := HB.out.2.2.2.1.grow hb
 have b4 := HB.out.2.2.2.2.1.grow hb
 have r3 := b3.row
 have r4 := b4.row
 have HW : Hid (BySt w w.heap.size bp bq [] (upto acts.length) (upto acts2.length) ((w1.setRow (w.heap.size + 1 + 1 + 1 + 1) #[.slice p3 (upto acts2.length).length c3]).setRow (w.heap.size + 1 + 1 + 1) #[.slice p1 (upto acts.length).length c1])) :=
  Lib.hid ⟨(b0.rowO _ (by omega)).rowO _ (by omega), (b1.rowO _ (by omega)).rowO _ (by omega), ⟨_, (b2.rowO _ (by omega)).rowO _ (by omega), World.ownsRow_nil _ _ _ _⟩, ⟨_, (b3.rowO _ (by omega)).rowS _, own_row (own_row e1 (by omega) _) (by omega) _⟩, ⟨_, (b4.rowS _).rowO _ (by omega), own_row (own_row e3 (by omega) _) (by omega) _⟩, blw_row (blw_row hbw (by omega) _) (by omega) _⟩
 rw [← b3.rw, ← b4.rw]
 clear b0 b1 b2 b3 b4 e1 e3 hb hbw HB l4
 go_wp2_with fail
 clear r3 r4
 go_step3
 go_wp2_with fail
 refine (wpIn_wide (n := 9)).1 ?_
 refine wpIn_loop (ByI w l acts l2 acts2 bp bq res) (fun _ W => sliceLen ((W.cell? ⟨w.heap.size + 1 + 1 + 1, 0, none⟩).getD undef)) ?start ?round
 case start => unfold ByI; exact ⟨_, _, _, _, _, _, _, _, _, _, _, _, _, _, _, _, _, _, _, _, _, _, _, _, _, _, _, _, _, _, _, _, _, _, _, _, _, _, _, _, _, _, _, _, _, _, _, _, _, _, [], [], _, _, rfl, HW.out, CollAt.nil _ _, upto_range, upto_range, by rw [upto_length]; exact hn, by rw [upto_length]; exact hn2, by rw [upto_length]; simpa using hn, HRES.out⟩
 case round =>
  rintro a W hI
  unfold ByI at hI
  obtain ⟨u7, u8, u9, u10, u11, u12, u13, u14, u15, u16, u17, u18, u19, u20, u21, u22, u23, u24, u25, u26, u27, u28, u29, u30, u31, u32, u33, u34, u35, u36, u37, u38, u39, u40, u41, u42, u43, u44, u45, u46, u47, u48, u49, u50, u51, u52, u53, u54, u55, u56, ds, cs, la, lb, rfl, hst, hcoll, hla, hlb, ha60, hb60, hc60, hrun⟩ := hI
  clear HW HRES
  obtain ⟨uA, bA, oA⟩ := hst.b3
  have cA := bA.cell
  have lA := bA.lt
  have c0 := hst.b0.cell
  have l0 := hst.b0.lt
  have HF := Lib.hid (free_spec W (HH.out.1.grow hst.bel) uA la oA.sl hla)
  have HST := Lib.hid (And.intro hst (And.intro hcoll (And.intro hla (And.intro hlb (And.intro hrun oA)))))
  have HML : Hid (sliceLen ((W.cell? ⟨w.heap.size + 1 + 1 + 1, 0, none⟩).getD undef) = la.length) := Lib.hid (by rw [cA]; exact oA.len)
  clear hst hcoll hla hlb hrun oA bA
  gi_wp2_with fail
  refine ⟨trivial, (callsIn_wide.2 HF.out).mono ?_⟩
  rintro e W0 ⟨bl, bt, rfl, hFA, hb0⟩
  have hs0 := HST.out.1.grow hb0
  have HC0 := Lib.hid (HST.out.2.1.keep (keeps_of_below hb0))
  have hlt0 := (let ⟨_, p, _⟩ := hs0.b4; p.lt : w.heap.size + 1 + 1 + 1 + 1 < W0.heap.size)
  have HFA := Lib.hid hFA
  have HS0 := Lib.hid hs0
  clear c0 l0 cA lA hFA hs0 hb0 HF
  gi_wp2_with fail
  refine wpIn_rangeFunc_ownH rfl (by omega) (gf := 157) (lb := #[.pointer (some ⟨bl, 0, none⟩), .pointer (some ⟨bt, 0, none⟩)]) rfl trivial (enters_of Tryz.func157 (by kernel_rfl) rfl)
   (HFA.out.stops _ (by omega)) belowK_t (belowK_b (Nat.le_refl _)) (Below.refl _ _) (fun _ => rfl)
   (fun pre W => ((∀ i ∈ pre.map (·.1), ∀ j ∈ (freeUpto (depI (cellsOf l2 acts2)) lb lb.length), (acts.getD i.toNat (0, 0, 0) == acts2.getD j.toNat (0, 0, 0)) = false) ∧ BySt w w.heap.size bp bq cs la lb W) ∧ KeepsFrom 0 W0 W)
   (fun c pre W => (c = .exit 1 ∧ ByFound w w.heap.size bp bq cs la lb (fun i j => acts.getD i.toNat (0, 0, 0) == acts2.getD j.toNat (0, 0, 0)) (fun i => acts.getD i.toNat (0, 0, 0)) (freeUpto (depI (cellsOf l2 acts2)) lb lb.length) (pre.map (·.1)) W) ∧ KeepsFrom 0 W0 W)
   (OwnFrom.and (OwnFrom.and (ownFrom_pure _ _) (bySt_own (by omega) (fun _ => cs) (fun _ => la) (fun _ => lb))) (ownFrom_keepsFrom (Nat.le_refl _)))
   (fun c => OwnFrom.and (OwnFrom.and (ownFrom_pure _ _) (byFound_own (by omega) _)) (ownFrom_keepsFrom (Nat.le_refl _)))
   ⟨⟨by simp, HS0.out⟩, KeepsFrom.refl _ _⟩
   (fun x a' W => ∃ Bx, w.heap.size + 1 + 1 + 1 + 1 < Bx ∧ Blk W Bx #[.int .i64 x.1] 3 ∧ a' = { tmps := #[.pointer (some ⟨bp, 0, none⟩), .pointer (some ⟨bq, 0, none⟩), .pointer (some ⟨w.heap.size, 0, none⟩), .pointer (some ⟨w.heap.size + 1, 0, none⟩), .pointer (some ⟨w.heap.size + 1 + 1, 0, none⟩), .pointer (some ⟨w.heap.size + 1 + 1 + 1, 0, none⟩), .pointer (some ⟨w.heap.size + 1 + 1 + 1 + 1, 0, none⟩), .pointer (some ⟨Bx, 0, none⟩), u8, u9, u10, u11, u12, .pointer (some ⟨bp, 0, none⟩), uA, .func (.func 157) #[] #[.pointer (some ⟨bl, 0, none⟩), .pointer (some ⟨bt, 0, none⟩)], .int .i64 x.1, u17, u18, u19, u20, u21, u22, u23, u24, u25, u26, u27, u28, u29, u30, u31, u32, u33, u34, u35, u36, u37, u38, u39, u40, u41, u42, u43, u44, u45, u46, u47, u48, u49, u50, u51, u52, u53, u54, u55, u56], defers := [] })
   (fun x a' _ X Y row hs hg hr => by obtain ⟨Bx, e1, e2, e3⟩ := hs; exact ⟨Bx, e1, e2.row' hg (fun r e => (hr r e).2), e3⟩)
   ?assign ?body ?done ?stop
  case assign =>
   rintro lp pre x W K ⟨⟨hp, hst⟩, hkf⟩ hK
   have HI := Lib.hid (And.intro hp (And.intro hst hkf)); clear hp hst hkf
   gi_wp2_with fail
   have hba : Below W.heap.size W (W.alloc (.cells #[.int .i64 x.1] 3)) := bel_alloc (bel_refl W) _
   exact hK _ _ (keeps_of_below hba) (hba.mono HI.out.2.2.size) ⟨⟨HI.out.1, HI.out.2.1.grow hba⟩, HI.out.2.2.trans (keeps_of_below hba)⟩ ⟨W.heap.size, (let ⟨_, p, _⟩ := HI.out.2.1.b4; p.lt), Blk.new _ _ _, rfl⟩
  case body =>
   rintro lp pre x a' W hl ⟨r, hr⟩ ⟨⟨hp, hst⟩, hkf⟩ ⟨Bx, hBx, hbx, rfl⟩ hlt
   obtain ⟨uC, bC, oC⟩ := hst.b4
   have cC := bC.cell
   have lC := bC.lt
   have c1 := hst.b1.cell
   have l1 := hst.b1.lt
   have HF2 := Lib.hid (free_spec W (HH.out.2.1.grow hst.bel) uC lb oC.sl HST.out.2.2.2.1)
   have HI := Lib.hid (And.intro hp (And.intro hst (And.intro hkf (And.intro hbx hr)))); clear hp hst hkf hbx hr oC bC
   gi_wp2_with fail
   refine ⟨trivial, (CallsIn.inRound lp (callsIn_wide.2 HF2.out)).mono ?_⟩
   rintro e W2 ⟨bl2, bt2, rfl, hFA2, hb2⟩
   have HFA2 := Lib.hid hFA2
   have HI2 := Lib.hid (And.intro (HI.out.2.1.grow hb2) (And.intro (HI.out.2.2.2.1.grow hb2) (And.intro hb2 ((hb2.block lp (Array.getElem?_eq_some_iff.1 HI.out.2.2.2.2).1).trans HI.out.2.2.2.2))))
   have hsz2 := hb2.size
   have hszW := HI.out.2.2.1.size
   clear hFA2 hb2 HF2 c1 l1 cC lC
   gi_wp2_with fail
   refine wpIn_rangeFunc_ownN (l₀ := lp) (r₀ := r) rfl HI2.out.2.2.2 (by omega) (gf := 157) (lb := #[.pointer (some ⟨bl2, 0, none⟩), .pointer (some ⟨bt2, 0, none⟩)]) rfl trivial (enters_of Tryz.func157 (by kernel_rfl) rfl)
    ((HFA2.out.stops _ (by omega)).inRound lp) belowK_t (belowK_b (Nat.le_refl _)) (Below.refl _ _) (fun _ => rfl)
    (fun pre2 W' => (((∀ j ∈ pre2.map (·.1), (acts.getD x.1.toNat (0, 0, 0) == acts2.getD j.toNat (0, 0, 0)) = false) ∧ BySt w w.heap.size bp bq cs la lb W') ∧ Blk W' Bx #[.int .i64 x.1] 3) ∧ (Below W0.heap.size W W' ∧ KeepsFrom 0 W W'))
    (fun c pre2 W' => (c = .exit 1 ∧ ByFound2 w w.heap.size bp bq cs la lb (fun i j => acts.getD i.toNat (0, 0, 0) == acts2.getD j.toNat (0, 0, 0)) (fun i => acts.getD i.toNat (0, 0, 0)) x.1 (pre2.map (·.1)) W') ∧ KeepsFrom 0 W W')
    (OwnFrom.and (OwnFrom.and (OwnFrom.and (ownFrom_pure _ _) (bySt_own (by omega) (fun _ => cs) (fun _ => la) (fun _ => lb))) (blk_own _)) (OwnFrom.and (ownFrom_below (by omega) (by omega)) (ownFrom_keepsFrom (by omega))))
    (fun c => OwnFrom.and (OwnFrom.and (ownFrom_pure _ _) (byFound2_own (by omega) _)) (ownFrom_keepsFrom (by omega)))
    ⟨⟨⟨by simp, HI2.out.1⟩, HI2.out.2.1⟩, HI2.out.2.2.1.mono (by omega), keeps_of_below HI2.out.2.2.1⟩
    (fun y a'' _ => a'' = { tmps := #[.pointer (some ⟨bp, 0, none⟩), .pointer (some ⟨bq, 0, none⟩), .pointer (some ⟨w.heap.size, 0, none⟩), .pointer (some ⟨w.heap.size + 1, 0, none⟩), .pointer (some ⟨w.heap.size + 1 + 1, 0, none⟩), .pointer (some ⟨w.heap.size + 1 + 1 + 1, 0, none⟩), .pointer (some ⟨w.heap.size + 1 + 1 + 1 + 1, 0, none⟩), .pointer (some ⟨Bx, 0, none⟩), .int .i64 y.1, u9, u10, u11, u12, .pointer (some ⟨bp, 0, none⟩), uA, .func (.func 157) #[] #[.pointer (some ⟨bl, 0, none⟩), .pointer (some ⟨bt, 0, none⟩)], .int .i64 x.1, .pointer (some ⟨bq, 0, none⟩), uC, .func (.func 157) #[] #[.pointer (some ⟨bl2, 0, none⟩), .pointer (some ⟨bt2, 0, none⟩)], .int .i64 y.1, u21, u22, u23, u24, u25, u26, u27, u28, u29, u30, u31, u32, u33, u34, u35, u36, u37, u38, u39, u40, u41, u42, u43, u44, u45, u46, u47, u48, u49, u50, u51, u52, u53, u54, u55, u56], defers := [] })
    (fun _ _ _ _ _ _ hs _ _ => hs)
    ?assign2 ?body2 ?done2 ?stop2
   case assign2 =>
    rintro lp2 pre2 y W' K hi hK
    have HI3 := Lib.hid hi; clear hi
    gi_wp2_with fail
    exact hK _ _ (KeepsFrom.refl _ _) (Below.refl _ _) HI3.out rfl
   case body2 =>
    rintro lp2 pre2 y a'' W' hl2 ⟨rr2, hrr2⟩ ⟨⟨⟨hq, hst⟩, hbx⟩, hBW, hKF⟩ rfl _
    have hsz2' : W2.heap.size ≤ W'.heap.size := by have := (Array.getElem?_eq_some_iff.1 hrr2).1; omega
    clear hrr2
    have hxr := x.2
    have hyr := y.2
    obtain ⟨uB, bB, oB⟩ := hst.b2
    obtain ⟨uA', bA, oA⟩ := hst.b3
    obtain ⟨uC', bC, oC⟩ := hst.b4
    have c0 := hst.b0.cell
    have l0 := hst.b0.lt
    have c1 := hst.b1.cell
    have l1 := hst.b1.lt
    have cx := hbx.cell
    have lx := hbx.lt
    have hPS := HH.out.1.grow hst.bel
    have hPT := HH.out.2.1.grow hst.bel
    obtain ⟨dv, hps, _⟩ := hPS.past
    obtain ⟨dv2, hpt, _⟩ := hPT.past
    have cp := hps.cell
    have lp := hps.lt
    have cq := hpt.cell
    have lq := hpt.lt
    obtain ⟨ap, ac, hav, _, hac⟩ := HH.out.2.2.1.opn
    obtain ⟨ap2, ac2, hav2, _, hac2⟩ := HH.out.2.2.2.opn
    obtain ⟨p, hxp⟩ : ∃ p : Nat, x.1 = (p : Int) := ⟨x.1.toNat, by omega⟩
    obtain ⟨q, hyq⟩ : ∃ q : Nat, y.1 = (q : Int) := ⟨y.1.toNat, by omega⟩
    have hpl : p < acts.length := by omega
    have hql : q < acts2.length := by omega
    obtain ⟨ab, aoff, hap, lab, hcs⟩ := hac p _ (by simp [hpl] : acts[p]? = some acts[p]) W' hst.bel
    obtain ⟨ab2, aoff2, hap2, lab2, hcs2⟩ := hac2 q _ (by simp [hql] : acts2[q]? = some acts2[q]) W' hst.bel
    have hgx : acts.getD p (0, 0, 0) = acts[p] := by simp [hpl]
    have hgy : acts2.getD q (0, 0, 0) = acts2[q] := by simp [hql]
    have lab' : ab < W'.heap.size := Nat.lt_of_lt_of_le lab hst.bel.size
    have lab2' : ab2 < W'.heap.size := Nat.lt_of_lt_of_le lab2 hst.bel.size
    generalize hax : acts[p] = ax at hcs hgx
    generalize hay : acts2[q] = ay at hcs2 hgy
    clear hax hay
    have HE := Lib.hid (And.intro hst (And.intro hbx (And.intro hBW (And.intro hKF (And.intro hq (And.intro bB (And.intro oB (And.intro bA (And.intro oA (And.intro bC oC))))))))))
    have HXP := Lib.hid (And.intro hxp hyq)
    have HRR : Hid ((acts.getD x.1.toNat (0, 0, 0) == acts2.getD y.1.toNat (0, 0, 0)) = (ax == ay)) := Lib.hid (by rw [HXP.out.1, HXP.out.2, Int.toNat_natCast, Int.toNat_natCast, hgx, hgy])
    have HGX : Hid (acts.getD x.1.toNat (0, 0, 0) = ax) := Lib.hid (by rw [HXP.out.1, Int.toNat_natCast, hgx])
    rw [hxp] at cx
    rw [hxp, hyq]
    rw [hav, hap] at cp
    rw [hav2, hap2] at cq
    obtain ⟨e0, e1, e2, e3, e4, e5, e6, e7, e8, e9⟩ := hcs
    obtain ⟨d0, d1, d2, d3, d4, d5, d6, d7, d8, d9⟩ := hcs2
    have HLL := Lib.hid (And.intro lab lab2)
    clear hst hbx hBW hKF hq bB oB bA oA bC oC hPS hPT hps hpt hav hav2 hac hac2 hap hap2 lab lab2 hgx hgy hxr hyr hxp hyq
    gi_wp2_with fail
    rcases hr' : (ax == ay) with _ | _
    ·clear HLL
     refine wpIn_region_inv Grows (fun _ _ => True) [Is (.pointer (some ⟨bp, 0, none⟩)), Is (.pointer (some ⟨bp, 0, none⟩)), Is (.pointer (some ⟨bp, 9, none⟩)), Is (.slice (some ⟨ab, aoff, none⟩) acts.length ac), Is (.int .i64 p), Is (.pointer (some ⟨ab, aoff + p * 10, none⟩)), Is (.agg #[.int .u8 ax.1, .int .i64 ax.2.1, .int .u64 (pl ax.2.2 0), .int .u64 (pl ax.2.2 1), .int .u64 (pl ax.2.2 2), .int .u64 (pl ax.2.2 3), .int .u64 (pl ax.2.2 4), .int .u64 (pl ax.2.2 5), .int .u64 (pl ax.2.2 6), .int .u64 (pl ax.2.2 7)]), Is (.pointer (some ⟨bq, 0, none⟩)), Is (.pointer (some ⟨bq, 0, none⟩)), Is (.pointer (some ⟨bq, 9, none⟩)), Is (.slice (some ⟨ab2, aoff2, none⟩) acts2.length ac2), Is (.int .i64 q), Is (.pointer (some ⟨ab2, aoff2 + q * 10, none⟩)), Is (.agg #[.int .u8 ay.1, .int .i64 ay.2.1, .int .u64 (pl ay.2.2 0), .int .u64 (pl ay.2.2 1), .int .u64 (pl ay.2.2 2), .int .u64 (pl ay.2.2 3), .int .u64 (pl ay.2.2 4), .int .u64 (pl ay.2.2 5), .int .u64 (pl ay.2.2 6), .int .u64 (pl ay.2.2 7)]), Is (.bool false)] (by kernel_rfl) (by kernel_rfl) (by kernel_rfl) rfl Grows.refl (fun _ _ _ => Grows.trans) (stable_mem ⟨fun _ _ _ h _ => h, fun _ _ _ h _ => h, fun _ _ _ h _ => h, fun _ _ _ h _ => h, fun _ _ _ h _ => h, fun _ _ _ h _ => h, fun _ _ _ h _ => h, fun _ _ _ h _ => h, fun _ _ _ h _ => h, fun _ _ _ h _ => h, fun _ _ _ h _ => h, fun _ _ _ h _ => h, fun _ _ _ h _ => h, fun _ _ _ h _ => h, fun _ _ _ h _ => h, trivial⟩) _ (Below.drew (Below.refl _ _)) trivial ?_
     iterate 2 (refine inv_cons ?_ (fun _ => ?_); · intro L w1 hat hb hI hF; have hc := (Grows.cells hb).1; (try simp [factsI, Region.binds, Is] at hF); go_simp; (try first | exact Grows.refl _ | exact trivial | rfl))
     refine inv_cons ?_ (fun v2 => ?_)
     ·intro L w1 hat hb hI hF; have hc := (Grows.cells hb).1; try simp [factsI, Region.binds, Is] at hF
      go_simp
      try first | exact Grows.refl _ | exact trivial | rfl
     iterate 6 (refine inv_cons ?_ (fun _ => ?_); · intro L w1 hat hb hI hF; have hc := (Grows.cells hb).1; (try simp [factsI, Region.binds, Is] at hF); go_simp; (try first | exact Grows.refl _ | exact trivial | rfl))
     refine inv_cons ?_ (fun v9 => ?_)
     ·intro L w1 hat hb hI hF; have hc := (Grows.cells hb).1; try simp [factsI, Region.binds, Is] at hF
      go_simp
      try first | exact Grows.refl _ | exact trivial | rfl
     iterate 5 (refine inv_cons ?_ (fun _ => ?_); · intro L w1 hat hb hI hF; have hc := (Grows.cells hb).1; (try simp [factsI, Region.binds, Is] at hF); go_simp; (try first | exact Grows.refl _ | exact trivial | rfl))
     refine inv_nil ?_
     intro w1 hb hI hF
     simp [Is, Nat.forall_lt_succ_right] at hF
     simp only [Act.put, List.setIfInBounds_toArray, List.set_cons_succ, List.set_cons_zero, hF]
     clear hF
     have hB6 : Below W'.heap.size W' w1 := hb
     have hst6 := HE.out.1.grow hB6
     have hbx6 := HE.out.2.1.grow hB6
     have HF := Lib.hid (And.intro hst6 (And.intro hbx6 hB6)); clear hst6 hbx6 hB6 hb
     have HRF : Hid ((acts.getD x.1.toNat (0, 0, 0) == acts2.getD y.1.toNat (0, 0, 0)) = false) := Lib.hid (by rw [HRR.out]; exact hr')
     clear hr' cp cq e0 e1 e2 e3 e4 e5 e6 e7 e8 e9 d0 d1 d2 d3 d4 d5 d6 d7 d8 d9 c0 c1 cx
     gi_wp2_with fail
     refine ⟨keeps_of_below HF.out.2.2, HF.out.2.2.mono ?_, ⟨⟨fun j hj => ?_, HF.out.1⟩, by rw [← HXP.out.1]; exact HF.out.2.1⟩, ?_, ?_⟩
     ·exact hsz2'
     ·rw [List.map_append] at hj
      rcases List.mem_append.1 hj with hj | hj
      ·rw [← HXP.out.1]; exact HE.out.2.2.2.2.1 j hj
      ·simp at hj; subst hj
       rw [← HXP.out.1]; exact HRF.out
     ·exact HE.out.2.2.1.trans (HF.out.2.2.mono (Nat.le_trans hszW HE.out.2.2.1.size))
     ·exact HE.out.2.2.2.1.trans (keeps_of_below HF.out.2.2)
    ·have hlpw : bp < w.heap.size := (let ⟨_, h, _⟩ := HH.out.1.past; h.lt)
     refine wpIn_region_inv Grows (fun _ _ => True) [Is (.pointer (some ⟨bp, 0, none⟩)), Is (.pointer (some ⟨bp, 0, none⟩)), Is (.pointer (some ⟨bp, 9, none⟩)), Is (.slice (some ⟨ab, aoff, none⟩) acts.length ac), Is (.int .i64 p), Is (.pointer (some ⟨ab, aoff + p * 10, none⟩)), Is (.agg #[.int .u8 ax.1, .int .i64 ax.2.1, .int .u64 (pl ax.2.2 0), .int .u64 (pl ax.2.2 1), .int .u64 (pl ax.2.2 2), .int .u64 (pl ax.2.2 3), .int .u64 (pl ax.2.2 4), .int .u64 (pl ax.2.2 5), .int .u64 (pl ax.2.2 6), .int .u64 (pl ax.2.2 7)]), Is (.pointer (some ⟨bq, 0, none⟩)), Is (.pointer (some ⟨bq, 0, none⟩)), Is (.pointer (some ⟨bq, 9, none⟩)), Is (.slice (some ⟨ab2, aoff2, none⟩) acts2.length ac2), Is (.int .i64 q), Is (.pointer (some ⟨ab2, aoff2 + q * 10, none⟩)), Is (.agg #[.int .u8 ay.1, .int .i64 ay.2.1, .int .u64 (pl ay.2.2 0), .int .u64 (pl ay.2.2 1), .int .u64 (pl ay.2.2 2), .int .u64 (pl ay.2.2 3), .int .u64 (pl ay.2.2 4), .int .u64 (pl ay.2.2 5), .int .u64 (pl ay.2.2 6), .int .u64 (pl ay.2.2 7)]), Is (.bool true)] (by kernel_rfl) (by kernel_rfl) (by kernel_rfl) rfl Grows.refl (fun _ _ _ => Grows.trans) (stable_mem ⟨fun _ _ _ h _ => h, fun _ _ _ h _ => h, fun _ _ _ h _ => h, fun _ _ _ h _ => h, fun _ _ _ h _ => h, fun _ _ _ h _ => h, fun _ _ _ h _ => h, fun _ _ _ h _ => h, fun _ _ _ h _ => h, fun _ _ _ h _ => h, fun _ _ _ h _ => h, fun _ _ _ h _ => h, fun _ _ _ h _ => h, fun _ _ _ h _ => h, fun _ _ _ h _ => h, trivial⟩) _ (Below.drew (Below.refl _ _)) trivial ?_
     iterate 2 (refine inv_cons ?_ (fun _ => ?_); · intro L w1 hat hb hI hF; have hc := (Grows.cells hb).1; (try simp [factsI, Region.binds, Is] at hF); go_simp; (try first | exact Grows.refl _ | exact trivial | rfl))
     refine inv_cons ?_ (fun v2 => ?_)
     ·intro L w1 hat hb hI hF; have hc := (Grows.cells hb).1; try simp [factsI, Region.binds, Is] at hF
      go_simp
      try first | exact Grows.refl _ | exact trivial | rfl
     iterate 6 (refine inv_cons ?_ (fun _ => ?_); · intro L w1 hat hb hI hF; have hc := (Grows.cells hb).1; (try simp [factsI, Region.binds, Is] at hF); go_simp; (try first | exact Grows.refl _ | exact trivial | rfl))
     refine inv_cons ?_ (fun v9 => ?_)
     ·intro L w1 hat hb hI hF; have hc := (Grows.cells hb).1; try simp [factsI, Region.binds, Is] at hF
      go_simp
      try first | exact Grows.refl _ | exact trivial | rfl
     iterate 5 (refine inv_cons ?_ (fun _ => ?_); · intro L w1 hat hb hI hF; have hc := (Grows.cells hb).1; (try simp [factsI, Region.binds, Is] at hF); go_simp; (try first | exact Grows.refl _ | exact trivial | rfl))
     refine inv_nil ?_
     intro w1 hb hI hF
     simp [Is, Nat.forall_lt_succ_right] at hF
     simp only [Act.put, List.setIfInBounds_toArray, List.set_cons_succ, List.set_cons_zero, hF]
     clear hF
     have hB6 : Below W'.heap.size W' w1 := hb
     have hst6 := HE.out.1.grow hB6
     have hbx6 := HE.out.2.1.grow hB6
     have b2 := HE.out.2.2.2.2.2.1.grow hB6
     have o2 := own_grow HE.out.2.2.2.2.2.2.1 hB6
     have b3 := HE.out.2.2.2.2.2.2.2.1.grow hB6
     have o3 := own_grow HE.out.2.2.2.2.2.2.2.2.1 hB6
     have b4 := HE.out.2.2.2.2.2.2.2.2.2.1.grow hB6
     have o4 := own_grow HE.out.2.2.2.2.2.2.2.2.2.2 hB6
     have HRF : Hid ((acts.getD x.1.toNat (0, 0, 0) == acts2.getD y.1.toNat (0, 0, 0)) = true) := Lib.hid (by rw [HRR.out]; exact hr')
     have hcp6 : ∀ o, w1.cell? ⟨bp, o, none⟩ = _ := fun o => (hB6.cell (p := ⟨bp, o, none⟩) lp).trans (cp o)
     have hlp6 : bp < w1.heap.size := Nat.lt_of_lt_of_le lp hB6.size
     have hlab6 : ab < w1.heap.size := Nat.lt_of_lt_of_le lab' hB6.size
     have g0 := (hB6.cell (p := ⟨ab, aoff + p * 10, none⟩) lab').trans e0
     have g1 := (hB6.cell (p := ⟨ab, aoff + p * 10 + 1, none⟩) lab').trans e1
     have g2 := (hB6.cell (p := ⟨ab, aoff + p * 10 + 2, none⟩) lab').trans e2
     have g3 := (hB6.cell (p := ⟨ab, aoff + p * 10 + 3, none⟩) lab').trans e3
     have g4 := (hB6.cell (p := ⟨ab, aoff + p * 10 + 4, none⟩) lab').trans e4
     have g5 := (hB6.cell (p := ⟨ab, aoff + p * 10 + 5, none⟩) lab').trans e5
     have g6 := (hB6.cell (p := ⟨ab, aoff + p * 10 + 6, none⟩) lab').trans e6
     have g7 := (hB6.cell (p := ⟨ab, aoff + p * 10 + 7, none⟩) lab').trans e7
     have g8 := (hB6.cell (p := ⟨ab, aoff + p * 10 + 8, none⟩) lab').trans e8
     have g9 := (hB6.cell (p := ⟨ab, aoff + p * 10 + 9, none⟩) lab').trans e9
     clear hr' cp cq e0 e1 e2 e3 e4 e5 e6 e7 e8 e9 d0 d1 d2 d3 d4 d5 d6 d7 d8 d9 c0 c1 cx lab' lab2' lp lq l0 l1 lx
     have HG := Lib.hid (And.intro g0 (And.intro g1 (And.intro g2 (And.intro g3 (And.intro g4 (And.intro g5 (And.intro g6 (And.intro g7 (And.intro g8 g9)))))))))
     have HCP := Lib.hid hcp6
     clear g0 g1 g2 g3 g4 g5 g6 g7 g8 g9 hcp6
     have HIV := Lib.hid (show InvBy w w.heap.size bp bq uB uA' uC' cs ax la lb (drop1 la p) (drop1 lb q) Bx p false false false false w1 from
      ⟨hst6.b0, hst6.b1, ⟨uB, b2, fun _ => rfl, fun e => (by cases e)⟩, ⟨uA', b3, fun _ => rfl, fun e => (by cases e)⟩, ⟨uC', b4, fun _ => rfl, fun e => (by cases e)⟩, fun _ => o2, ⟨o3, own_types o2 o3 (by decide)⟩, ⟨o4, own_types o2 o4 (by decide)⟩, (by rw [← HXP.out.1]; exact hbx6), hBx, own_blk o2 hbx6 (by decide), fun g e => o2.lt g e, hst6.bel⟩)
     have HB6 := Lib.hid hB6
     clear hst6 hbx6 b2 o2 b3 o3 b4 o4 hb hB6
     gi_wp2_with fail
     refine wpIn_region_inv (RBy w.heap.size uB (cs ++ [ax])) (fun L => InvBy w w.heap.size bp bq uB uA' uC' cs ax la lb (drop1 la p) (drop1 lb q) Bx p (L 9) (L 18) (L 19) (L 20)) [Is uB, Is (.pointer (some ⟨bp, 0, none⟩)), Is (.pointer (some ⟨bp, 0, none⟩)), Is (.pointer (some ⟨bp, 9, none⟩)), Is (.slice (some ⟨ab, aoff, none⟩) acts.length ac), Is (.int .i64 p), Is (.pointer (some ⟨ab, aoff + p * 10, none⟩)), Is (.agg #[.int .u8 ax.1, .int .i64 ax.2.1, .int .u64 (pl ax.2.2 0), .int .u64 (pl ax.2.2 1), .int .u64 (pl ax.2.2 2), .int .u64 (pl ax.2.2 3), .int .u64 (pl ax.2.2 4), .int .u64 (pl ax.2.2 5), .int .u64 (pl ax.2.2 6), .int .u64 (pl ax.2.2 7)]), New8 w.heap.size uB ax, OwnAX w.heap.size (cs ++ [ax]), Is uA', Is (.int .i64 p), NewI w.heap.size uB p, VIX w.heap.size uB (drop1 la p), Is uC', Is (.int .i64 q), NewI w.heap.size uB q, VIX w.heap.size uB (drop1 lb q), Is undef, Is undef, Is undef] (by kernel_rfl) (by kernel_rfl) (by kernel_rfl) rfl RBy.refl (fun _ _ _ => RBy.trans) (stable_mem ⟨fun _ _ _ h _ => h, fun _ _ _ h _ => h, fun _ _ _ h _ => h, fun _ _ _ h _ => h, fun _ _ _ h _ => h, fun _ _ _ h _ => h, fun _ _ _ h _ => h, fun _ _ _ h _ => h, New8.stable, OwnAX.stable, fun _ _ _ h _ => h, fun _ _ _ h _ => h, NewI.stable, VIX.stable, fun _ _ _ h _ => h, fun _ _ _ h _ => h, NewI.stable, VIX.stable, fun _ _ _ h _ => h, fun _ _ _ h _ => h, fun _ _ _ h _ => h, trivial⟩) w1 (RBy.grow (Nat.le_of_lt HIV.out.b0.lt) (Below.refl _ _).drew) (HIV.out.grow (Below.refl _ _).drew) ?_
     refine inv_cons ?_ (fun v0 => ?_)
     ·intro L w1 hat hb hI hF; try simp [factsI, Region.binds, Is] at hF
      have hf : L 18 = false := hat.later 25 18 (by kernel_rfl)
      rw [hf] at hI
      refine Exists.elim hI.b2 (fun dc hdc => ?_)
      have hdc2 := hdc.2.1 rfl
      rw [hdc2] at hdc
      have c0 := hdc.1.cell
      have l0 := hdc.1.lt
      clear hdc hdc2
      go_simp
      exact RBy.refl _
     refine inv_cons ?_ (fun v1 => ?_)
     ·intro L w1 hat hb hI hF; try simp [factsI, Region.binds, Is] at hF
      have c0 := hI.b0.cell
      have l0 := hI.b0.lt
      go_simp
      exact RBy.refl _
     refine inv_cons ?_ (fun v2 => ?_)
     ·intro L w1 hat hb hI hF; try simp [factsI, Region.binds, Is] at hF
      go_simp
      exact RBy.refl _
     refine inv_cons ?_ (fun v3 => ?_)
     ·intro L w1 hat hb hI hF; try simp [factsI, Region.binds, Is] at hF
      go_simp
      exact RBy.refl _
     refine inv_cons ?_ (fun v4 => ?_)
     ·intro L w1 hat hb hI hF; try simp [factsI, Region.binds, Is] at hF
      have c0 := fun o => (hb.bel.cell (p := ⟨bp, o, none⟩) hlpw).trans (HCP.out o)
      have l0 : bp < w1.heap.size := Nat.lt_of_lt_of_le hlpw hI.bel.size
      go_simp
      exact RBy.refl _
     refine inv_cons ?_ (fun v5 => ?_)
     ·intro L w1 hat hb hI hF; try simp [factsI, Region.binds, Is] at hF
      have c0 := hI.bx.cell
      have l0 := hI.bx.lt
      go_simp
      exact RBy.refl _
     refine inv_cons ?_ (fun v6 => ?_)
     ·intro L w1 hat hb hI hF; try simp [factsI, Region.binds, Is] at hF
      go_simp
      exact RBy.refl _
     refine inv_cons ?_ (fun v7 => ?_)
     ·intro L w1 hat hb hI hF; try simp [factsI, Region.binds, Is] at hF
      have g0 := (hb.bel.cell (p := ⟨ab, aoff + p * 10, none⟩) HLL.out.1).trans HG.out.1
      have g1 := (hb.bel.cell (p := ⟨ab, aoff + p * 10 + 1, none⟩) HLL.out.1).trans HG.out.2.1
      have g2 := (hb.bel.cell (p := ⟨ab, aoff + p * 10 + 2, none⟩) HLL.out.1).trans HG.out.2.2.1
      have g3 := (hb.bel.cell (p := ⟨ab, aoff + p * 10 + 3, none⟩) HLL.out.1).trans HG.out.2.2.2.1
      have g4 := (hb.bel.cell (p := ⟨ab, aoff + p * 10 + 4, none⟩) HLL.out.1).trans HG.out.2.2.2.2.1
      have g5 := (hb.bel.cell (p := ⟨ab, aoff + p * 10 + 5, none⟩) HLL.out.1).trans HG.out.2.2.2.2.2.1
      have g6 := (hb.bel.cell (p := ⟨ab, aoff + p * 10 + 6, none⟩) HLL.out.1).trans HG.out.2.2.2.2.2.2.1
      have g7 := (hb.bel.cell (p := ⟨ab, aoff + p * 10 + 7, none⟩) HLL.out.1).trans HG.out.2.2.2.2.2.2.2.1
      have g8 := (hb.bel.cell (p := ⟨ab, aoff + p * 10 + 8, none⟩) HLL.out.1).trans HG.out.2.2.2.2.2.2.2.2.1
      have g9 := (hb.bel.cell (p := ⟨ab, aoff + p * 10 + 9, none⟩) HLL.out.1).trans HG.out.2.2.2.2.2.2.2.2.2
      have l0 : ab < w1.heap.size := Nat.lt_of_lt_of_le HLL.out.1 hI.bel.size
      go_simp
      exact RBy.refl _
     refine inv_cons ?_ (fun v8 => ?_)
     ·intro L w1 hat hb hI hF; try simp [factsI, Region.binds, Is] at hF
      have HJ := Lib.hid (fresh8 hI ax)
      clear hI
      go_simp
      exact HJ.out
     refine inv_cons ?_ (fun v9 => ?_)
     ·intro L w1 hat hb hI hF; try simp [factsI, Region.binds, Is] at hF
      have h9' : L 9 = false := hat.self
      have h18 : L 18 = false := hat.later 25 18 (by kernel_rfl)
      rw [h9', h18] at hI
      have happ := append_act (hI.own rfl) hF.2 (by omega) (Exists.elim hI.b4 (fun _ h => h.1.lt))
      refine Exists.elim happ (fun v9 h => Exists.elim h (fun w9 h => ?_))
      exact stepI_append rfl rfl (by simpa [Act.eval, Act.put] using hF.1) (by simp [Act.eval, Act.put]) h.1 ⟨h.2.2.2, by simpa [h18] using hI.app h.2.2.1 h.2.2.2, h.2.1⟩
     refine inv_cons ?_ (fun v10 => ?_)
     ·intro L w1 hat hb hI hF; try simp [factsI, Region.binds, Is] at hF
      have hf : L 19 = false := hat.later 25 19 (by kernel_rfl)
      rw [hf] at hI
      refine Exists.elim hI.b3 (fun dc hdc => ?_)
      have hdc2 := hdc.2.1 rfl
      rw [hdc2] at hdc
      have c0 := hdc.1.cell
      have l0 := hdc.1.lt
      clear hdc hdc2
      go_simp
      exact RBy.refl _
     refine inv_cons ?_ (fun v11 => ?_)
     ·intro L w1 hat hb hI hF; try simp [factsI, Region.binds, Is] at hF
      have c0 := hI.bx.cell
      have l0 := hI.bx.lt
      go_simp
      exact RBy.refl _
     refine inv_cons ?_ (fun v12 => ?_)
     ·intro L w1 hat hb hI hF; try simp [factsI, Region.binds, Is] at hF
      have HJ := Lib.hid (freshI hI p)
      clear hI
      go_simp
      exact HJ.out
     refine inv_cons ?_ (fun v13 => ?_)
     ·intro L w1 hat hb hI hF; try simp [factsI, Region.binds, Is] at hF
      have HI7 := Lib.hid hI
      have hw94 := Lib.hid (without_spec _ _ la [(p : Int)] w1 hI.oA.1.sl hF.2.1.sl (by omega))
      clear hI
      go_simp
      refine hw94.out.mono ?_
      rintro e w5 ⟨u, rfl, hO, hb5⟩
      exact ⟨_, rfl, RBy.grow (Nat.le_of_lt HI7.out.b0.lt) hb5, HI7.out.grow hb5, by unfold VIX; exact ⟨own_weak hO (Exists.elim HI7.out.b4 (fun _ h => h.1.lt)), fun g e2 e3 => (by have h1 := (hO.lt g e2).1; have h2 := (HI7.out.uB5 g e3).2; omega)⟩⟩
     refine inv_cons ?_ (fun v14 => ?_)
     ·intro L w1 hat hb hI hF; try simp [factsI, Region.binds, Is] at hF
      have hf : L 20 = false := hat.later 25 20 (by kernel_rfl)
      rw [hf] at hI
      refine Exists.elim hI.b4 (fun dc hdc => ?_)
      have hdc2 := hdc.2.1 rfl
      rw [hdc2] at hdc
      have c0 := hdc.1.cell
      have l0 := hdc.1.lt
      clear hdc hdc2
      go_simp
      exact RBy.refl _
     refine inv_cons ?_ (fun v15 => ?_)
     ·intro L w1 hat hb hI hF; try simp [factsI, Region.binds, Is] at hF
      go_simp
      exact RBy.refl _
     refine inv_cons ?_ (fun v16 => ?_)
     ·intro L w1 hat hb hI hF; try simp [factsI, Region.binds, Is] at hF
      have HJ := Lib.hid (freshI hI q)
      clear hI
      go_simp
      exact HJ.out
     refine inv_cons ?_ (fun v17 => ?_)
     ·intro L w1 hat hb hI hF; try simp [factsI, Region.binds, Is] at hF
      have HI7 := Lib.hid hI
      have hw94 := Lib.hid (without_spec _ _ lb [(q : Int)] w1 hI.oC.1.sl hF.2.1.sl (by omega))
      clear hI
      go_simp
      refine hw94.out.mono ?_
      rintro e w5 ⟨u, rfl, hO, hb5⟩
      exact ⟨_, rfl, RBy.grow (Nat.le_of_lt HI7.out.b0.lt) hb5, HI7.out.grow hb5, by unfold VIX; exact ⟨own_weak hO (Exists.elim HI7.out.b4 (fun _ h => h.1.lt)), fun g e2 e3 => (by have h1 := (hO.lt g e2).1; have h2 := (HI7.out.uB5 g e3).2; omega)⟩⟩
     refine inv_cons ?_ (fun v18 => ?_)
     ·intro L w1 hat hb hI hF; try simp [factsI, Region.binds, Is] at hF
      have h9 : L 9 = true := hat.ahead 25 9 (by kernel_rfl)
      have hown := hF.1
      rw [h9] at hI
      refine Exists.elim hI.b2 (fun dc hdc => ?_)
      unfold OwnAX at hown
      refine Exists.elim (own_shape hown) (fun p0 h => Exists.elim h (fun nn h => Exists.elim h (fun cc hv => ?_)))
      subst hv
      have hJ := hI.set18 (by unfold OwnAX; exact hown) hdc.1
      have hrows := RBy.rows (h := w.heap.size) (uB := uB) (cs := cs ++ [ax]) (W := w1) (.inl rfl) hdc.1.row #[dc] #[.slice p0 nn cc]
      have r0 := hdc.1.row
      rw [← hdc.1.rw]
      have HJ := Lib.hid (And.intro hrows hJ); clear hrows hJ hdc hI hown
      go_simp
      exact HJ.out
     refine inv_cons ?_ (fun v19 => ?_)
     ·intro L w1 hat hb hI hF; try simp [factsI, Region.binds, Is] at hF
      have h9 : L 9 = true := hat.ahead 25 9 (by kernel_rfl)
      have hown := hF.1
      rw [h9] at hI
      refine Exists.elim hI.b3 (fun dc hdc => ?_)
      unfold VIX at hown
      refine Exists.elim (own_shape hown.1) (fun p0 h => Exists.elim h (fun nn h => Exists.elim h (fun cc hv => ?_)))
      subst hv
      have hJ := hI.set19 (by unfold VIX; exact hown) hdc.1
      have hrows := RBy.rows (h := w.heap.size) (uB := uB) (cs := cs ++ [ax]) (W := w1) (.inr (.inl rfl)) hdc.1.row #[dc] #[.slice p0 nn cc]
      have r0 := hdc.1.row
      rw [← hdc.1.rw]
      have HJ := Lib.hid (And.intro hrows hJ); clear hrows hJ hdc hI hown
      go_simp
      exact HJ.out
     refine inv_cons ?_ (fun v20 => ?_)
     ·intro L w1 hat hb hI hF; try simp [factsI, Region.binds, Is] at hF
      have h9 : L 9 = true := hat.ahead 25 9 (by kernel_rfl)
      have hown := hF.1
      rw [h9] at hI
      refine Exists.elim hI.b4 (fun dc hdc => ?_)
      unfold VIX at hown
      refine Exists.elim (own_shape hown.1) (fun p0 h => Exists.elim h (fun nn h => Exists.elim h (fun cc hv => ?_)))
      subst hv
      have hJ := hI.set20 (by unfold VIX; exact hown) hdc.1
      have hrows := RBy.rows (h := w.heap.size) (uB := uB) (cs := cs ++ [ax]) (W := w1) (.inr (.inr rfl)) hdc.1.row #[dc] #[.slice p0 nn cc]
      have r0 := hdc.1.row
      rw [← hdc.1.rw]
      have HJ := Lib.hid (And.intro hrows hJ); clear hrows hJ hdc hI hown
      go_simp
      exact HJ.out
     refine inv_nil ?_
     intro w1 hb hI hF
     simp [Is, Nat.forall_lt_succ_right] at hF
     have e0 := hF.1.1.1.1.1.1.1.1.1.1.1.1.1.1.1.1.1.1.1.1
     have e1 := hF.1.1.1.1.1.1.1.1.1.1.1.1.1.1.1.1.1.1.1.2
     have e2 := hF.1.1.1.1.1.1.1.1.1.1.1.1.1.1.1.1.1.1.2
     have e3 := hF.1.1.1.1.1.1.1.1.1.1.1.1.1.1.1.1.1.2
     have e4 := hF.1.1.1.1.1.1.1.1.1.1.1.1.1.1.1.1.2
     have e5 := hF.1.1.1.1.1.1.1.1.1.1.1.1.1.1.1.2
     have e6 := hF.1.1.1.1.1.1.1.1.1.1.1.1.1.1.2
     have e7 := hF.1.1.1.1.1.1.1.1.1.1.1.1.1.2
     have e8 := hF.1.1.1.1.1.1.1.1.1.1.1.1.2
     have e9 := hF.1.1.1.1.1.1.1.1.1.1.1.2
     have e10 := hF.1.1.1.1.1.1.1.1.1.1.2
     have e11 := hF.1.1.1.1.1.1.1.1.1.2
     have e12 := hF.1.1.1.1.1.1.1.1.2
     have e13 := hF.1.1.1.1.1.1.1.2
     have e14 := hF.1.1.1.1.1.1.2
     have e15 := hF.1.1.1.1.1.2
     have e16 := hF.1.1.1.1.2
     have e17 := hF.1.1.1.2
     have e18 := hF.1.1.2
     have e19 := hF.1.2
     have e20 := hF.2
     clear hF
     simp only [Act.put, List.setIfInBounds_toArray, List.set_cons_succ, List.set_cons_zero, e0, e1, e2, e3, e4, e5, e6, e7, e10, e11, e14, e15, e18, e19, e20]
     clear e0 e1 e2 e3 e4 e5 e6 e7 e10 e11 e14 e15 e18 e19 e20
     have hfin := InvBy.fin (show InvBy w w.heap.size bp bq uB uA' uC' cs ax la lb (drop1 la p) (drop1 lb q) Bx p true true true true w1 from hI)
     have HFN := Lib.hid (And.intro hfin hb.oth)
     clear hI hb e8 e9 e12 e13 e16 e17 hfin
     gi_wp2_with fail
     refine ⟨keeps_zero ((keeps_of_below HB6.out).trans HFN.out.2), ⟨rfl, pre2.map (fun z : Ix acts2.length => z.1), (q : Int), ?_, fun j hj => ?_, ?_, ?_⟩, HE.out.2.2.2.1.trans ((keeps_of_below HB6.out).trans HFN.out.2)⟩
     ·exact (List.map_append (f := fun z : Ix acts2.length => z.1) (l₁ := pre2) (l₂ := [y])).trans (by show _ ++ [y.1] = _; rw [HXP.out.2])
     ·show (acts.getD (p : Int).toNat (0, 0, 0) == acts2.getD j.toNat (0, 0, 0)) = false
      rw [← HXP.out.1]; exact HE.out.2.2.2.2.1 j hj
     ·show (acts.getD (p : Int).toNat (0, 0, 0) == acts2.getD (q : Int).toNat (0, 0, 0)) = true
      rw [← HXP.out.1, ← HXP.out.2]; exact HRF.out
     ·have h1 := HFN.out.1
      have h2 := HGX.out
      rw [HXP.out.1] at h2
      show BySt w w.heap.size bp bq (cs ++ [acts.getD (p : Int).toNat (0, 0, 0)]) (drop1 la p) (drop1 lb q) w1
      rw [h2]; exact h1
   case done2 =>
    rintro ys W' hS ⟨⟨⟨hq, hst⟩, hbx⟩, hBW, hKF⟩
    have HI3 := Lib.hid (And.intro hq (And.intro hst (And.intro hBW hKF))); clear hq hst hbx hBW hKF
    gi_wp2_with fail
    refine ⟨keeps_zero HI3.out.2.2.2, HI3.out.2.2.1, ⟨fun i hi j hj => ?_, HI3.out.2.1⟩, HI.out.2.2.1.trans HI3.out.2.2.2⟩
    rw [List.map_append] at hi
    rcases List.mem_append.1 hi with hi | hi
    ·exact HI.out.1 i hi j hj
    ·simp at hi; subst hi
     rw [← hS] at hj
     exact HI3.out.1 j hj
   case stop2 =>
    rintro c pre2 W' hS ⟨⟨rfl, hf⟩, hKF⟩
    have HI3 := Lib.hid (And.intro hf (And.intro hKF hS)); clear hf hKF hS
    gi_wp2_with fail
    obtain ⟨qre, y, h1, h2, h3, h4⟩ := HI3.out.1
    obtain ⟨k, hk, h5⟩ := HI3.out.2.2
    obtain ⟨r2, h6⟩ := freeUpto_prefix (dep := depI (cellsOf l2 acts2)) (left := lb) hk
    exact ⟨keeps_zero HI3.out.2.1, ⟨rfl, pre.map (fun z : Ix acts.length => z.1), x.1, y, qre, r2, List.map_append (f := fun z : Ix acts.length => z.1) (l₁ := pre) (l₂ := [x]), HI.out.1, by rw [h6, ← h5, h1]; simp, h2, h3, h4⟩, HI.out.2.2.1.trans HI3.out.2.1⟩
  case done =>
   rintro D xs W hD hS ⟨⟨hp, hst⟩, hkf⟩ hK
   have hcl := HC0.out.cons hkf (by omega) hD hK
   have hpair : pairM (fun i j => acts.getD i.toNat (0, 0, 0) == acts2.getD j.toNat (0, 0, 0)) (freeUpto (depI (cellsOf l acts)) la la.length) (freeUpto (depI (cellsOf l2 acts2)) lb lb.length) = none := pairM_none (fun i hi j hj => hp i (by rw [hS]; exact hi) j hj)
   have hres : (cs, la, lb) = res := by rw [← HST.out.2.2.2.2.1, beyondI_none hpair]
   obtain ⟨x2, k2, o2⟩ := hst.b2
   obtain ⟨x3, k3, o3⟩ := hst.b3
   obtain ⟨x4, k4, o4⟩ := hst.b4
   have HI := Lib.hid (And.intro hst (And.intro hcl hres)); clear hst hcl hp hpair hres hS hkf hK
   refine Veil.out ?_
   obtain ⟨p2, c2, rfl, _, _⟩ := own_shape' o2
   obtain ⟨p3, c3, rfl, _, _⟩ := own_shape' o3
   obtain ⟨p4, c4, rfl, _, _⟩ := own_shape' o4
   refine Veil.on ?_
   have r2 := k2.row
   have r3 := k3.row
   have r4 := k4.row
   have l2' := k2.lt
   have l3' := k3.lt
   have l4' := k4.lt
   have HO := Lib.hid (And.intro o2 (And.intro o3 o4)); clear o2 o3 o4
   rw [← k2.rw, ← k3.rw, ← k4.rw]
   have HK := Lib.hid (And.intro k2 (And.intro k3 k4)); clear k2 k3 k4
   gi_wp2_with fail
   refine wpIn_wide.2 ?_
   go_region
   all_goals go_wp2_with fail
   all_goals rw [HK.out.2.2.rw, HK.out.2.1.rw, HK.out.1.rw]
   all_goals gi_wp2_with fail
   obtain ⟨Ds, hds, hnd, hdd⟩ := HI.out.2.1
   rw [hds]
   refine leaves_coll (h := w.heap.size) (Z := fun W' => BySt w w.heap.size bp bq cs la lb W') (fun W' D' hz h1 h2 => hz.put h1 h2) (fun W' hz => ?_) Ds _ hnd (fun D' hD' => hdd D' hD') (HI.out.1.grow (Below.drew (Below.refl _ _)))
   obtain ⟨y2, k2, o2⟩ := hz.b2
   obtain ⟨y3, k3, o3⟩ := hz.b3
   obtain ⟨y4, k4, o4⟩ := hz.b4
   have d2 := k2.cell 0
   have d3 := k3.cell 0
   have d4 := k4.cell 0
   refine ⟨.tuple #[y2, y3, y4], by simp [results, Tryz.f97, go_sem, d2, d3, d4], y2, y3, y4, rfl, ?_, ?_, ?_, hz.bel⟩
   ·rw [← HI.out.2.2]; exact own_weak o2 (by omega)
   ·rw [← HI.out.2.2]; exact own_weak o3 (by omega)
   ·rw [← HI.out.2.2]; exact own_weak o4 (by omega)
  case stop =>
   rintro D c pre W hD hS ⟨⟨rfl, hf⟩, hkf⟩ hK
   have hcl := HC0.out.cons hkf (by omega) hD hK
   obtain ⟨pre', x, y, qre, r2, h1, h2, h3, h4, h5, h6⟩ := hf
   obtain ⟨k, hk, h7⟩ := hS
   obtain ⟨r1, h8⟩ := freeUpto_prefix (dep := depI (cellsOf l acts)) (left := la) hk
   have hpair : pairM (fun i j => acts.getD i.toNat (0, 0, 0) == acts2.getD j.toNat (0, 0, 0)) (freeUpto (depI (cellsOf l acts)) la la.length) (freeUpto (depI (cellsOf l2 acts2)) lb lb.length) = some (x, y) := by
    have := pairM_at h3 h4 h5 (pre := pre') (r := r1) h2
    rw [h8, ← h7, h1, List.append_assoc]
    exact this
   have hstep := beyondI_step (act := fun i => acts.getD i.toNat (0, 0, 0)) (cs := cs) hpair
   have hm := pairM_mem hpair
   have hxl := freeUpto_mem _ la la.length (Nat.le_refl _) _ hm.1
   have hyl := freeUpto_mem _ lb lb.length (Nat.le_refl _) _ hm.2.1
   have hl1 := drop1_lt hxl
   have hl2 := drop1_lt hyl
   obtain ⟨uN, kN, oN⟩ := h6.b3
   have hmes : sliceLen ((W.cell? ⟨w.heap.size + 1 + 1 + 1, 0, none⟩).getD undef) = (drop1 la x).length := by rw [kN.cell]; exact oN.len
   have HI := Lib.hid (And.intro h6 (And.intro hcl (And.intro (hstep.symm.trans HST.out.2.2.2.2.1) hmes)))
   clear h1 h2 h3 h4 h5 h6 h7 h8 hpair hstep hm hcl hkf hK hk kN oN hmes
   gi_wp2_with fail
   refine ⟨?_, by rw [HML.out, HI.out.2.2.2]; exact hl1⟩
   unfold ByI
   exact ⟨_, _, _, _, _, _, _, _, _, _, _, _, _, _, _, _, _, _, _, _, _, _, _, _, _, _, _, _, _, _, _, _, _, _, _, _, _, _, _, _, _, _, _, _, _, _, _, _, _, _, _, cs ++ [acts.getD x.toNat (0, 0, 0)], drop1 la x, drop1 lb y, rfl, HI.out.1, HI.out.2.1, fun z hz => HST.out.2.2.1 z (List.mem_filter.1 hz).1, fun z hz => HST.out.2.2.2.1 z (List.mem_filter.1 hz).1, by omega, by omega, by simp; omega, HI.out.2.2.1⟩
end Go.Proofs.YtccnkebkgegohaaGreatDoor
end
