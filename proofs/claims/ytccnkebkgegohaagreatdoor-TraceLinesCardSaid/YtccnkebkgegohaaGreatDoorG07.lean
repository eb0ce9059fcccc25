import Derived.Test.YtccnkebkgegohaaGreatDoorG06
/-
  Given contracts of functions of the program, and laws for them, one behind the other.
-/
set_option linter.unusedVariables false
set_option linter.unusedSimpArgs false
set_option linter.unusedSectionVars false
section
namespace Go.Proofs.YtccnkebkgegohaaGreatDoor
open Go.RowKit Go.Rel
set_option maxRecDepth 100000
@[irreducible] def Veil (p : Prop) : Prop := p
theorem Veil.out {p : Prop} (h : Veil p) : p := by unfold Veil at h; exact h
theorem Veil.on {p : Prop} (h : p) : Veil p := by unfold Veil; exact h
theorem ac_cells {w : World} {b off : Nat} {l : List Ac} (h : Cells w b off 10 (l.map acL)) {k : Nat} {x : Ac} (hx : l[k]? = some x) :
  w.cell? ⟨b, off + k * 10, none⟩ = some (.int .u8 x.1) ∧ w.cell? ⟨b, off + k * 10 + 1, none⟩ = some (.int .i64 x.2.1) ∧
  w.cell? ⟨b, off + k * 10 + 2, none⟩ = some (.int .u64 (pl x.2.2 0)) ∧ w.cell? ⟨b, off + k * 10 + 3, none⟩ = some (.int .u64 (pl x.2.2 1)) ∧ w.cell? ⟨b, off + k * 10 + 4, none⟩ = some (.int .u64 (pl x.2.2 2)) ∧
  w.cell? ⟨b, off + k * 10 + 5, none⟩ = some (.int .u64 (pl x.2.2 3)) ∧ w.cell? ⟨b, off + k * 10 + 6, none⟩ = some (.int .u64 (pl x.2.2 4)) ∧ w.cell? ⟨b, off + k * 10 + 7, none⟩ = some (.int .u64 (pl x.2.2 5)) ∧
  w.cell? ⟨b, off + k * 10 + 8, none⟩ = some (.int .u64 (pl x.2.2 6)) ∧ w.cell? ⟨b, off + k * 10 + 9, none⟩ = some (.int .u64 (pl x.2.2 7)) :=
 ⟨h.2 k 0 _ (by simp [hx]), h.2 k 1 _ (by simp [hx]), h.2 k 2 _ (by simp [hx]), h.2 k 3 _ (by simp [hx]), h.2 k 4 _ (by simp [hx]), h.2 k 5 _ (by simp [hx]), h.2 k 6 _ (by simp [hx]), h.2 k 7 _ (by simp [hx]), h.2 k 8 _ (by simp [hx]), h.2 k 9 _ (by simp [hx])⟩
/-- an append onto memory of one's own: whatever owned the longer row ahead of it owns it behind it -/
theorem run_append_keep {P : Program} (w : World) (base : Nat) (t ty e : TypeId) (i : TypeInfo) (z : Value) (size bytes : Nat) (ht : P.underlying t = some (.slice e)) (hi : P.info? e = some i) (hz : i.zero = some z)
  (hsize : i.size = size) (hby : i.bytes = bytes) (hzs : z.cells.size = size) (hsz : 0 < size)
  (v : Value) (n : Nat) (xs : List Value) (hown : w.ownsRow base e size v n xs)
  (a : Addr) (m c : Nat) (news : List Value) (hl : news.length = m * size) (hnews : ∀ j u, news[j]? = some u → w.cell? (a.add j) = some u) (h1 : ∀ u ∈ news, u.oneCell' = true)
  (h63 : n + m ≤ maxLen) (hbytes : (n + m) * bytes ≤ 140737488355328) (hbase : base ≤ w.heap.size) :
  ∃ v' w', (Builtin.append_ #[t, t] ty #[v, .slice (some a) m c]).run P w = .ok v' w' ∧ w'.ownsRow base e size v' (n + m) (xs ++ news) ∧ w.grownBy w' v.ownBlock ∧
   (∀ u, w.ownsRow base e size u (n + m) (xs ++ news) → w'.ownsRow base e size u (n + m) (xs ++ news)) := by
 obtain ⟨v', w', hr, h2, h3, h4⟩ := run_append_own (P := P) w base t ty e i z size bytes ht hi hz hsize hby hzs hsz v n xs hown a m c news hl hnews h1 h63 hbytes hbase
 refine ⟨v', w', hr, h2, h3, fun u hu => ?_⟩
 by_cases hne : u.ownBlock = none ∨ u.ownBlock ≠ v.ownBlock
 ·exact hu.kept h3 hne
 ·have hne1 : u.ownBlock ≠ none := fun h => hne (.inl h)
  have hne2 : u.ownBlock = v.ownBlock := Classical.byContradiction fun h => hne (.inr h)
  rcases hu.2 with ⟨rfl, _⟩ | ⟨g, cap, cur, rfl, hb, hg, hnc, hcm, hcs, htake⟩
  ·exact absurd rfl hne1
  ·rcases hown.2 with ⟨rfl, _⟩ | ⟨g', cap', cur', rfl, hb', hg', hnc', hcm', hcs', htake'⟩
   ·simp [Value.ownBlock] at hne2
   ·have e1 : g = g' := by simpa [Value.ownBlock] using hne2
    subst e1
    rw [hg] at hg'
    have e2 : cur = cur' := by simpa using hg'
    subst e2
    have e3 : cap = cap' := Nat.eq_of_mul_eq_mul_right hsz (hcs.symm.trans hcs')
    subst e3
    subst hsize
    have hfit : n * i.size + news.length ≤ cur.size := by rw [hl, hcs, ← Nat.add_mul]; exact Nat.mul_le_mul_right _ hnc
    have hr2 := run_append_room (P := P) w t ty e i ht hi g n cap cur hg a m c news hl hnews h1 hnc hfit
    rw [hr] at hr2
    injection hr2 with e4 e5
    subst e4
    exact h2
/-- what a step of the region that lays the next deed and the next stand may turn -/
structure RB (h bp k : Nat) (dv : Value) (ys : List Value) (W W' : World) : Prop where
 mk ::
 bel : Below h W W'
 kept : ∀ j, j < W.heap.size → j ≠ bp → some j ≠ dv.ownBlock → W'.heap[j]? = W.heap[j]?
 own : ∀ u, W.ownsRow (bp + 1) 122 1 u (k + 1) ys → W'.ownsRow (bp + 1) 122 1 u (k + 1) ys
section
variable {h bp k : Nat} {dv : Value} {ys : List Value} {W W' W'' : World}
theorem RB.refl (W : World) : RB h bp k dv ys W W := ⟨Below.refl _ _, fun _ _ _ _ => rfl, fun _ hu => hu⟩
theorem RB.trans (x : RB h bp k dv ys W W') (y : RB h bp k dv ys W' W'') : RB h bp k dv ys W W'' :=
 ⟨x.bel.trans y.bel, fun j hj h1 h2 => (y.kept j (Nat.lt_of_lt_of_le hj x.bel.size) h1 h2).trans (x.kept j hj h1 h2), fun u hu => y.own u (x.own u hu)⟩
theorem RB.grow (hh : h ≤ W.heap.size) (hb : Below W.heap.size W W') : RB h bp k dv ys W W' :=
 ⟨hb.mono hh, fun j hj _ _ => hb.block j hj, fun _ hu => own_grow hu hb⟩
theorem RB.rows (hh : h ≤ bp) (a b : Array Value) : RB h bp k dv ys (W.setRow bp a) (W.setRow bp b) :=
  ⟨blw_rows hh a b, fun j _ h1 _ => (setRow_other W bp j b h1).trans (setRow_other W bp j a h1).symm,
   fun u hu => hu.kept (row := some bp) ⟨rfl, rfl, rfl, by rw [setRow_size, setRow_size]; exact Nat.le_refl _, fun j _ hj => (setRow_other W bp j b (fun e => hj (by rw [e]))).trans (setRow_other W bp j a (fun e => hj (by rw [e]))).symm⟩ (by
     cases e : u.ownBlock with
     | none => exact .inl rfl
     | some g => refine .inr fun hg => ?_; cases hg; have := (hu.lt _ e).1; omega)⟩
theorem RB.app (hh : h ≤ bp) (hlt : ∀ g, dv.ownBlock = some g → bp + 1 ≤ g) (hg : W.grownBy W' dv.ownBlock) (ho : ∀ u, W.ownsRow (bp + 1) 122 1 u (k + 1) ys → W'.ownsRow (bp + 1) 122 1 u (k + 1) ys) (hhs : bp < W.heap.size) : RB h bp k dv ys W W' :=
 ⟨(Below.refl h W).grown hg (by omega) (fun k hk => by have := hlt k hk; omega), fun j hj _ h2 => hg.block j hj h2, ho⟩
end
/-- what is known within that region, by whether the append (8), the store of the deeds (17), the store of the stand (20) are done -/
structure Inv16 (h bp : Nat) (blank : Sol) (v av : Value) (k : Nat) (s s2 : Stn) (dv : Value) (xs ys : List Value) (f8 f17 f20 : Bool) (W : World) : Prop where
 mk ::
 hist : Blk W h #[.int .u64 (pl blank 0), .int .u64 (pl blank 1), .int .u64 (pl blank 2), .int .u64 (pl blank 3), .int .u64 (pl blank 4), .int .u64 (pl blank 5), .int .u64 (pl blank 6), .int .u64 (pl blank 7), v, av] 30
 tc : Blk W (h + 1) #[.pointer (some ⟨bp, 0, none⟩)] 101
 c2 : Blk W (h + 1 + 1) #[.int .i64 0] 3
 c3 : Blk W (h + 1 + 1 + 1) #[.int .i64 0] 33
 past : ∃ dc, Blk W bp (pastC blank v av dc (bif f20 then s2.1 else s.1) (bif f20 then s2.2 else s.2)) 113 ∧ (f17 = false → dc = dv) ∧ (f17 = true → W.ownsRow (bp + 1) 122 1 dc (k + 1) ys)
 own : f8 = false → W.ownsRow (bp + 1) 122 1 dv k xs
 hb : h + 1 + 1 + 1 + 1 ≤ bp
section
variable {h bp : Nat} {blank : Sol} {v av : Value} {k : Nat} {s s2 : Stn} {dv : Value} {xs ys : List Value} {f8 f17 f20 : Bool} {W W' : World}
theorem Inv16.grow (H : Inv16 h bp blank v av k s s2 dv xs ys f8 f17 f20 W) (hb : Below W.heap.size W W') : Inv16 h bp blank v av k s s2 dv xs ys f8 f17 f20 W' :=
 ⟨H.hist.grow hb, H.tc.grow hb, H.c2.grow hb, H.c3.grow hb, let ⟨dc, h1, h2, h3⟩ := H.past; ⟨dc, h1.grow hb, h2, fun e => own_grow (h3 e) hb⟩, fun e => own_grow (H.own e) hb, H.hb⟩
theorem Blk.kept {w w' : World} {b : Nat} {c : Array Value} {t : TypeId} (h : Blk w b c t) (hb : w'.heap[b]? = w.heap[b]?) : Blk w' b c t := hb.trans h
theorem Inv16.app (H : Inv16 h bp blank v av k s s2 dv xs ys false false f20 W) (hg : W.grownBy W' dv.ownBlock) : Inv16 h bp blank v av k s s2 dv xs ys true false f20 W' := by
 have hlt := (H.own rfl).lt
 have hb := H.hb
 have kp : ∀ j, j ≤ bp → j < W.heap.size → W'.heap[j]? = W.heap[j]? := fun j h1 h2 => hg.block j h2 (fun e => by have := hlt j e.symm; omega)
 obtain ⟨dc, p1, p2, p3⟩ := H.past
 exact ⟨H.hist.kept (kp _ (by omega) H.hist.lt), H.tc.kept (kp _ (by omega) H.tc.lt), H.c2.kept (kp _ (by omega) H.c2.lt), H.c3.kept (kp _ (by omega) H.c3.lt), ⟨dc, p1.kept (kp _ (Nat.le_refl _) p1.lt), p2, fun e => (by cases e)⟩, fun e => (by cases e), hb⟩
theorem own_row {w : World} {base bp : Nat} {e : TypeId} {size : Nat} {u : Value} {n : Nat} {zs : List Value} (hu : w.ownsRow base e size u n zs) (hb : bp < base) (c : Array Value) : (w.setRow bp c).ownsRow base e size u n zs :=
  hu.kept (row := some bp) ⟨rfl, rfl, rfl, by rw [setRow_size]; exact Nat.le_refl _, fun j _ hj => setRow_other w bp j c (fun e => hj (by rw [e]))⟩ (by
     cases e : u.ownBlock with
     | none => exact .inl rfl
     | some g => refine .inr fun hg => ?_; cases hg; have := (hu.lt _ e).1; omega)
theorem Inv16.set17 (H : Inv16 h bp blank v av k s s2 dv xs ys true f17 false W) {u : Value} (hu : W.ownsRow (bp + 1) 122 1 u (k + 1) ys) : Inv16 h bp blank v av k s s2 dv xs ys true true false (W.setRow bp (pastC blank v av u s.1 s.2)) := by
 have hb := H.hb
 obtain ⟨dc, p1, p2, p3⟩ := H.past
 exact ⟨H.hist.rowO _ (by omega), H.tc.rowO _ (by omega), H.c2.rowO _ (by omega), H.c3.rowO _ (by omega), ⟨u, p1.rowS _, fun e => (by cases e), fun _ => own_row hu (by omega) _⟩, fun e => (by cases e), hb⟩
theorem Inv16.set20 (H : Inv16 h bp blank v av k s s2 dv xs ys true true f20 W) {dc : Value} (hd : Blk W bp (pastC blank v av dc (bif f20 then s2.1 else s.1) (bif f20 then s2.2 else s.2)) 113) (hu : W.ownsRow (bp + 1) 122 1 dc (k + 1) ys) : Inv16 h bp blank v av k s s2 dv xs ys true true true (W.setRow bp (pastC blank v av dc s2.1 s2.2)) := by
 have hb := H.hb
 exact ⟨H.hist.rowO _ (by omega), H.tc.rowO _ (by omega), H.c2.rowO _ (by omega), H.c3.rowO _ (by omega), ⟨dc, hd.rowS _, fun e => (by cases e), fun _ => own_row hu (by omega) _⟩, fun e => (by cases e), hb⟩
end
/-- a slice of one element of one's own, apart from the deeds' row -/
@[irreducible] def New1 (bp : Nat) (dv d : Value) (v : Value) (W : World) : Prop := W.ownsRow (bp + 1) 122 1 v 1 [d] ∧ v.ownBlock ≠ dv.ownBlock ∧ ∃ g, v = .slice (some ⟨g, 0, none⟩) 1 1
@[irreducible] def OwnK (bp k : Nat) (ys : List Value) (v : Value) (W : World) : Prop := W.ownsRow (bp + 1) 122 1 v (k + 1) ys
theorem OwnK.stable {h bp k : Nat} {dv : Value} {ys : List Value} (v : Value) (W W' : World) (H : OwnK bp k ys v W) (r : RB h bp k dv ys W W') : OwnK bp k ys v W' := by
 unfold OwnK at *; exact r.own v H
theorem New1.stable {h bp k : Nat} {dv d : Value} {ys : List Value} (v : Value) (W W' : World) (H : New1 bp dv d v W) (r : RB h bp k dv ys W W') : New1 bp dv d v W' := by
 unfold New1 at *
 obtain ⟨h1, h2, g, rfl⟩ := H
 refine ⟨⟨h1.1, ?_⟩, h2, g, rfl⟩
 rcases h1.2 with ⟨h, _⟩ | ⟨g', cap, cur, e, hb, hg, rest⟩
 ·simp at h
 ·have e' : g = g' ∧ 1 = cap := by simpa using e
  refine .inr ⟨g', cap, cur, e, hb, ?_, rest⟩
  rw [r.kept g' (Array.getElem?_eq_some_iff.1 hg).1 (by omega) (by rw [← e'.1]; exact h2)]
  exact hg
theorem New1.fresh {bp : Nat} {dv d : Value} {W : World} (hlt : ∀ g, dv.ownBlock = some g → g < W.heap.size) (hb : bp + 1 ≤ W.heap.size) : New1 bp dv d (.slice (some ⟨W.heap.size, 0, none⟩) 1 1) (W.alloc (.cells #[d] 122)) := by
 unfold New1
 refine ⟨World.ownsRow_lit W #[d] 1 hb (by unfold maxLen; omega) rfl, fun e => ?_, _, rfl⟩
 have := hlt W.heap.size e.symm
 omega
/-- the deed appended -/
theorem append_deed {h bp k : Nat} {dv d v7 : Value} {xs : List Value} {W : World} (hown : W.ownsRow (bp + 1) 122 1 dv k xs) (hn : New1 bp dv d v7 W) (hk : k ≤ 60) (hbp : bp < W.heap.size) (hh : h ≤ bp) (hd : d.oneCell' = true) :
  ∃ v' w', (Builtin.append_ #[111, 111] 111 #[dv, v7]).run Tryz.prog W = .ok v' w' ∧ OwnK bp k (xs ++ [d]) v' w' ∧ W.grownBy w' dv.ownBlock ∧ RB h bp k dv (xs ++ [d]) W w' := by
 unfold New1 at hn
 obtain ⟨h1, h2, g, rfl⟩ := hn
 obtain ⟨i0, hi, hz0, hz1, hz2⟩ := info_parts info122
 obtain ⟨v', w', hr, ho, hg, hu⟩ := run_append_keep W (bp + 1) 111 111 122 i0 .nilIface 1 16 Tryz.underlying111 hi hz0 hz1 hz2 rfl (by decide) dv k xs hown ⟨g, 0, none⟩ 1 1 [d] rfl (h1.cells rfl) (fun u hu => by simp at hu; subst hu; exact hd) (by unfold maxLen; omega) (by omega) (by omega)
 refine ⟨v', w', hr, by unfold OwnK; exact ho, hg, RB.app hh (fun g hg => (hown.lt g hg).1) hg hu hbp⟩
theorem stepI_append {P : Program} {ops : Array Oper} {R : World → World → Prop} {J : World → Prop} {o : Oper} {a : Act} {φ : Value → World → Prop} {W w' : World} {x y : Operand} {t : TypeId} {v v7 v' : Value}
  (hgd : o.guard = none) (ho : o.op = .call { callee := .builtin .append, args := #[x, y], argTypes := #[t, t] }) (hs : a.eval x = v) (hx : a.eval y = v7)
  (hr : (Builtin.append_ #[t, t] o.type #[v, v7]).run P W = .ok v' w') (h : R W w' ∧ J w' ∧ φ v' w') : stepI P ops R J o a φ W := by
 unfold stepI
 have hw : Region.wanted o (yielded ops a.tmps) = true := by unfold Region.wanted; rw [hgd]
 rw [if_pos hw]
 unfold execOp
 simp only [ho, resolve, invoke, builtin, Sem.run_bind, Sem.run_pure, Result.andThen_ok, List.map_toArray, List.map_cons, List.map_nil, hs, hx, hr]
 exact h
theorem own_shape {w : World} {base : Nat} {e : TypeId} {size : Nat} {v : Value} {n : Nat} {xs : List Value} (h : w.ownsRow base e size v n xs) : ∃ p m c, v = .slice p m c := by
 rcases h.2 with ⟨rfl, _⟩ | ⟨g, cap, cur, rfl, _⟩
 ·exact ⟨_, _, _, rfl⟩
 ·exact ⟨_, _, _, rfl⟩
end Go.Proofs.YtccnkebkgegohaaGreatDoor
end
section
namespace Go.Proofs.YtccnkebkgegohaaGreatDoor
open Go.RowKit Go.Rel
set_option maxRecDepth 100000
set_option maxHeartbeats 8000000 in
theorem begun_main (blank : Sol) (v av : Value) (l : List Sol) (acts : List Ac) (w : World) (Hv : SlS w v l) (Hav : SlA w av acts) (hz : chkPat blank l = 0) (h8 : l.length ≤ 8) (hn : acts.length ≤ 60) (res : (Nat × Int) ⊕ Stn) (hres : runM l 0 (blank, 0) acts = res) :
  Calls Tryz.prog 89 #[.agg #[.int .u64 (pl blank 0), .int .u64 (pl blank 1), .int .u64 (pl blank 2), .int .u64 (pl blank 3), .int .u64 (pl blank 4), .int .u64 (pl blank 5), .int .u64 (pl blank 6), .int .u64 (pl blank 7), v, av]] w (BegunP w blank v av l acts res) := by
 have H34 := Lib.hid fun w' (hb : Below w.heap.size w w') => CheckPattern_spec blank v l w' (Hv.mono hb)
 rw [hz] at H34
 have H99 := Lib.hid fun (a : Ac) w' (hb : Below w.heap.size w w') => made_spec blank v l a w' (Hv.mono hb) h8
 obtain ⟨a, c, rfl, hcn, hcm, hcells⟩ := Hav
 rw [List.length_map] at *
 have hcells' : ∃ b off, 0 < acts.length → a = some ⟨b, off, none⟩ ∧ Cells w b off 10 (acts.map acL) := by
  rcases hcells with h | ⟨b, off, h⟩
  ·exact ⟨0, 0, fun hp => by have := congrArg List.length h; simp at this; rw [this] at hp; simp at hp⟩
  ·exact ⟨b, off, fun _ => h⟩
 clear hcells
 obtain ⟨ab, aoff, hcells⟩ := hcells'
 have HC := Lib.hid hcells; clear hcells
 generalize hlen : acts.length = n at *
 have HL := Lib.hid hlen; clear hlen
 have HR := Lib.hid hres; clear hres
 clear Hv hz
 go_enter_defers Tryz.func89, Tryz.ntmps89
 go_wp2_with fail
 refine (H34.out _ bel_by).mono ?_
 rintro e w1 ⟨rfl, hb⟩
 have b0 : Blk w1 w.heap.size #[.int .u64 (pl blank 0), .int .u64 (pl blank 1), .int .u64 (pl blank 2), .int .u64 (pl blank 3), .int .u64 (pl blank 4), .int .u64 (pl blank 5), .int .u64 (pl blank 6), .int .u64 (pl blank 7), v, .slice a n c] 30 := Blk.grow blk_by hb
 have b1 : Blk w1 (w.heap.size + 1) #[.pointer none] 101 := Blk.grow blk_by hb
 have b2 : Blk w1 (w.heap.size + 1 + 1) #[.int .i64 0] 3 := Blk.grow blk_by hb
 have b3 : Blk w1 (w.heap.size + 1 + 1 + 1) #[.int .i64 0] 33 := Blk.grow blk_by hb
 have r1 := b1.row
 have hs := hb.size
 simp only [World.size_alloc] at hs
 have c0 : ∀ i, w1.cell? ⟨w.heap.size, i, none⟩ = (#[.int .u64 (pl blank 0), .int .u64 (pl blank 1), .int .u64 (pl blank 2), .int .u64 (pl blank 3), .int .u64 (pl blank 4), .int .u64 (pl blank 5), .int .u64 (pl blank 6), .int .u64 (pl blank 7), v, .slice a n c] : Array Value)[i]? := b0.cell
 rw [← b1.rw]
 have gww10 : w.heap.size < w1.heap.size := by omega
 have gww11 : w.heap.size + 1 < w1.heap.size := by omega
 have gww12 : w.heap.size + 1 + 1 < w1.heap.size := by omega
 have gww13 : w.heap.size + 1 + 1 + 1 < w1.heap.size := by omega
 have hmf' := hmf
 have hbel : Below w.heap.size w w1 := bel_trans bel_by hb
 clear hb
 have hI : InvB w w.heap.size w1.heap.size blank v (.slice a n c) l acts 0 (blank, 0) (.slice none 0 0) ((w1.setRow (w.heap.size + 1) #[.pointer (some ⟨w1.heap.size, 0, none⟩)]).alloc (.cells (pastC blank v (.slice a n c) (.slice none 0 0) blank 0) 113)) :=
  ⟨(b0.rowO _ (by omega)).alloc _, (b1.rowS _).alloc _, (b2.rowO _ (by omega)).alloc _, (b3.rowO _ (by omega)).alloc _, Blk.at _ _ (by rw [setRow_size]), (by simpa using World.ownsRow_nil _ _ _ _), bel_alloc (bel_row hbel (by omega) _) _, by omega⟩
 have HI := Lib.hid hI; clear hI
 clear b0 b1 b2 b3
 go_wp2_with fail
 clear r1 hs c0 gww10 gww11 gww12 gww13 hbel
 generalize w1.heap.size = bp at *
 go_loopw [34] (fun i wr => ∃ k : Nat, ∃ s dv, k ≤ n ∧ i = .int .i64 k ∧ runM l k s (acts.drop k) = res ∧ InvB w w.heap.size bp blank v (.slice a n c) l acts k s dv wr) (fun i _ => n - (intOf i).toNat)
 case atStart => exact ⟨0, (blank, 0), .slice none 0 0, Nat.zero_le _, rfl, HR.out, HI.out⟩
 case round =>
  obtain ⟨k, s, dv, hk, rfl, hrun, hinv⟩ := hrel
  have HINV := Lib.hid hinv; clear hinv
  have HRUN := Lib.hid hrun; clear hrun HR HI
  by_cases hlt : k < n
  ·have hx : acts[k]? = some (acts[k]'(by rw [HL.out]; exact hlt)) := by simp
   generalize acts[k]'(by rw [HL.out]; exact hlt) = x at hx
   have HX := Lib.hid hx; clear hx
   have ha := (HC.out (by omega)).1
   have hcs := ac_cells ((HC.out (by omega)).2.mono HINV.out.bel ((HC.out (by omega)).2).1) HX.out
   subst ha
   have c0 := hcs.1
   have c1 := hcs.2.1
   have c2 := hcs.2.2.1
   have c3 := hcs.2.2.2.1
   have c4 := hcs.2.2.2.2.1
   have c5 := hcs.2.2.2.2.2.1
   have c6 := hcs.2.2.2.2.2.2.1
   have c7 := hcs.2.2.2.2.2.2.2.1
   have c8 := hcs.2.2.2.2.2.2.2.2.1
   have c9 := hcs.2.2.2.2.2.2.2.2.2
   clear hcs
   have ch := HINV.out.hist.cell
   have lh := HINV.out.hist.lt
   go_wp2_with fail
   refine (H99.out x _ (bel_alloc HINV.out.bel _)).mono ?_
   rintro e w2 ⟨rfl, hb2⟩
   have hI2 := Lib.hid (HINV.out.grow (bel_trans (bel_alloc (bel_refl wr) _) hb2))
   clear c0 c1 c2 c3 c4 c5 c6 c7 c8 c9 ch lh
   have lh := hI2.out.hist.lt
   clear hb2
   by_cases hf : fits l.length x = true
   ·refine Veil.out ?_
    obtain ⟨t, y, f, yy, hd, hA, hM, hE, hC⟩ := refused_of (made l x) s
    refine Veil.on ?_
    rw [if_pos hf, hd]
    have hnn := not_nil t y
    generalize hRR : refM (made l x) s = R at hC
    have HRR := Lib.hid hRR; clear hRR
    have ct := hI2.out.tc.cell
    have cp := hI2.out.past.cell
    have lt := hI2.out.tc.lt
    have lp := hI2.out.past.lt
    go_wp2_with fail
    refine wp_region_grow 11 [Is (.func (.func 143) #[] #[]), Is (.int .i64 k), Is (.iface t y), Is (.pointer (some ⟨bp, 0, none⟩)), Is (.pointer (some ⟨bp, 0, none⟩)), Is (.pointer (some ⟨bp, 11, none⟩)), Is (.agg #[.int .u64 (pl s.1 0), .int .u64 (pl s.1 1), .int .u64 (pl s.1 2), .int .u64 (pl s.1 3), .int .u64 (pl s.1 4), .int .u64 (pl s.1 5), .int .u64 (pl s.1 6), .int .u64 (pl s.1 7), .int .u8 s.2]), Is (.func (.method "strickle/trace.refused") #[.iface t y] #[]), Is (.func (.method "strickle/trace.refused") #[.iface t y] #[]), Is (.iface t y), Is (.int .i64 R)] (by kernel_rfl) (by kernel_rfl) rfl ⟨fun _ _ _ h _ => h, fun _ _ _ h _ => h, fun _ _ _ h _ => h, fun _ _ _ h _ => h, fun _ _ _ h _ => h, fun _ _ _ h _ => h, fun _ _ _ h _ => h, fun _ _ _ h _ => h, fun _ _ _ h _ => h, fun _ _ _ h _ => h, fun _ _ _ h _ => h, trivial⟩ ?_
    simp only [List.take_succ_cons, List.take_zero, List.drop_succ_cons, List.drop_zero]
    iterate 8 (refine rel_cons ?_ (fun _ => ?_); · intro w1 hb hF; have hc := (Grows.cells hb).1; have hf := (Grows.cells hb).2; (try simp [facts, Is] at hF); go_simp; exact Grows.refl _)
    refine rel_cons ?_ (fun v8 => ?_)
    ·intro w1 hb hF; have hc := (Grows.cells hb).1; have hf := (Grows.cells hb).2; try simp [facts, Is] at hF
     go_simp
     exact Grows.refl _
    refine rel_cons ?_ (fun v9 => ?_)
    ·intro w1 hb hF; have hc := (Grows.cells hb).1; have hf := (Grows.cells hb).2; try simp [facts, Is] at hF
     go_simp
     exact Grows.refl _
    refine rel_cons ?_ (fun v10 => ?_)
    ·intro w1 hb hF; have hc := (Grows.cells hb).1; have hf := (Grows.cells hb).2; try simp [facts, Is] at hF
     go_simp
     refine (hC.out _).mono ?_
     rintro e w4 ⟨rfl, hb4⟩
     exact ⟨rfl, hb4⟩
    refine rel_nil ?_
    intro w1 hb hF
    simp [Is, Nat.forall_lt_succ_right] at hF
    simp only [Act.put, List.setIfInBounds_toArray, List.set_cons_succ, List.set_cons_zero, hF]
    clear hF
    have hI3 := hI2.out.grow hb
    clear hb ct cp lt lp
    by_cases hR0 : R = 0
    ·subst hR0
     go_wp2_with fail
     refine (check_ok k w1).mono ?_
     rintro e w9 ⟨rfl, rfl⟩
     have HN : Hid (nextM l s x = .inr (doneM (made l x) s)) := by
      show _ = _
      unfold nextM
      rw [if_pos hf, if_pos HRR.out]
     have HD := Lib.hid fun w' => done_spec (made l x) s w' (by have := fits_kind hf; show x.1 = 1 ∨ x.1 = 2 ∨ x.1 = 3; omega)
     rw [hd] at HD
     generalize doneM (made l x) s = s2 at HN HD
     have hown3 := hI3.own
     generalize hxs : deedCs l (acts.take k) = xs at hown3
     have HXS := Lib.hid hxs; clear hxs
     have HJ : Hid (Inv16 w.heap.size bp blank v (.slice (some ⟨ab, aoff, none⟩) n c) k s s2 dv xs (xs ++ [.iface t y]) false false false w9) :=
      ⟨hI3.hist, hI3.tc, hI3.c2, hI3.c3, ⟨dv, hI3.past, fun _ => rfl, fun e => (by cases e)⟩, fun _ => hown3, hI3.hb⟩
     have lh3 := hI3.hist.lt
     have HBEL := Lib.hid hI3.bel
     clear hI3
     go_wp2_with fail
     refine wp_region_inv (RB w.heap.size bp k dv (xs ++ [.iface t y])) (fun L => Inv16 w.heap.size bp blank v (.slice (some ⟨ab, aoff, none⟩) n c) k s s2 dv xs (xs ++ [.iface t y]) (L 8) (L 17) (L 20)) [Is (.pointer (some ⟨bp, 0, none⟩)), Is (.pointer (some ⟨bp, 0, none⟩)), Is (.pointer (some ⟨bp, 0, none⟩)), Is (.pointer (some ⟨bp, 0, none⟩)), Is (.pointer (some ⟨bp, 10, none⟩)), Is dv, Is (.iface t y), New1 bp dv (.iface t y), OwnK bp k (xs ++ [.iface t y]), Is (.pointer (some ⟨bp, 0, none⟩)), Is (.pointer (some ⟨bp, 0, none⟩)), Is (.pointer (some ⟨bp, 11, none⟩)), Is (.agg #[.int .u64 (pl s.1 0), .int .u64 (pl s.1 1), .int .u64 (pl s.1 2), .int .u64 (pl s.1 3), .int .u64 (pl s.1 4), .int .u64 (pl s.1 5), .int .u64 (pl s.1 6), .int .u64 (pl s.1 7), .int .u8 s.2]), Is (.iface t y), Is (.agg #[.int .u64 (pl s2.1 0), .int .u64 (pl s2.1 1), .int .u64 (pl s2.1 2), .int .u64 (pl s2.1 3), .int .u64 (pl s2.1 4), .int .u64 (pl s2.1 5), .int .u64 (pl s2.1 6), .int .u64 (pl s2.1 7), .int .u8 s2.2]), Is (.pointer (some ⟨bp, 0, none⟩)), Is (.pointer (some ⟨bp, 10, none⟩)), Is undef, Is (.pointer (some ⟨bp, 0, none⟩)), Is (.pointer (some ⟨bp, 11, none⟩)), Is undef] (by kernel_rfl) (by kernel_rfl) rfl RB.refl (fun _ _ _ => RB.trans) (stable_mem ⟨fun _ _ _ h _ => h, fun _ _ _ h _ => h, fun _ _ _ h _ => h, fun _ _ _ h _ => h, fun _ _ _ h _ => h, fun _ _ _ h _ => h, fun _ _ _ h _ => h, New1.stable, OwnK.stable, fun _ _ _ h _ => h, fun _ _ _ h _ => h, fun _ _ _ h _ => h, fun _ _ _ h _ => h, fun _ _ _ h _ => h, fun _ _ _ h _ => h, fun _ _ _ h _ => h, fun _ _ _ h _ => h, fun _ _ _ h _ => h, fun _ _ _ h _ => h, fun _ _ _ h _ => h, fun _ _ _ h _ => h, trivial⟩) w9 (RB.grow (by omega) (Below.refl _ _).drew) (HJ.out.grow (Below.refl _ _).drew) ?_
     refine inv_cons ?_ (fun v0 => ?_)
     ·intro L w1 hat hb hI hF; try simp [factsI, Region.binds, Is] at hF
      have c0 := hI.tc.cell
      go_simp
      exact RB.refl _
     refine inv_cons ?_ (fun v1 => ?_)
     ·intro L w1 hat hb hI hF; try simp [factsI, Region.binds, Is] at hF
      have c0 := hI.tc.cell
      go_simp
      exact RB.refl _
     refine inv_cons ?_ (fun v2 => ?_)
     ·intro L w1 hat hb hI hF; try simp [factsI, Region.binds, Is] at hF
      have c0 := hI.tc.cell
      go_simp
      exact RB.refl _
     iterate 2 (refine inv_cons ?_ (fun _ => ?_); · intro L w1 hat hb hI hF; (try simp [factsI, Region.binds, Is] at hF); go_simp; exact RB.refl _)
     refine inv_cons ?_ (fun v5 => ?_)
     ·intro L w1 hat hb hI hF; try simp [factsI, Region.binds, Is] at hF
      have h17 : L 17 = false := hat.later 22 17 (by kernel_rfl)
      rw [h17] at hI
      have hp := hI.past
      refine Exists.elim hp (fun dc hdc => ?_)
      have hdc2 := hdc.2.1 rfl
      subst hdc2
      have c0 := hdc.1.cell
      clear hdc hp
      go_simp
      exact RB.refl _
     refine inv_cons ?_ (fun v6 => ?_)
     ·intro L w1 hat hb hI hF; try simp [factsI, Region.binds, Is] at hF
      go_simp
      exact RB.refl _
     refine inv_cons ?_ (fun v7 => ?_)
     ·intro L w1 hat hb hI hF; try simp [factsI, Region.binds, Is] at hF
      have h8' : L 8 = false := hat.later 22 8 (by kernel_rfl)
      rw [h8'] at hI
      have hnew := New1.fresh (d := .iface t y) (fun g hg => ((hI.own rfl).lt g hg).2) (show bp + 1 ≤ w1.heap.size from by have := hI.past; exact Exists.elim this (fun dc h => h.1.lt))
      have hr : RB w.heap.size bp k dv (xs ++ [.iface t y]) w1 (w1.alloc (.cells #[.iface t y] 122)) := RB.grow (by have := hI.hist.lt; omega) (bel_alloc (bel_refl _) _)
      have hJ := hI.grow (bel_alloc (bel_refl w1) (.cells #[.iface t y] 122))
      have HJ := Lib.hid (And.intro hr (And.intro hJ hnew)); clear hr hJ hnew hI
      go_simp
      exact HJ.out
     refine inv_cons ?_ (fun v8 => ?_)
     ·intro L w1 hat hb hI hF; try simp [factsI, Region.binds, Is] at hF
      have h8' : L 8 = false := hat.self
      have h17 : L 17 = false := hat.later 22 17 (by kernel_rfl)
      rw [h8', h17] at hI
      have happ := append_deed (h := w.heap.size) (hI.own rfl) hF.2 (by omega) (Exists.elim hI.past (fun dc h => h.1.lt)) (by have := hI.hb; omega) (by rfl)
      refine Exists.elim happ (fun v8 h => Exists.elim h (fun w9 h => ?_))
      have hr := h.1
      exact stepI_append rfl rfl (by simpa [Act.eval, Act.put] using hF.1) (by simp [Act.eval, Act.put]) hr ⟨h.2.2.2, by simpa [h17] using hI.app h.2.2.1, h.2.1⟩
     refine inv_cons ?_ (fun v9 => ?_)
     ·intro L w1 hat hb hI hF; try simp [factsI, Region.binds, Is] at hF
      have c0 := hI.tc.cell
      go_simp
      exact RB.refl _
     iterate 2 (refine inv_cons ?_ (fun _ => ?_); · intro L w1 hat hb hI hF; (try simp [factsI, Region.binds, Is] at hF); go_simp; exact RB.refl _)
     refine inv_cons ?_ (fun v12 => ?_)
     ·intro L w1 hat hb hI hF; try simp [factsI, Region.binds, Is] at hF
      have h20 : L 20 = false := hat.later 22 20 (by kernel_rfl)
      rw [h20] at hI
      have hp := hI.past
      refine Exists.elim hp (fun dc hdc => ?_)
      have c0 := hdc.1.cell
      clear hdc hp
      go_simp
      exact RB.refl _
     refine inv_cons ?_ (fun v13 => ?_)
     ·intro L w1 hat hb hI hF; try simp [factsI, Region.binds, Is] at hF
      go_simp
      exact RB.refl _
     refine inv_cons ?_ (fun v14 => ?_)
     ·intro L w1 hat hb hI hF; try simp [factsI, Region.binds, Is] at hF
      have HI := Lib.hid hI; clear hI
      go_simp
      refine (HD.out _).mono ?_
      rintro e w5 ⟨rfl, hb5⟩
      exact ⟨_, rfl, RB.grow (Nat.le_of_lt HI.out.hist.lt) hb5, HI.out.grow hb5, rfl⟩
     iterate 2 (refine inv_cons ?_ (fun _ => ?_); · intro L w1 hat hb hI hF; (try simp [factsI, Region.binds, Is] at hF); go_simp; exact RB.refl _)
     refine inv_cons ?_ (fun v17 => ?_)
     ·intro L w1 hat hb hI hF; try simp [factsI, Region.binds, Is] at hF
      have h20 : L 20 = false := hat.later 22 20 (by kernel_rfl)
      have h8' : L 8 = true := hat.ahead 22 8 (by kernel_rfl)
      rw [h20, h8'] at hI
      have hp := hI.past
      refine Exists.elim hp (fun dc hdc => ?_)
      have hown := hF.2.1
      unfold OwnK at hown
      refine Exists.elim (own_shape hown) (fun p h => Exists.elim h (fun nn h => Exists.elim h (fun cc hv => ?_)))
      subst hv
      have hJ := hI.set17 hown
      have hb := hI.hb
      have hrows := RB.rows (h := w.heap.size) (k := k) (dv := dv) (ys := xs ++ [.iface t y]) (W := w1) (bp := bp) (by omega) (pastC blank v (.slice (some ⟨ab, aoff, none⟩) n c) dc s.1 s.2) (pastC blank v (.slice (some ⟨ab, aoff, none⟩) n c) (.slice p nn cc) s.1 s.2)
      have r0 := hdc.1.row
      rw [← hdc.1.rw]
      have HJ := Lib.hid (And.intro hrows hJ); clear hrows hJ hp hdc hI hown
      go_simp
      exact HJ.out
     iterate 2 (refine inv_cons ?_ (fun _ => ?_); · intro L w1 hat hb hI hF; (try simp [factsI, Region.binds, Is] at hF); go_simp; exact RB.refl _)
     refine inv_cons ?_ (fun v20 => ?_)
     ·intro L w1 hat hb hI hF; try simp [factsI, Region.binds, Is] at hF
      have h8' : L 8 = true := hat.ahead 22 8 (by kernel_rfl)
      have h17 : L 17 = true := hat.ahead 22 17 (by kernel_rfl)
      rw [h17, h8'] at hI
      have hp := hI.past
      refine Exists.elim hp (fun dc hdc => ?_)
      have hJ := hI.set20 hdc.1 (hdc.2.2 rfl)
      have hb := hI.hb
      have hrows := RB.rows (h := w.heap.size) (k := k) (dv := dv) (ys := xs ++ [.iface t y]) (W := w1) (bp := bp) (by omega) (pastC blank v (.slice (some ⟨ab, aoff, none⟩) n c) dc (bif L 20 then s2.1 else s.1) (bif L 20 then s2.2 else s.2)) (pastC blank v (.slice (some ⟨ab, aoff, none⟩) n c) dc s2.1 s2.2)
      have r0 := hdc.1.row
      rw [← hdc.1.rw]
      have HJ := Lib.hid (And.intro hrows hJ); clear hrows hJ hp hdc hI
      go_simp
      exact HJ.out
     refine inv_nil ?_
     intro w1 hb hI hF
     simp [Is, Nat.forall_lt_succ_right] at hF
     have e0 := hF.1.1.1.1.1.1.1.1.1.1.1.1.1.1.1.1.1.1.1.1
     have e1 := hF.1.1.1.1.1.1.1.1.1.1.1.1.1.1.1.1.1.1.1.2
     have e2 := hF.1.1.1.1.1.1.1.1.1.1.1.1.1.1.1.1.1.1.2
     have e3 := hF.1.1.1.1.1.1.1.1.1.1.1.1.1.1.1.1.1.2
     have e4 := hF.1.1.1.1.1.1.1.1.1.1.1.1.1.1.1.1.2
     have e5 := hF.1.1.1.1.1.1.1.1.1.1.1.1.1.1.1.2
     have e6 := hF.1.1.1.1.1.1.1.1.1.1.1.1.1.1.2
     have e7 := hF.1.1.1.1.1.1.1.1.1.1.1.1.1.2
     have e8 := hF.1.1.1.1.1.1.1.1.1.1.1.1.2
     have e9 := hF.1.1.1.1.1.1.1.1.1.1.1.2
     have e10 := hF.1.1.1.1.1.1.1.1.1.1.2
     have e11 := hF.1.1.1.1.1.1.1.1.1.2
     have e12 := hF.1.1.1.1.1.1.1.1.2
     have e13 := hF.1.1.1.1.1.1.1.2
     have e14 := hF.1.1.1.1.1.1.2
     have e15 := hF.1.1.1.1.1.2
     have e16 := hF.1.1.1.1.2
     have e17 := hF.1.1.1.2
     have e18 := hF.1.1.2
     have e19 := hF.1.2
     have e20 := hF.2
     clear hF
     simp only [Act.put, List.setIfInBounds_toArray, List.set_cons_succ, List.set_cons_zero, e0, e1, e2, e3, e4, e5, e6, e9, e10, e11, e12, e13, e14, e15, e16, e17, e18, e19, e20]
     clear e0 e1 e2 e3 e4 e5 e6 e9 e10 e11 e12 e13 e14 e15 e16 e17 e18 e19 e20
     have hrun2 : runM l (k + 1) s2 (acts.drop (k + 1)) = res := by
      rw [← HRUN.out, runM_get HX.out, HN.out]
     have hcs : deedCs l (acts.take (k + 1)) = xs ++ [.iface t y] := by
      rw [← HXS.out, ← hd]
      unfold deedCs
      rw [List.take_add_one, HX.out]; simp
     refine Veil.out ?_
     obtain ⟨dc, p1, _, p3⟩ := hI.past
     refine Veil.on ?_
     have hnew : InvB w w.heap.size bp blank v (.slice (some ⟨ab, aoff, none⟩) n c) l acts (k + 1) s2 dc w1 :=
      ⟨hI.hist, hI.tc, hI.c2, hI.c3, p1, by rw [hcs]; exact p3 rfl, HBEL.out.trans hb.bel, hI.hb⟩
     have HNEW := Lib.hid (And.intro hrun2 hnew)
     clear hnew hrun2 hcs hI p1 p3 hb
     go_wp2_with fail
     go_roundw
     case rel => exact ⟨k + 1, s2, dc, by omega, by go_num, HNEW.out.1, HNEW.out.2⟩
     case measure => simp [intOf]; omega
    ·have HRES : Hid (res = .inl (k, R)) := by
      show _ = _
      rw [← HRUN.out, runM_get HX.out]
      simp [nextM, hf, HRR.out, hR0]
     go_wp2_with fail
     refine (check_bad k R (by simpa [bne] using hR0) _).mono ?_
     rintro e w9 ⟨rfl, rfl⟩
     go_wp2_with fail
     refine leaves_cons (f := 142) (args := #[.pointer (some ⟨w.heap.size + 1, 0, none⟩), .pointer (some ⟨w.heap.size + 1 + 1, 0, none⟩), .pointer (some ⟨w.heap.size + 1 + 1 + 1, 0, none⟩)]) (by simp) (by simp [go_sem]) ?_
     refine (catch_halt _ _ _ w.heap.size k _ [] _ (.pointer (some ⟨bp, 0, none⟩)) (.int .i64 0) (.int .i64 0) (hI3.tc.cell 0) (hI3.c2.cell 0) (hI3.c3.cell 0) (hI3.tc.free 0) (hI3.c2.free 0) (hI3.c3.free 0) (by omega) (by omega) (by omega) (by omega) (by omega) (by omega) hI3.tc.lt hI3.c2.lt hI3.c3.lt).mono ?_
     rintro e u' w4 ⟨rfl, rfl, hA, hB, hC, hbel⟩
     simp [Leaves, settle, results, Tryz.results89, go_sem, hA, hB, hC]
     refine ⟨hI3.bel.trans hbel, ?_⟩
     rw [HRES.out]
   ·rw [if_neg hf]
    have hnn := is_nil
    have HRES : Hid (res = .inl (k, 1)) := by
     show _ = _
     rw [← HRUN.out, runM_get HX.out]
     simp [nextM, hf]
    go_wp2_with fail
    refine (check_bad k 1 (by decide) _).mono ?_
    rintro e w3 ⟨rfl, rfl⟩
    go_wp2_with fail
    have hI3 := hI2.out
    refine leaves_cons (f := 142) (args := #[.pointer (some ⟨w.heap.size + 1, 0, none⟩), .pointer (some ⟨w.heap.size + 1 + 1, 0, none⟩), .pointer (some ⟨w.heap.size + 1 + 1 + 1, 0, none⟩)]) (by simp) (by simp [go_sem]) ?_
    refine (catch_halt _ _ _ w.heap.size k _ [] _ (.pointer (some ⟨bp, 0, none⟩)) (.int .i64 0) (.int .i64 0) (hI3.tc.cell 0) (hI3.c2.cell 0) (hI3.c3.cell 0) (hI3.tc.free 0) (hI3.c2.free 0) (hI3.c3.free 0) (by omega) (by omega) (by omega) (by omega) (by omega) (by omega) hI3.tc.lt hI3.c2.lt hI3.c3.lt).mono ?_
    rintro e u' w4 ⟨rfl, rfl, hA, hB, hC, hbel⟩
    simp [Leaves, settle, results, Tryz.results89, go_sem, hA, hB, hC]
    refine ⟨hI3.bel.trans hbel, ?_⟩
    rw [HRES.out]
  ·have hkn : k = n := by omega
   subst hkn
   have hres : res = .inr s := by
    rw [← HRUN.out, List.drop_of_length_le (by rw [HL.out]; exact Nat.le_refl _)]; rfl
   have HRES := Lib.hid hres; clear hres
   have hi := HINV.out
   have r1 := hi.tc.row
   have r2 := hi.c2.row
   have r3 := hi.c3.row
   rw [← hi.tc.rw, ← hi.c2.rw, ← hi.c3.rw]
   clear hi
   go_wp2_with fail
   rw [HINV.out.c3.rw, HINV.out.c2.rw, HINV.out.tc.rw]
   refine leaves_cons (f := 142) (args := #[.pointer (some ⟨w.heap.size + 1, 0, none⟩), .pointer (some ⟨w.heap.size + 1 + 1, 0, none⟩), .pointer (some ⟨w.heap.size + 1 + 1 + 1, 0, none⟩)]) (by simp) (by simp [go_sem]) ?_
   refine (catch_idle _ _ _ _).mono ?_
   rintro e u' w4 ⟨rfl, rfl, rfl⟩
   simp [Leaves, settle, results, Tryz.results89, go_sem, HINV.out.tc.cell, HINV.out.c2.cell, HINV.out.c3.cell]
   refine ⟨HINV.out.bel, ?_⟩
   rw [HRES.out]
   refine ⟨bp, by have := HINV.out.hb; omega, rfl, ⟨dv, HINV.out.past, ?_⟩⟩
   have := HINV.out.own
   rwa [List.take_of_length_le (by rw [HL.out]; exact Nat.le_refl _), ← HL.out] at this
end Go.Proofs.YtccnkebkgegohaaGreatDoor
end
