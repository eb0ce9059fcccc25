import Derived.Test.YtccnkebkgegohaaGreatDoorHY13a
import Derived.Shelf.SlSortCmp.WholeK
import Derived.Test.YtccnkebkgegohaaGreatDoorProg
/-
  Given contracts of functions of the program, and laws for them, one behind the other.
-/
set_option linter.unusedVariables false
set_option linter.unusedSimpArgs false
set_option linter.unusedSectionVars false
section
namespace Go.Proofs.YtccnkebkgegohaaGreatDoor
open Go.RowKit Go.Rel
set_option maxRecDepth 100000
/-! a list of acts of our own, one act stored in place -/
structure OwnB (W : World) (base : Nat) (m : List Ac) (g cap : Nat) (cur : Array Value) : Prop where
 base : base ≤ g
 blk : Blk W g cur 46
 le : m.length ≤ cap
 lim : cap ≤ maxLen
 size : cur.size = cap * 10
 rows : cur.toList.take (m.length * 10) = (m.map acL).flatten
theorem OwnA.opn {W : World} {base : Nat} {v : Value} {m : List Ac} (h : OwnA W base v m) (h0 : m ≠ []) : ∃ g cap cur, v = .slice (some ⟨g, 0, none⟩) m.length cap ∧ OwnB W base m g cap cur := by
 obtain ⟨_, h | ⟨g, cap, cur, hv, hg, hh, hr⟩⟩ := h
 ·exact absurd (List.eq_nil_of_length_eq_zero h.2) h0
 ·exact ⟨g, cap, cur, hv, hg, hh, hr.1, hr.2.1, hr.2.2.1, hr.2.2.2⟩
theorem acL_len (a : Ac) : (acL a).length = 10 := rfl
@[irreducible] def VBk (base : Nat) (C : Array Value) (t : TypeId) (v : Value) (W : World) : Prop := ∃ g, v = .pointer (some ⟨g, 0, none⟩) ∧ base ≤ g ∧ Blk W g C t
theorem VBk.stab {base : Nat} {C : Array Value} {t : TypeId} (v : Value) (W W' : World) (h : VBk base C t v W) (g : Grows W W') : VBk base C t v W' := by unfold VBk at *; obtain ⟨q, h1, h2, h3⟩ := h; exact ⟨q, h1, h2, h3.grow g⟩
section
variable {W : World} {base g cap : Nat} {m : List Ac} {cur : Array Value}
theorem OwnB.own (h : OwnB W base m g cap cur) : OwnA W base (.slice (some ⟨g, 0, none⟩) m.length cap) m :=
 ⟨flat_len10 acL acL_len m, .inr ⟨g, cap, cur, rfl, h.base, h.blk, h.le, h.lim, h.size, h.rows⟩⟩
theorem OwnB.fit (h : OwnB W base m g cap cur) {i : Nat} (hi : i < m.length) (x : Ac) : i * 10 + (acL x).length ≤ cur.size := by
 rw [h.size, acL_len]
 have := h.le
 omega
theorem OwnB.set (h : OwnB W base m g cap cur) {i : Nat} (hi : i < m.length) (x : Ac) : OwnB (W.setRow g (spl cur (i * 10) (acL x))) base (m.set i x) g cap (spl cur (i * 10) (acL x)) := by
 have hf := h.fit hi x
 have hl : (m.set i x).length = m.length := List.length_set ..
 refine ⟨h.base, h.blk.rowS _, by rw [hl]; exact h.le, h.lim, by rw [spl_size hf]; exact h.size, ?_⟩
 rw [hl]
 exact spl_take acL acL_len hi (by rw [h.size]; have := h.le; omega) h.rows x
end
theorem own_rowT {w : World} {base bp : Nat} {e t : TypeId} {size : Nat} {u : Value} {n : Nat} {zs : List Value} {C : Array Value} (hu : w.ownsRow base e size u n zs) (hb : Blk w bp C t) (hne : t ≠ e) (c : Array Value) : (w.setRow bp c).ownsRow base e size u n zs := by
 obtain ⟨hl, h | ⟨g, cap, cur, hv, hg, hh, hr⟩⟩ := hu
 ·exact ⟨hl, .inl h⟩
 ·refine ⟨hl, .inr ⟨g, cap, cur, hv, hg, (setRow_other w bp g c ?_).trans hh, hr⟩⟩
  rintro rfl
  have h2 : w.heap[g]? = some (.cells C t (0, 0)) := hb
  rw [h2] at hh
  exact hne (by injection hh with hh; injection hh)
theorem own_shapeK {W : World} {base k : Nat} {v : Value} {m : List Ac} (h : OwnA W base v m) (hk : m.length = k) : ∃ p c, v = .slice p k c ∧ k ≤ c ∧ c ≤ 9223372036854775807 := by
 subst hk; exact own_shape' h
theorem OwnB.cells {W : World} {base g cap : Nat} {m : List Ac} {cur : Array Value} (h : OwnB W base m g cap cur) (h0 : m ≠ []) : Cells W g 0 10 (m.map acL) := by
 rcases Sl.cases h.own.sl with ⟨hl, _⟩ | ⟨b, off, c, he, _, _, _, hc⟩
 ·exact absurd (by simpa using hl) h0
 ·injection he with h1 _ _
  injection h1 with h1
  injection h1 with h1 h2 _
  subst h1 h2
  exact hc
end Go.Proofs.YtccnkebkgegohaaGreatDoor
end
section
namespace Go.Proofs.YtccnkebkgegohaaGreatDoor
open Go.RowKit Go.Rel
set_option maxRecDepth 100000
def actE (b : Sol) (l : List Sol) (m : List Ac) (a : Ac) : Int := if (checkR b l m).2 = 0 then (checkR b l (m ++ [a])).2 else (checkR b l m).2
def ActRes (b : Sol) (l : List Sol) (m : List Ac) (a : Ac) (w : World) (e : Ending) (w' : World) : Prop := if actE b l m a = 0 then HRes b l (m ++ [a]) 0 w e w' else HRes 0 [] [] (actE b l m a) w e w'
theorem checkR_ok {b : Sol} {l : List Sol} {m : List Ac} (h : (checkR b l m).2 = 0) : ∃ s, begunM b l m = .inr s := by
 unfold checkR at h
 cases hb : begunM b l m with
 | inr s => exact ⟨s, rfl⟩
 | inl x =>
  rw [hb] at h
  have := begunM_bad hb
  have h' : x.2 = 0 := h
  rw [h'] at this
  cases this
theorem checkR_len {b : Sol} {l : List Sol} {m : List Ac} (h : (checkR b l m).2 = 0) : m.length ≤ 60 := by
 obtain ⟨s, hs⟩ := checkR_ok h
 exact (begunM_good hs).2.1
end Go.Proofs.YtccnkebkgegohaaGreatDoor
end
section
namespace Go.Proofs.YtccnkebkgegohaaGreatDoor
open Go.RowKit Go.Rel
set_option maxRecDepth 100000
/-! Act, of the reference -/
theorem acv_sl {a : Ac} {W : World} {g : Nat} (h : Blk W g #[.int .u8 a.1, .int .i64 a.2.1, .int .u64 (pl a.2.2 0), .int .u64 (pl a.2.2 1), .int .u64 (pl a.2.2 2), .int .u64 (pl a.2.2 3), .int .u64 (pl a.2.2 4), .int .u64 (pl a.2.2 5), .int .u64 (pl a.2.2 6), .int .u64 (pl a.2.2 7)] 46) : SlN W (.slice (some ⟨g, 0, none⟩) 1 1) [a] :=
 ⟨Sl.ofBlk h rfl (by decide) (by simp) (by simp), fun n c e => by cases e⟩
/-- a list of acts appended to a list that has no room -/
theorem app_full {q : Option Addr} {u : Value} {xs ys : List Ac} {W : World} (hx : SlN W (.slice q xs.length xs.length) xs) (hs : SlN W u ys) (hy : ys ≠ []) (hk : xs.length + ys.length ≤ 1048576) :
  ∃ v' w', (Builtin.append_ #[28, 28] 28 #[.slice q xs.length xs.length, u]).run Tryz.prog W = .ok v' w' ∧ OwnA w' W.heap.size v' (xs ++ ys) ∧ Below W.heap.size W w' := by
 obtain ⟨i0, hi, hz0, hz1, hz2⟩ := info_parts info46
 rcases hs.opn with ⟨rfl, h0⟩ | ⟨p, c, rfl, hc⟩
 ·exact absurd h0 hy
 ·have hyl : 0 < ys.length := List.length_pos_iff.2 hy
  rcases hx.opn with ⟨he, h0⟩ | ⟨p', c', he, hc'⟩
  ·subst h0
   have hq : q = none := by simpa using he
   subst hq
   obtain ⟨v', w', hr, ho, hgr, _⟩ := run_append_keep W W.heap.size 28 28 46 i0 (.agg #[.int .u8 0, .int .i64 0, .int .u64 0, .int .u64 0, .int .u64 0, .int .u64 0, .int .u64 0, .int .u64 0, .int .u64 0, .int .u64 0]) 10 80 Tryz.underlying28 hi hz0 hz1 hz2 rfl (by decide) (.slice none 0 0) 0 [] (World.ownsRow_nil _ _ _ _) p ys.length c ((ys.map acL).flatten) (acFlat_len ys) (hc W (Below.refl _ _)) one_ac (by unfold maxLen; omega) (by omega) (Nat.le_refl _)
   refine ⟨v', w', hr, ?_, (Below.refl _ _).grown hgr (Nat.le_refl _) (fun k hk => by cases hk)⟩
   unfold OwnA
   simpa using ho
  ·have hc2 : xs.length = c' := by injection he
   have hq : q = some p' := by injection he
   subst hq
   have hr := run_append_grow (P := Tryz.prog) W 28 28 46 i0 (.agg #[.int .u8 0, .int .i64 0, .int .u64 0, .int .u64 0, .int .u64 0, .int .u64 0, .int .u64 0, .int .u64 0, .int .u64 0, .int .u64 0]) Tryz.underlying28 hi hz0 p' xs.length xs.length ((xs.map acL).flatten) (by rw [acFlat_len, hz1]) (hc' W (Below.refl _ _)) p ys.length c ((ys.map acL).flatten) (by rw [acFlat_len, hz1]) (hc W (Below.refl _ _)) (by omega) (by omega) (growslice_fits (by omega) (by rw [hz2]; omega))
   refine ⟨_, _, hr, ?_, bel_alloc (bel_drew (bel_refl _)) _⟩
   have hlen : ((xs.map acL).flatten ++ (ys.map acL).flatten).length = (xs.length + ys.length) * 10 := by rw [List.length_append, acFlat_len, acFlat_len, Nat.add_mul]
   have hfl : ((xs ++ ys).map acL).flatten = (xs.map acL).flatten ++ (ys.map acL).flatten := by simp
   unfold OwnA
   rw [List.length_append, hfl]
   have hge := grownCap_ge W (xs.length + ys.length) xs.length 46
   refine ⟨hlen, .inr ⟨W.heap.size, _, _, rfl, Nat.le_refl _, heap_alloc_new W.drew _, hge, grownCap_le_maxLen W _ _ _ (by unfold maxLen; omega), ?_, ?_⟩⟩
   ·simp only [Array.size_append, List.size_toArray, size_zeroCells, acFlat_len]
    rw [show (Value.cells (.agg #[.int .u8 0, .int .i64 0, .int .u64 0, .int .u64 0, .int .u64 0, .int .u64 0, .int .u64 0, .int .u64 0, .int .u64 0, .int .u64 0])).size = 10 from rfl]
    omega
   ·simp only [Array.toList_append, List.append_assoc]
    rw [← List.append_assoc, ← hlen]
    exact List.take_left
end Go.Proofs.YtccnkebkgegohaaGreatDoor
end
section
namespace Go.Proofs.YtccnkebkgegohaaGreatDoor
open Go.RowKit Go.Rel
set_option maxRecDepth 100000
/-! Act -/
@[irreducible] def VSNf (xs : List Ac) (v : Value) (W : World) : Prop := ∃ q, v = .slice q xs.length xs.length ∧ SlN W v xs
@[irreducible] def VSA1 (xs : List Ac) (v : Value) (W : World) : Prop := SlA W v xs
@[irreducible] def VS1 (xs : List Ac) (v : Value) (W : World) : Prop := ∃ g, v = .slice (some ⟨g, 0, none⟩) 1 1 ∧ SlN W v xs
theorem VSNf.stab {xs : List Ac} (v : Value) (W W' : World) (h : VSNf xs v W) (g : Grows W W') : VSNf xs v W' := by unfold VSNf at *; obtain ⟨q, h1, h2⟩ := h; exact ⟨q, h1, h2.mono g⟩
theorem VSA1.stab {xs : List Ac} (v : Value) (W W' : World) (h : VSA1 xs v W) (g : Grows W W') : VSA1 xs v W' := by unfold VSA1 at *; exact h.mono g
theorem VS1.stab {xs : List Ac} (v : Value) (W W' : World) (h : VS1 xs v W) (g : Grows W W') : VS1 xs v W' := by unfold VS1 at *; obtain ⟨q, h1, h2⟩ := h; exact ⟨q, h1, h2.mono g⟩
theorem begun_no (b : Sol) (l : List Sol) (m : List Ac) {v av : Value} (w : World) (Hv : SlS w v l) (Hav : SlA w av m) (h0 : ¬ (checkR b l m).2 = 0) :
  Calls Tryz.prog 89 #[.agg #[.int .u64 (pl b 0), .int .u64 (pl b 1), .int .u64 (pl b 2), .int .u64 (pl b 3), .int .u64 (pl b 4), .int .u64 (pl b 5), .int .u64 (pl b 6), .int .u64 (pl b 7), v, av]] w fun e w' => e = .returned (.tuple #[.pointer none, .int .i64 (checkR b l m).1, .int .i64 (checkR b l m).2]) ∧ Below w.heap.size w w' := by
 unfold checkR at h0 ⊢
 cases h : begunM b l m with
 | inl x => exact begun_bad h w Hv Hav
 | inr s => rw [h] at h0; exact absurd rfl h0
set_option maxHeartbeats 4000000 in
theorem Act_no (b : Sol) (p q : Option Addr) (n c k d : Nat) (a : Ac) (w : World) (x y : Int) (hne : (y != 0) = true) (H : Hid (∀ w', Below w.heap.size w w' → Calls Tryz.prog 89 #[.agg #[.int .u64 (pl b 0), .int .u64 (pl b 1), .int .u64 (pl b 2), .int .u64 (pl b 3), .int .u64 (pl b 4), .int .u64 (pl b 5), .int .u64 (pl b 6), .int .u64 (pl b 7), .slice p n c, .slice q k d]] w' fun e w'' => e = .returned (.tuple #[.pointer none, .int .i64 x, .int .i64 y]) ∧ Below w'.heap.size w' w'')) :
  Calls Tryz.prog 40 #[.agg #[.int .u64 (pl b 0), .int .u64 (pl b 1), .int .u64 (pl b 2), .int .u64 (pl b 3), .int .u64 (pl b 4), .int .u64 (pl b 5), .int .u64 (pl b 6), .int .u64 (pl b 7), .slice p n c, .slice q k d], .agg #[.int .u8 a.1, .int .i64 a.2.1, .int .u64 (pl a.2.2 0), .int .u64 (pl a.2.2 1), .int .u64 (pl a.2.2 2), .int .u64 (pl a.2.2 3), .int .u64 (pl a.2.2 4), .int .u64 (pl a.2.2 5), .int .u64 (pl a.2.2 6), .int .u64 (pl a.2.2 7)]] w fun e w' => e = .returned (.tuple #[.agg #[.int .u64 0, .int .u64 0, .int .u64 0, .int .u64 0, .int .u64 0, .int .u64 0, .int .u64 0, .int .u64 0, .slice none 0 0, .slice none 0 0], .int .i64 y]) ∧ Below w.heap.size w w' := by
 go_enter Tryz.func40, Tryz.ntmps40
 go_wp2_with fail
 refine (H.out _ bel_by).mono ?_
 rintro e w1 ⟨rfl, hb⟩
 have b1 : Blk w1 (w.heap.size + 1 + 1) #[.int .u64 0, .int .u64 0, .int .u64 0, .int .u64 0, .int .u64 0, .int .u64 0, .int .u64 0, .int .u64 0, .slice none 0 0, .slice none 0 0] 30 := Blk.grow blk_by hb
 have hB1 : Below w.heap.size w w1 := bel_trans bel_by hb
 have r1 := b1.row
 have l1 := b1.lt
 rw [← b1.rw]
 clear b1 hb
 go_wp2_with fail
 refine bodyPost_ret (by simp [results, Tryz.results40, go_sem, *]) rfl ⟨rfl, blw_row hB1 (by omega) _⟩
end Go.Proofs.YtccnkebkgegohaaGreatDoor
end
section
namespace Go.Proofs.YtccnkebkgegohaaGreatDoor
open Go.RowKit Go.Rel
set_option maxRecDepth 100000
@[irreducible] def VH5 (base : Nat) (b : Sol) (p : Option Addr) (n c : Nat) (m : List Ac) (v : Value) (W : World) : Prop := ∃ bv, v = .agg #[.int .u64 (pl b 0), .int .u64 (pl b 1), .int .u64 (pl b 2), .int .u64 (pl b 3), .int .u64 (pl b 4), .int .u64 (pl b 5), .int .u64 (pl b 6), .int .u64 (pl b 7), .slice p n c, bv] ∧ OwnA W base bv m
theorem VH5.stab {base : Nat} {b : Sol} {p : Option Addr} {n c : Nat} {m : List Ac} (v : Value) (W W' : World) (h : VH5 base b p n c m v W) (g : Grows W W') : VH5 base b p n c m v W' := by
 unfold VH5 at *; obtain ⟨bv, h1, h2⟩ := h; exact ⟨bv, h1, own_grow h2 g⟩
/-- while neighbours are exchanged: their list lies as it was, with the one stored, with both -/
structure InvX (G5 : Nat) (hdr : Array Value) (base g cap i : Nat) (m : List Ac) (cur : Array Value) (x y : Ac) (d1 d2 : Bool) (W : World) : Prop where
 hd : Blk W G5 hdr 30
 own : d1 = false → OwnB W base m g cap cur
 own1 : d1 = true → d2 = false → OwnB W base (m.set i y) g cap (spl cur (i * 10) (acL y))
 own2 : d2 = true → OwnB W base ((m.set i y).set (i + 1) x) g cap (spl (spl cur (i * 10) (acL y)) ((i + 1) * 10) (acL x))
theorem OwnB.grow {W W' : World} {base g cap : Nat} {m : List Ac} {cur : Array Value} (h : OwnB W base m g cap cur) (hb : Below W.heap.size W W') : OwnB W' base m g cap cur := ⟨h.base, h.blk.grow hb, h.le, h.lim, h.size, h.rows⟩
end Go.Proofs.YtccnkebkgegohaaGreatDoor
end
section
namespace Go.Proofs.YtccnkebkgegohaaGreatDoor
open Go.RowKit Go.Rel
set_option maxRecDepth 100000
end Go.Proofs.YtccnkebkgegohaaGreatDoor
end
section
namespace Go.Proofs.YtccnkebkgegohaaGreatDoor
open Go.RowKit Go.Rel
set_option maxRecDepth 100000
end Go.Proofs.YtccnkebkgegohaaGreatDoor
end
section
namespace Go.Proofs.YtccnkebkgegohaaGreatDoor
open Go.RowKit Go.Rel
set_option maxRecDepth 100000
end Go.Proofs.YtccnkebkgegohaaGreatDoor
end
section
namespace Go.Proofs.YtccnkebkgegohaaGreatDoor
open Go.RowKit Go.Rel
set_option maxRecDepth 100000
/-! drop, of the reference -/
@[irreducible] def VSl (x v : Value) (_ : World) : Prop := v = x
theorem VSl.stab {x : Value} {R : World → World → Prop} (v : Value) (W W' : World) (h : VSl x v W) (_ : R W W') : VSl x v W' := by unfold VSl at *; exact h
def J (G : Nat) (xs ys : List Ac) (a b c e : Bool) (x y z r : Value) (W : World) : Prop := G ≤ W.heap.size ∧ (a = true → b = false → OwnA W G x []) ∧ (b = true → c = false → OwnA W G y xs) ∧ (c = true → OwnA W G z (xs ++ ys)) ∧ (e = true → r = z)
end Go.Proofs.YtccnkebkgegohaaGreatDoor
end
section
namespace Go.Proofs.YtccnkebkgegohaaGreatDoor
open Go.RowKit Go.Rel
set_option maxRecDepth 100000
@[irreducible] def VHd (base : Nat) (b : Sol) (p : Option Addr) (n c : Nat) (m : List Ac) (v : Value) (W : World) : Prop := ∃ bv, v = .agg #[.int .u64 (pl b 0), .int .u64 (pl b 1), .int .u64 (pl b 2), .int .u64 (pl b 3), .int .u64 (pl b 4), .int .u64 (pl b 5), .int .u64 (pl b 6), .int .u64 (pl b 7), .slice p n c, bv] ∧ OwnA W base bv m
theorem VHd.stab {base : Nat} {b : Sol} {p : Option Addr} {n c : Nat} {m : List Ac} (v : Value) (W W' : World) (h : VHd base b p n c m v W) (g : Grows W W') : VHd base b p n c m v W' := by
 unfold VHd at *; obtain ⟨bv, h1, h2⟩ := h; exact ⟨bv, h1, own_grow h2 g⟩
end Go.Proofs.YtccnkebkgegohaaGreatDoor
end
section
namespace Go.Proofs.YtccnkebkgegohaaGreatDoor
open Go.RowKit Go.Rel
set_option maxRecDepth 100000
end Go.Proofs.YtccnkebkgegohaaGreatDoor
end
section
namespace Go.Proofs.YtccnkebkgegohaaGreatDoor
open Go.RowKit Go.Rel
set_option maxRecDepth 100000
end Go.Proofs.YtccnkebkgegohaaGreatDoor
end
section
namespace Go.Proofs.YtccnkebkgegohaaGreatDoor
open Go.RowKit Go.Rel
set_option maxRecDepth 100000
/-! Turn, of the reference -/
def turnVal : Option (Nat × Nat) → Value
 | none => .tuple #[.int .i64 0, .int .i64 0, .bool false]
 | some (i, j) => .tuple #[.int .i64 (i : Int), .int .i64 (j : Int), .bool true]
end Go.Proofs.YtccnkebkgegohaaGreatDoor
end
section
namespace Go.Proofs.YtccnkebkgegohaaGreatDoor
open Go.RowKit Go.Rel
set_option maxRecDepth 100000
end Go.Proofs.YtccnkebkgegohaaGreatDoor
end
section
namespace Go.Proofs.YtccnkebkgegohaaGreatDoor
open Go.RowKit Go.Rel
set_option maxRecDepth 100000
/-! normal, of the reference -/
theorem wpList_app_ac {ops : Array Oper} {rest : List Oper} {o : Oper} {a : Act} {Q : Exit → Act → World → Prop} {w : World} (hgd : o.guard = none) (s x : Operand)
  (ho : o.op = .call { callee := .builtin .append, args := #[s, x], argTypes := #[28, 28] }) (hty : o.type = 28) (base : Nat) (v u : Value) (xs ys : List Ac) (hs : a.eval s = v) (hx : a.eval x = u)
  (hown : OwnA w base v xs) (hu : SlN w u ys) (hk : xs.length + ys.length ≤ 1048576) (hbase : base ≤ w.heap.size)
  (h : ∀ v' w', OwnA w' base v' (xs ++ ys) → w.grownBy w' v.ownBlock → wpList Tryz.prog ops Q rest (a.put o.dst v') w') : wpList Tryz.prog ops Q (o :: rest) a w := by
 refine wpList_plain hgd fun K hK => ?_
 obtain ⟨v', w', hr, h2, h3⟩ := app_ac hown hu hk hbase
 unfold Oper.wp execOp
 simp only [ho, hty, resolve, invoke, builtin, Sem.run_bind, Sem.run_pure, Result.andThen_ok, List.map_toArray, List.map_cons, List.map_nil, hs, hx, hr]
 exact hK _ _ (h v' w' h2 h3)
theorem sln_one {w : World} {g : Nat} {x : Ac} (h : Blk w g #[.int .u8 x.1, .int .i64 x.2.1, .int .u64 (pl x.2.2 0), .int .u64 (pl x.2.2 1), .int .u64 (pl x.2.2 2), .int .u64 (pl x.2.2 3), .int .u64 (pl x.2.2 4), .int .u64 (pl x.2.2 5), .int .u64 (pl x.2.2 6), .int .u64 (pl x.2.2 7)] 46) : SlN w (.slice (some ⟨g, 0, none⟩) 1 1) [x] :=
 ⟨Sl.ofBlk h rfl (by decide) (by simp [acL]) (by simp [acL, solL]), fun _ _ e => by cases e⟩
def lenS : Value → Nat
 | .slice _ n _ => n
 | _ => 0

end Go.Proofs.YtccnkebkgegohaaGreatDoor
end
section
namespace Go.Proofs.YtccnkebkgegohaaGreatDoor
open Go.RowKit Go.Rel
set_option maxRecDepth 100000
/-! two histories, of the reference -/
/-- a list of acts and an error -/
def LRes (M : List Ac) (E : Int) (w : World) (e : Ending) (w' : World) : Prop := ∃ u, e = .returned (.tuple #[u, .int .i64 E]) ∧ SlA w' u M ∧ Below w.heap.size w w'
end Go.Proofs.YtccnkebkgegohaaGreatDoor
end
section
namespace Go.Proofs.YtccnkebkgegohaaGreatDoor
open Go.RowKit Go.Rel
set_option maxRecDepth 100000
end Go.Proofs.YtccnkebkgegohaaGreatDoor
end
section
namespace Go.Proofs.YtccnkebkgegohaaGreatDoor
open Go.RowKit Go.Rel
set_option maxRecDepth 100000
set_option maxHeartbeats 4000000 in
theorem Merge_e (b b2 : Sol) (v av v2 av2 : Value) (y : Int) (hne : (y != 0) = true) (w : World) (H : Hid (∀ w', Below w.heap.size w w' → Calls Tryz.prog 96 #[.agg #[.int .u64 (pl b 0), .int .u64 (pl b 1), .int .u64 (pl b 2), .int .u64 (pl b 3), .int .u64 (pl b 4), .int .u64 (pl b 5), .int .u64 (pl b 6), .int .u64 (pl b 7), v, av], .agg #[.int .u64 (pl b2 0), .int .u64 (pl b2 1), .int .u64 (pl b2 2), .int .u64 (pl b2 3), .int .u64 (pl b2 4), .int .u64 (pl b2 5), .int .u64 (pl b2 6), .int .u64 (pl b2 7), v2, av2]] w' fun e w'' => (∃ sp tq, e = .returned (.tuple #[.pointer sp, .pointer tq, .int .i64 y])) ∧ Below w'.heap.size w' w'')) :
  Calls Tryz.prog 26 #[.agg #[.int .u64 (pl b 0), .int .u64 (pl b 1), .int .u64 (pl b 2), .int .u64 (pl b 3), .int .u64 (pl b 4), .int .u64 (pl b 5), .int .u64 (pl b 6), .int .u64 (pl b 7), v, av], .agg #[.int .u64 (pl b2 0), .int .u64 (pl b2 1), .int .u64 (pl b2 2), .int .u64 (pl b2 3), .int .u64 (pl b2 4), .int .u64 (pl b2 5), .int .u64 (pl b2 6), .int .u64 (pl b2 7), v2, av2]] w fun e w' => e = .returned (.tuple #[.agg #[.int .u64 0, .int .u64 0, .int .u64 0, .int .u64 0, .int .u64 0, .int .u64 0, .int .u64 0, .int .u64 0, .slice none 0 0, .slice none 0 0], .int .i64 y]) ∧ Below w.heap.size w w' := by
 go_enter Tryz.func26, Tryz.ntmps26
 go_wp2_with fail
 refine (H.out _ bel_by).mono ?_
 rintro e w1 ⟨⟨sp, tq, rfl⟩, hb⟩
 have b0 : Blk w1 (w.heap.size + 1 + 1) #[.int .u64 0, .int .u64 0, .int .u64 0, .int .u64 0, .int .u64 0, .int .u64 0, .int .u64 0, .int .u64 0, .slice none 0 0, .slice none 0 0] 30 := Blk.grow blk_by hb
 have r0 := b0.row
 have hB1 : Below w.heap.size w w1 := bel_trans bel_by hb
 rw [← b0.rw]
 clear b0 hb
 go_wp2_with fail
 refine bodyPost_ret (by simp [results, Tryz.results26, go_sem, *]) rfl ⟨rfl, blw_row hB1 (by omega) _⟩
section
variable {b b2 : Sol} {l l2 : List Sol} {g h : List Ac} {t u : StB} {v av v2 av2 : Value}
end
end Go.Proofs.YtccnkebkgegohaaGreatDoor
end
section
namespace Go.Proofs.YtccnkebkgegohaaGreatDoor
open Go Go.Shelf Go.RowKit
/-! slices.SortFunc at acts: the shelf's contract laid at function 129 -/
def sortAc_ren : Go.Shelf.Ren := ⟨fun | 6 => 129 | 15 => 167 | 14 => 166 | 28 => 200 | 29 => 201 | 20 => 192 | 21 => 193 | 22 => 194 | 23 => 195 | 24 => 196 | 25 => 197 | 26 => 198 | 27 => 199 | 46 => 218 | 47 => 219 | 48 => 220 | 49 => 221 | 50 => 222 | 57 => 240 | n => n, fun | 22 => 28 | 24 => 46 | 25 => 156 | 3 => 3 | 39 => 41 | 0 => 0 | 53 => 231 | 55 => 22 | 4 => 4 | 46 => 224 | 45 => 223 | 50 => 228 | 5 => 5 | 9 => 9 | 66 => 251 | 70 => 255 | 76 => 270 | 77 => 271 | n => n, fun | n => n⟩
theorem sortAc : Go.Proofs.SlLaysF0.n6 Tryz.prog sortAc_ren := {
 mixed := by kernel_rfl,
 f6 := ⟨Tryz.f129.name, by decide, Tryz.func129.trans (congrArg some (by kernel_rfl))⟩,
 f14 := ⟨Tryz.f166.name, by decide, Tryz.func166.trans (congrArg some (by kernel_rfl))⟩,
 f15 := Tryz.func167.trans (congrArg some (by kernel_rfl)),
 f20 := ⟨Tryz.f192.name, by decide, Tryz.func192.trans (congrArg some (by kernel_rfl))⟩,
 f21 := ⟨Tryz.f193.name, by decide, Tryz.func193.trans (congrArg some (by kernel_rfl))⟩,
 f22 := ⟨Tryz.f194.name, by decide, Tryz.func194.trans (congrArg some (by kernel_rfl))⟩,
 f23 := ⟨Tryz.f195.name, by decide, Tryz.func195.trans (congrArg some (by kernel_rfl))⟩,
 f24 := ⟨Tryz.f196.name, by decide, Tryz.func196.trans (congrArg some (by kernel_rfl))⟩,
 f25 := ⟨Tryz.f197.name, by decide, Tryz.func197.trans (congrArg some (by kernel_rfl))⟩,
 f26 := ⟨Tryz.f198.name, by decide, Tryz.func198.trans (congrArg some (by kernel_rfl))⟩,
 f27 := ⟨Tryz.f199.name, by decide, Tryz.func199.trans (congrArg some (by kernel_rfl))⟩,
 f28 := Tryz.func200.trans (congrArg some (by kernel_rfl)),
 f29 := Tryz.func201.trans (congrArg some (by kernel_rfl)),
 f46 := ⟨Tryz.f218.name, by decide, Tryz.func218.trans (congrArg some (by kernel_rfl))⟩,
 f47 := Tryz.func219.trans (congrArg some (by kernel_rfl)),
 f48 := Tryz.func220.trans (congrArg some (by kernel_rfl)),
 f49 := ⟨Tryz.f221.name, by decide, Tryz.func221.trans (congrArg some (by kernel_rfl))⟩,
 f50 := ⟨Tryz.f222.name, by decide, Tryz.func222.trans (congrArg some (by kernel_rfl))⟩,
 f57 := ⟨Tryz.f240.name, by decide, Tryz.func240.trans (congrArg some (by kernel_rfl))⟩,
 t0 := Tryz.underlying0,
 a0 := Tryz.isAgg0,
 z0 := Tryz.sizeOf0,
 v0 := Tryz.zeroValue0,
 t3 := Tryz.underlying3,
 a3 := Tryz.isAgg3,
 z3 := Tryz.sizeOf3,
 v3 := Tryz.zeroValue3,
 t4 := Tryz.underlying4,
 a4 := Tryz.isAgg4,
 z4 := Tryz.sizeOf4,
 v4 := Tryz.zeroValue4,
 t5 := Tryz.underlying5,
 a5 := Tryz.isAgg5,
 z5 := Tryz.sizeOf5,
 v5 := Tryz.zeroValue5,
 t9 := Tryz.underlying9,
 a9 := Tryz.isAgg9,
 z9 := Tryz.sizeOf9,
 v9 := Tryz.zeroValue9,
 t22 := Tryz.underlying28,
 a22 := Tryz.isAgg28,
 z22 := Tryz.sizeOf28,
 v22 := Tryz.zeroValue28,
 t25 := Tryz.underlying156,
 a25 := Tryz.isAgg156,
 z25 := Tryz.sizeOf156,
 v25 := Tryz.zeroValue156,
 t39 := Tryz.underlying41,
 a39 := Tryz.isAgg41,
 z39 := Tryz.sizeOf41,
 v39 := Tryz.zeroValue41,
 t45 := Tryz.underlying223,
 a45 := Tryz.isAgg223,
 z45 := Tryz.sizeOf223,
 v45 := Tryz.zeroValue223,
 t46 := Tryz.underlying224,
 a46 := Tryz.isAgg224,
 z46 := Tryz.sizeOf224,
 v46 := Tryz.zeroValue224,
 t50 := Tryz.underlying228,
 a50 := Tryz.isAgg228,
 z50 := Tryz.sizeOf228,
 v50 := Tryz.zeroValue228,
 t53 := Tryz.underlying231,
 a53 := Tryz.isAgg231,
 z53 := Tryz.sizeOf231,
 v53 := Tryz.zeroValue231,
 t55 := Tryz.underlying22,
 a55 := Tryz.isAgg22,
 z55 := Tryz.sizeOf22,
 v55 := Tryz.zeroValue22,
 t66 := Tryz.underlying251,
 a66 := Tryz.isAgg251,
 z66 := Tryz.sizeOf251,
 v66 := Tryz.zeroValue251,
 t70 := Tryz.underlying255,
 a70 := Tryz.isAgg255,
 z70 := Tryz.sizeOf255,
 v70 := Tryz.zeroValue255,
 t76 := Tryz.underlying270,
 a76 := Tryz.isAgg270,
 z76 := Tryz.sizeOf270,
 v76 := Tryz.zeroValue270,
 t77 := Tryz.underlying271,
 a77 := Tryz.isAgg271,
 z77 := Tryz.sizeOf271,
 v77 := Tryz.zeroValue271 }
end Go.Proofs.YtccnkebkgegohaaGreatDoor
end
