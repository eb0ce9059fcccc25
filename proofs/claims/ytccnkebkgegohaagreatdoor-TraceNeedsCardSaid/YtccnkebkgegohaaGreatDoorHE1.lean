import Derived.Test.YtccnkebkgegohaaGreatDoorHY1
import Derived.Laws.CopyRow
import Derived.Laws.Tables
import Derived.Laws.AppendOwn
/-
  Given contracts of functions of the program, and laws for them, one behind the other.
-/
set_option linter.unusedVariables false
set_option linter.unusedSimpArgs false
set_option linter.unusedSectionVars false
section
namespace Go.Proofs.YtccnkebkgegohaaGreatDoor
open Go
/-! a struct stored into a list in place -/
def spl (cur : Array Value) (o : Nat) (vs : List Value) : Array Value := (cur.toList.take o ++ vs ++ cur.toList.drop (o + vs.length)).toArray
theorem spl_size {cur : Array Value} {o : Nat} {vs : List Value} (h : o + vs.length ≤ cur.size) : (spl cur o vs).size = cur.size := by
 unfold spl; simp; omega
/-- rows of k cells, one of them set -/
theorem flat_set {k : Nat} {α : Type} (row : α → List Value) (hk : ∀ a, (row a).length = k) (x : α) : ∀ (m : List α) (i : Nat), i < m.length → ((m.set i x).map row).flatten = (m.map row).flatten.take (i * k) ++ row x ++ (m.map row).flatten.drop (i * k + k)
 | y :: m, 0, _ => by
  have h : (row y).length = k := hk y
  simp only [List.set_cons_zero, List.map_cons, List.flatten_cons, Nat.zero_mul, List.take_zero, List.nil_append, Nat.zero_add]
  rw [← h, List.drop_left]
 | y :: m, i + 1, h => by
  have hy : (row y).length = k := hk y
  have ih := flat_set row hk x m i (by simpa using h)
  simp only [List.set_cons_succ, List.map_cons, List.flatten_cons, ih]
  have e1 : (i + 1) * k = (row y).length + i * k := by rw [hy, Nat.add_mul, Nat.one_mul, Nat.add_comm]
  rw [e1, List.take_length_add_append, Nat.add_assoc, List.drop_length_add_append]
  simp
theorem flat_len10 {k : Nat} {α : Type} (row : α → List Value) (hk : ∀ a, (row a).length = k) : ∀ m : List α, ((m.map row).flatten).length = m.length * k
 | [] => by simp
 | y :: m => by simp [flat_len10 row hk m, hk y, Nat.add_mul]; omega
/-- a block whose first cells are the rows of a list, one row stored -/
theorem spl_take {k : Nat} {α : Type} (row : α → List Value) (hk : ∀ a, (row a).length = k) {m : List α} {cur : Array Value} {i : Nat} (hi : i < m.length) (hc : m.length * k ≤ cur.size) (ht : cur.toList.take (m.length * k) = (m.map row).flatten) (x : α) :
  (spl cur (i * k) (row x)).toList.take (m.length * k) = ((m.set i x).map row).flatten := by
 rw [flat_set row hk x m i hi, ← ht]
 have hik : i * k + k ≤ m.length * k := by
  have := Nat.mul_le_mul_right k (show i + 1 ≤ m.length from hi)
  rwa [Nat.add_mul, Nat.one_mul] at this
 unfold spl
 simp only [hk]
 rw [List.take_take, Nat.min_eq_left (by omega), List.drop_take]
 have hP : (cur.toList.take (i * k) ++ row x).length = i * k + k := by
  rw [List.length_append, List.length_take, Array.length_toList, hk]; omega
 have hN : m.length * k = (cur.toList.take (i * k) ++ row x).length + (m.length * k - (i * k + k)) := by rw [hP]; omega
 show (cur.toList.take (i * k) ++ row x ++ cur.toList.drop (i * k + k)).take (m.length * k) = _
 generalize hM : m.length * k - (i * k + k) = M at *
 rw [hN, List.take_length_add_append]
end Go.Proofs.YtccnkebkgegohaaGreatDoor
end
section
namespace Go.Proofs.YtccnkebkgegohaaGreatDoor
open Go.RowKit Go.Rel
set_option maxRecDepth 100000
/-! a list of acts of our own, one act stored in place -/
structure OwnB (W : World) (base : Nat) (m : List Ac) (g cap : Nat) (cur : Array Value) : Prop where
 base : base ≤ g
 blk : Blk W g cur 46
 le : m.length ≤ cap
 lim : cap ≤ maxLen
 size : cur.size = cap * 10
 rows : cur.toList.take (m.length * 10) = (m.map acL).flatten
theorem OwnA.opn {W : World} {base : Nat} {v : Value} {m : List Ac} (h : OwnA W base v m) (h0 : m ≠ []) : ∃ g cap cur, v = .slice (some ⟨g, 0, none⟩) m.length cap ∧ OwnB W base m g cap cur := by
 obtain ⟨_, h | ⟨g, cap, cur, hv, hg, hh, hr⟩⟩ := h
 ·exact absurd (List.eq_nil_of_length_eq_zero h.2) h0
 ·exact ⟨g, cap, cur, hv, hg, hh, hr.1, hr.2.1, hr.2.2.1, hr.2.2.2⟩
theorem acL_len (a : Ac) : (acL a).length = 10 := rfl
@[irreducible] def VBk (base : Nat) (C : Array Value) (t : TypeId) (v : Value) (W : World) : Prop := ∃ g, v = .pointer (some ⟨g, 0, none⟩) ∧ base ≤ g ∧ Blk W g C t
theorem VBk.stab {base : Nat} {C : Array Value} {t : TypeId} (v : Value) (W W' : World) (h : VBk base C t v W) (g : Grows W W') : VBk base C t v W' := by unfold VBk at *; obtain ⟨q, h1, h2, h3⟩ := h; exact ⟨q, h1, h2, h3.grow g⟩
section
variable {W : World} {base g cap : Nat} {m : List Ac} {cur : Array Value}
theorem OwnB.own (h : OwnB W base m g cap cur) : OwnA W base (.slice (some ⟨g, 0, none⟩) m.length cap) m :=
 ⟨flat_len10 acL acL_len m, .inr ⟨g, cap, cur, rfl, h.base, h.blk, h.le, h.lim, h.size, h.rows⟩⟩
theorem OwnB.fit (h : OwnB W base m g cap cur) {i : Nat} (hi : i < m.length) (x : Ac) : i * 10 + (acL x).length ≤ cur.size := by
 rw [h.size, acL_len]
 have := h.le
 omega
theorem OwnB.set (h : OwnB W base m g cap cur) {i : Nat} (hi : i < m.length) (x : Ac) : OwnB (W.setRow g (spl cur (i * 10) (acL x))) base (m.set i x) g cap (spl cur (i * 10) (acL x)) := by
 have hf := h.fit hi x
 have hl : (m.set i x).length = m.length := List.length_set ..
 refine ⟨h.base, h.blk.rowS _, by rw [hl]; exact h.le, h.lim, by rw [spl_size hf]; exact h.size, ?_⟩
 rw [hl]
 exact spl_take acL acL_len hi (by rw [h.size]; have := h.le; omega) h.rows x
end
theorem own_rowT {w : World} {base bp : Nat} {e t : TypeId} {size : Nat} {u : Value} {n : Nat} {zs : List Value} {C : Array Value} (hu : w.ownsRow base e size u n zs) (hb : Blk w bp C t) (hne : t ≠ e) (c : Array Value) : (w.setRow bp c).ownsRow base e size u n zs := by
 obtain ⟨hl, h | ⟨g, cap, cur, hv, hg, hh, hr⟩⟩ := hu
 ·exact ⟨hl, .inl h⟩
 ·refine ⟨hl, .inr ⟨g, cap, cur, hv, hg, (setRow_other w bp g c ?_).trans hh, hr⟩⟩
  rintro rfl
  have h2 : w.heap[g]? = some (.cells C t (0, 0)) := hb
  rw [h2] at hh
  exact hne (by injection hh with hh; injection hh)
theorem own_len {W : World} {base k cap : Nat} {q : Option Addr} {m : List Ac} (h : OwnA W base (.slice q m.length cap) m) (hk : m.length = k) : OwnA W base (.slice q k cap) m := by
 subst hk; exact h
theorem OwnB.cells {W : World} {base g cap : Nat} {m : List Ac} {cur : Array Value} (h : OwnB W base m g cap cur) (h0 : m ≠ []) : Cells W g 0 10 (m.map acL) := by
 rcases Sl.cases h.own.sl with ⟨hl, _⟩ | ⟨b, off, c, he, _, _, _, hc⟩
 ·exact absurd (by simpa using hl) h0
 ·injection he with h1 _ _
  injection h1 with h1
  injection h1 with h1 h2 _
  subst h1 h2
  exact hc
end Go.Proofs.YtccnkebkgegohaaGreatDoor
end
section
namespace Go.Proofs.YtccnkebkgegohaaGreatDoor
open Go.RowKit Go.Rel
set_option maxRecDepth 100000
def actE (b : Sol) (l : List Sol) (m : List Ac) (a : Ac) : Int := if (checkR b l m).2 = 0 then (checkR b l (m ++ [a])).2 else (checkR b l m).2
def ActRes (b : Sol) (l : List Sol) (m : List Ac) (a : Ac) (w : World) (e : Ending) (w' : World) : Prop := if actE b l m a = 0 then HRes b l (m ++ [a]) 0 w e w' else HRes 0 [] [] (actE b l m a) w e w'
theorem checkR_ok {b : Sol} {l : List Sol} {m : List Ac} (h : (checkR b l m).2 = 0) : ∃ s, begunM b l m = .inr s := by
 unfold checkR at h
 cases hb : begunM b l m with
 | inr s => exact ⟨s, rfl⟩
 | inl x =>
  rw [hb] at h
  have := begunM_bad hb
  have h' : x.2 = 0 := h
  rw [h'] at this
  cases this
theorem checkR_len {b : Sol} {l : List Sol} {m : List Ac} (h : (checkR b l m).2 = 0) : m.length ≤ 60 := by
 obtain ⟨s, hs⟩ := checkR_ok h
 exact (begunM_good hs).2.1
theorem actRes_no {b : Sol} {l : List Sol} {m : List Ac} {a : Ac} (h : ¬ (checkR b l m).2 = 0) {w w' : World} {e : Ending} (hr : HRes 0 [] [] (checkR b l m).2 w e w') : ActRes b l m a w e w' := by
 have : actE b l m a = (checkR b l m).2 := by unfold actE; rw [if_neg h]
 unfold ActRes
 rw [this, if_neg h]; exact hr
theorem actRes_no2 {b : Sol} {l : List Sol} {m : List Ac} {a : Ac} (h : (checkR b l m).2 = 0) (h2 : ¬ (checkR b l (m ++ [a])).2 = 0) {w w' : World} {e : Ending} (hr : HRes 0 [] [] (checkR b l (m ++ [a])).2 w e w') : ActRes b l m a w e w' := by
 have : actE b l m a = (checkR b l (m ++ [a])).2 := by unfold actE; rw [if_pos h]
 unfold ActRes
 rw [this, if_neg h2]; exact hr
theorem actRes_yes {b : Sol} {l : List Sol} {m : List Ac} {a : Ac} (h : (checkR b l m).2 = 0) (h2 : (checkR b l (m ++ [a])).2 = 0) {w w' : World} {e : Ending} (hr : HRes b l (m ++ [a]) 0 w e w') : ActRes b l m a w e w' := by
 have : actE b l m a = 0 := by unfold actE; rw [if_pos h, h2]
 unfold ActRes
 rw [if_pos this]; exact hr
end Go.Proofs.YtccnkebkgegohaaGreatDoor
end
section
namespace Go.Proofs.YtccnkebkgegohaaGreatDoor
open Go.RowKit Go.Rel
set_option maxRecDepth 100000
/-! Act, of the reference -/
theorem acv_sl {a : Ac} {W : World} {g : Nat} (h : Blk W g #[.int .u8 a.1, .int .i64 a.2.1, .int .u64 (pl a.2.2 0), .int .u64 (pl a.2.2 1), .int .u64 (pl a.2.2 2), .int .u64 (pl a.2.2 3), .int .u64 (pl a.2.2 4), .int .u64 (pl a.2.2 5), .int .u64 (pl a.2.2 6), .int .u64 (pl a.2.2 7)] 46) : SlN W (.slice (some ⟨g, 0, none⟩) 1 1) [a] :=
 ⟨Sl.ofBlk h rfl (by decide) (by simp) (by simp), fun n c e => by cases e⟩
/-- a list of acts appended to a list that has no room -/
theorem app_full {q : Option Addr} {u : Value} {xs ys : List Ac} {W : World} (hx : SlN W (.slice q xs.length xs.length) xs) (hs : SlN W u ys) (hy : ys ≠ []) (hk : xs.length + ys.length ≤ 1048576) :
  ∃ v' w', (Builtin.append_ #[28, 28] 28 #[.slice q xs.length xs.length, u]).run Tryz.prog W = .ok v' w' ∧ OwnA w' W.heap.size v' (xs ++ ys) ∧ Below W.heap.size W w' := by
 obtain ⟨i0, hi, hz0, hz1, hz2⟩ := info_parts info46
 rcases hs.opn with ⟨rfl, h0⟩ | ⟨p, c, rfl, hc⟩
 ·exact absurd h0 hy
 ·have hyl : 0 < ys.length := List.length_pos_iff.2 hy
  rcases hx.opn with ⟨he, h0⟩ | ⟨p', c', he, hc'⟩
  ·subst h0
   have hq : q = none := by simpa using he
   subst hq
   obtain ⟨v', w', hr, ho, hgr, _⟩ := run_append_keep W W.heap.size 28 28 46 i0 (.agg #[.int .u8 0, .int .i64 0, .int .u64 0, .int .u64 0, .int .u64 0, .int .u64 0, .int .u64 0, .int .u64 0, .int .u64 0, .int .u64 0]) 10 80 Tryz.underlying28 hi hz0 hz1 hz2 rfl (by decide) (.slice none 0 0) 0 [] (World.ownsRow_nil _ _ _ _) p ys.length c ((ys.map acL).flatten) (acFlat_len ys) (hc W (Below.refl _ _)) one_ac (by unfold maxLen; omega) (by omega) (Nat.le_refl _)
   refine ⟨v', w', hr, ?_, (Below.refl _ _).grown hgr (Nat.le_refl _) (fun k hk => by cases hk)⟩
   unfold OwnA
   simpa using ho
  ·have hc2 : xs.length = c' := by injection he
   have hq : q = some p' := by injection he
   subst hq
   have hr := run_append_grow (P := Tryz.prog) W 28 28 46 i0 (.agg #[.int .u8 0, .int .i64 0, .int .u64 0, .int .u64 0, .int .u64 0, .int .u64 0, .int .u64 0, .int .u64 0, .int .u64 0, .int .u64 0]) Tryz.underlying28 hi hz0 p' xs.length xs.length ((xs.map acL).flatten) (by rw [acFlat_len, hz1]) (hc' W (Below.refl _ _)) p ys.length c ((ys.map acL).flatten) (by rw [acFlat_len, hz1]) (hc W (Below.refl _ _)) (by omega) (by omega) (growslice_fits (by omega) (by rw [hz2]; omega))
   refine ⟨_, _, hr, ?_, bel_alloc (bel_drew (bel_refl _)) _⟩
   have hlen : ((xs.map acL).flatten ++ (ys.map acL).flatten).length = (xs.length + ys.length) * 10 := by rw [List.length_append, acFlat_len, acFlat_len, Nat.add_mul]
   have hfl : ((xs ++ ys).map acL).flatten = (xs.map acL).flatten ++ (ys.map acL).flatten := by simp
   unfold OwnA
   rw [List.length_append, hfl]
   have hge := grownCap_ge W (xs.length + ys.length) xs.length 46
   refine ⟨hlen, .inr ⟨W.heap.size, _, _, rfl, Nat.le_refl _, heap_alloc_new W.drew _, hge, grownCap_le_maxLen W _ _ _ (by unfold maxLen; omega), ?_, ?_⟩⟩
   ·simp only [Array.size_append, List.size_toArray, size_zeroCells, acFlat_len]
    rw [show (Value.cells (.agg #[.int .u8 0, .int .i64 0, .int .u64 0, .int .u64 0, .int .u64 0, .int .u64 0, .int .u64 0, .int .u64 0, .int .u64 0, .int .u64 0])).size = 10 from rfl]
    omega
   ·simp only [Array.toList_append, List.append_assoc]
    rw [← List.append_assoc, ← hlen]
    exact List.take_left
end Go.Proofs.YtccnkebkgegohaaGreatDoor
end
section
namespace Go.Proofs.YtccnkebkgegohaaGreatDoor
open Go.RowKit Go.Rel
set_option maxRecDepth 100000
/-! Act -/
@[irreducible] def VSNf (xs : List Ac) (v : Value) (W : World) : Prop := ∃ q, v = .slice q xs.length xs.length ∧ SlN W v xs
@[irreducible] def VSA1 (xs : List Ac) (v : Value) (W : World) : Prop := SlA W v xs
@[irreducible] def VS1 (xs : List Ac) (v : Value) (W : World) : Prop := ∃ g, v = .slice (some ⟨g, 0, none⟩) 1 1 ∧ SlN W v xs
theorem VSNf.stab {xs : List Ac} (v : Value) (W W' : World) (h : VSNf xs v W) (g : Grows W W') : VSNf xs v W' := by unfold VSNf at *; obtain ⟨q, h1, h2⟩ := h; exact ⟨q, h1, h2.mono g⟩
theorem VSA1.stab {xs : List Ac} (v : Value) (W W' : World) (h : VSA1 xs v W) (g : Grows W W') : VSA1 xs v W' := by unfold VSA1 at *; exact h.mono g
theorem VS1.stab {xs : List Ac} (v : Value) (W W' : World) (h : VS1 xs v W) (g : Grows W W') : VS1 xs v W' := by unfold VS1 at *; obtain ⟨q, h1, h2⟩ := h; exact ⟨q, h1, h2.mono g⟩
theorem begun_no (b : Sol) (l : List Sol) (m : List Ac) {v av : Value} (w : World) (Hv : SlS w v l) (Hav : SlA w av m) (h0 : ¬ (checkR b l m).2 = 0) :
  Calls Tryz.prog 89 #[.agg #[.int .u64 (pl b 0), .int .u64 (pl b 1), .int .u64 (pl b 2), .int .u64 (pl b 3), .int .u64 (pl b 4), .int .u64 (pl b 5), .int .u64 (pl b 6), .int .u64 (pl b 7), v, av]] w fun e w' => e = .returned (.tuple #[.pointer none, .int .i64 (checkR b l m).1, .int .i64 (checkR b l m).2]) ∧ Below w.heap.size w w' := by
 unfold checkR at h0 ⊢
 cases h : begunM b l m with
 | inl x => exact begun_bad h w Hv Hav
 | inr s => rw [h] at h0; exact absurd rfl h0
set_option maxHeartbeats 4000000 in
theorem Act_no (b : Sol) (p q : Option Addr) (n c k d : Nat) (a : Ac) (w : World) (x y : Int) (hne : (y != 0) = true) (H : Hid (∀ w', Below w.heap.size w w' → Calls Tryz.prog 89 #[.agg #[.int .u64 (pl b 0), .int .u64 (pl b 1), .int .u64 (pl b 2), .int .u64 (pl b 3), .int .u64 (pl b 4), .int .u64 (pl b 5), .int .u64 (pl b 6), .int .u64 (pl b 7), .slice p n c, .slice q k d]] w' fun e w'' => e = .returned (.tuple #[.pointer none, .int .i64 x, .int .i64 y]) ∧ Below w'.heap.size w' w'')) :
  Calls Tryz.prog 40 #[.agg #[.int .u64 (pl b 0), .int .u64 (pl b 1), .int .u64 (pl b 2), .int .u64 (pl b 3), .int .u64 (pl b 4), .int .u64 (pl b 5), .int .u64 (pl b 6), .int .u64 (pl b 7), .slice p n c, .slice q k d], .agg #[.int .u8 a.1, .int .i64 a.2.1, .int .u64 (pl a.2.2 0), .int .u64 (pl a.2.2 1), .int .u64 (pl a.2.2 2), .int .u64 (pl a.2.2 3), .int .u64 (pl a.2.2 4), .int .u64 (pl a.2.2 5), .int .u64 (pl a.2.2 6), .int .u64 (pl a.2.2 7)]] w fun e w' => e = .returned (.tuple #[.agg #[.int .u64 0, .int .u64 0, .int .u64 0, .int .u64 0, .int .u64 0, .int .u64 0, .int .u64 0, .int .u64 0, .slice none 0 0, .slice none 0 0], .int .i64 y]) ∧ Below w.heap.size w w' := by
 go_enter Tryz.func40, Tryz.ntmps40
 go_wp2_with fail
 refine (H.out _ bel_by).mono ?_
 rintro e w1 ⟨rfl, hb⟩
 have b1 : Blk w1 (w.heap.size + 1 + 1) #[.int .u64 0, .int .u64 0, .int .u64 0, .int .u64 0, .int .u64 0, .int .u64 0, .int .u64 0, .int .u64 0, .slice none 0 0, .slice none 0 0] 30 := Blk.grow blk_by hb
 have hB1 : Below w.heap.size w w1 := bel_trans bel_by hb
 have r1 := b1.row
 have l1 := b1.lt
 rw [← b1.rw]
 clear b1 hb
 go_wp2_with fail
 refine bodyPost_ret (by simp [results, Tryz.results40, go_sem, *]) rfl ⟨rfl, blw_row hB1 (by omega) _⟩
set_option maxHeartbeats 16000000 in
theorem Act_go (b : Sol) (p q : Option Addr) (n c k d : Nat) (a : Ac) (w : World) (r : Bool) (x2 y2 : Int) (l : List Sol) (m : List Ac) (s : Stn) (hk : m.length = k) (hkd : k ≤ d) (HA : Hid (SlN w (.slice q k d) m)) (h60 : k ≤ 60) (h8 : l.length ≤ 8) (HV : Hid (SlS w (.slice p n c) l)) (hn2 : (y2 != 0) = r)
  (H : Hid (∀ w', Below w.heap.size w w' → Calls Tryz.prog 89 #[.agg #[.int .u64 (pl b 0), .int .u64 (pl b 1), .int .u64 (pl b 2), .int .u64 (pl b 3), .int .u64 (pl b 4), .int .u64 (pl b 5), .int .u64 (pl b 6), .int .u64 (pl b 7), .slice p n c, .slice q k d]] w' fun e w'' => ∃ bp, e = .returned (.tuple #[.pointer (some ⟨bp, 0, none⟩), .int .i64 0, .int .i64 0]) ∧ w'.heap.size ≤ bp ∧ PastAt bp b (.slice p n c) (.slice q k d) l m s w'' ∧ Below w'.heap.size w' w''))
  (H2 : Hid (∀ w', Below w.heap.size w w' → ∀ pv bv, SlS w' pv l → SlA w' bv (m ++ [a]) → Calls Tryz.prog 27 #[.agg #[.int .u64 (pl b 0), .int .u64 (pl b 1), .int .u64 (pl b 2), .int .u64 (pl b 3), .int .u64 (pl b 4), .int .u64 (pl b 5), .int .u64 (pl b 6), .int .u64 (pl b 7), pv, bv]] w' fun e w'' => e = .returned (.tuple #[.int .i64 x2, .int .i64 y2]) ∧ Below w'.heap.size w' w'')) :
  Calls Tryz.prog 40 #[.agg #[.int .u64 (pl b 0), .int .u64 (pl b 1), .int .u64 (pl b 2), .int .u64 (pl b 3), .int .u64 (pl b 4), .int .u64 (pl b 5), .int .u64 (pl b 6), .int .u64 (pl b 7), .slice p n c, .slice q k d], .agg #[.int .u8 a.1, .int .i64 a.2.1, .int .u64 (pl a.2.2 0), .int .u64 (pl a.2.2 1), .int .u64 (pl a.2.2 2), .int .u64 (pl a.2.2 3), .int .u64 (pl a.2.2 4), .int .u64 (pl a.2.2 5), .int .u64 (pl a.2.2 6), .int .u64 (pl a.2.2 7)]] w fun e w' => if r = true then e = .returned (.tuple #[.agg #[.int .u64 0, .int .u64 0, .int .u64 0, .int .u64 0, .int .u64 0, .int .u64 0, .int .u64 0, .int .u64 0, .slice none 0 0, .slice none 0 0], .int .i64 y2]) ∧ Below w.heap.size w w' else HRes b l (m ++ [a]) 0 w e w' := by
 go_enter Tryz.func40, Tryz.ntmps40
 go_wp2_with fail
 refine (H.out _ bel_by).mono ?_
 rintro e wb ⟨bp, rfl, hbp, hP, hb⟩
 have hB1 : Below w.heap.size w wb := bel_trans bel_by hb
 have g0 : Blk wb w.heap.size #[.int .u64 (pl b 0), .int .u64 (pl b 1), .int .u64 (pl b 2), .int .u64 (pl b 3), .int .u64 (pl b 4), .int .u64 (pl b 5), .int .u64 (pl b 6), .int .u64 (pl b 7), .slice p n c, .slice q k d] 30 := Blk.grow blk_by hb
 have g1 : Blk wb (w.heap.size + 1) #[.int .u8 a.1, .int .i64 a.2.1, .int .u64 (pl a.2.2 0), .int .u64 (pl a.2.2 1), .int .u64 (pl a.2.2 2), .int .u64 (pl a.2.2 3), .int .u64 (pl a.2.2 4), .int .u64 (pl a.2.2 5), .int .u64 (pl a.2.2 6), .int .u64 (pl a.2.2 7)] 46 := Blk.grow blk_by hb
 have g2 : Blk wb (w.heap.size + 1 + 1) #[.int .u64 0, .int .u64 0, .int .u64 0, .int .u64 0, .int .u64 0, .int .u64 0, .int .u64 0, .int .u64 0, .slice none 0 0, .slice none 0 0] 30 := Blk.grow blk_by hb
 have c0 := g0.cell
 have l0 := g0.lt
 have c1 := g1.cell
 have l1 := g1.lt
 have l2 := g2.lt
 have HP := Lib.hid hP
 have HK := Lib.hid hk
 have H92 : Hid (∀ w', Below wb.heap.size wb w' → ∀ u, SlA w' u (m ++ [a]) → Calls Tryz.prog 92 #[.pointer (some ⟨bp, 0, none⟩), u] w' fun e w'' => ∃ pv bv, e = .returned (.agg #[.int .u64 (pl b 0), .int .u64 (pl b 1), .int .u64 (pl b 2), .int .u64 (pl b 3), .int .u64 (pl b 4), .int .u64 (pl b 5), .int .u64 (pl b 6), .int .u64 (pl b 7), pv, bv]) ∧ OwnS w'' w'.heap.size pv l ∧ OwnA w'' w'.heap.size bv (m ++ [a]) ∧ Below w'.heap.size w' w'') := Lib.hid fun w' hw u hu => with_spec w' (HP.out.grow hw) (HV.out.mono (bel_trans hB1 hw)) h8 u (m ++ [a]) hu (by rw [List.length_append, HK.out]; simp; omega)
 clear hb hP hbp hk H HP
 go_wp2_with fail
 refine wp_region_grow 15 [Is (.pointer (some ⟨bp, 0, none⟩)), Is (.pointer (some ⟨w.heap.size, 9, none⟩)), Is (.slice q k d), Is (.pointer (some ⟨w.heap.size, 9, none⟩)), Is (.slice q k d), Is (.int .i64 (k : Int)), Is (.pointer (some ⟨w.heap.size, 9, none⟩)), Is (.slice q k d), Is (.int .i64 (k : Int)), VSNf m, Is (.agg #[.int .u8 a.1, .int .i64 a.2.1, .int .u64 (pl a.2.2 0), .int .u64 (pl a.2.2 1), .int .u64 (pl a.2.2 2), .int .u64 (pl a.2.2 3), .int .u64 (pl a.2.2 4), .int .u64 (pl a.2.2 5), .int .u64 (pl a.2.2 6), .int .u64 (pl a.2.2 7)]), VS1 [a], VSA1 (m ++ [a]), VHist (w.heap.size + 1 + 1 + 1) b l (m ++ [a]), VBk (w.heap.size + 1 + 1 + 1) #[.int .u64 0, .int .u64 0, .int .u64 0, .int .u64 0, .int .u64 0, .int .u64 0, .int .u64 0, .int .u64 0, .slice none 0 0, .slice none 0 0] 30] (by kernel_rfl) (by kernel_rfl) rfl ⟨fun _ _ _ h _ => h, fun _ _ _ h _ => h, fun _ _ _ h _ => h, fun _ _ _ h _ => h, fun _ _ _ h _ => h, fun _ _ _ h _ => h, fun _ _ _ h _ => h, fun _ _ _ h _ => h, fun _ _ _ h _ => h, VSNf.stab, fun _ _ _ h _ => h, VS1.stab, VSA1.stab, VHist.stable, VBk.stab, trivial⟩ ?_
 simp only [List.take_succ_cons, List.take_zero, List.drop_succ_cons, List.drop_zero]
 iterate 7 (refine rel_cons ?_ (fun _ => ?_); · intro w1 hb hF; have hc := (Grows.cells hb).1; have hf := (Grows.cells hb).2; (try simp [facts, Is] at hF); go_simp; exact Grows.refl _)
 refine rel_cons ?_ (fun v7 => ?_)
 ·intro w1 hb hF; have hc := (Grows.cells hb).1; have hf := (Grows.cells hb).2; try simp [facts, Is] at hF
  go_simp
  exact Grows.refl _
 refine rel_cons ?_ (fun v8 => ?_)
 ·intro w1 hb hF; have hc := (Grows.cells hb).1; have hf := (Grows.cells hb).2; try simp [facts, Is] at hF
  go_simp
  exact Grows.refl _
 refine rel_cons ?_ (fun v9 => ?_)
 ·intro w1 hb hF; have hc := (Grows.cells hb).1; have hf := (Grows.cells hb).2; try simp [facts, Is] at hF
  have h := Lib.hid (sln_take (HA.out.mono (bel_trans hB1 hb)).1 (Nat.le_refl k))
  go_simp
  refine ⟨Grows.refl _, ?_⟩
  unfold VSNf
  have hh := h.out
  rw [List.take_of_length_le (by rw [HK.out]; exact Nat.le_refl _)] at hh
  rw [HK.out]
  first | exact ⟨_, rfl, hh⟩ | skip
 refine rel_cons ?_ (fun v10 => ?_)
 ·intro w1 hb hF; have hc := (Grows.cells hb).1; have hf := (Grows.cells hb).2; try simp [facts, Is] at hF
  go_simp
  exact Grows.refl _
 refine rel_cons ?_ (fun v11 => ?_)
 ·intro w1 hb hF; have hc := (Grows.cells hb).1; have hf := (Grows.cells hb).2; try simp [facts, Is] at hF
  go_simp
  exact ⟨bel_alloc (bel_refl _) _, by unfold VS1; exact ⟨_, rfl, acv_sl (Blk.new _ _ _)⟩⟩
 refine rel_cons ?_ (fun v12 => ?_)
 ·intro w1 hb hF; have hc := (Grows.cells hb).1; have hf := (Grows.cells hb).2; try simp [facts, Is] at hF
  have h9 := hF.1
  have h11 := hF.2
  clear hF
  unfold VSNf at h9
  unfold VS1 at h11
  refine Exists.elim h9 (fun q9 h => ?_)
  have e9 := h.1
  have h9' := h.2
  clear h
  rw [e9] at h9'
  refine Exists.elim (app_full h9' (Exists.elim h11 (fun g h => h.2)) (by simp) (by rw [HK.out]; simp; omega)) (fun v' h => Exists.elim h (fun w' h => ?_))
  subst e9
  refine step_append (v := .slice q9 m.length m.length) (v7 := v11) rfl rfl ?_ ?_ h.1 ?_
  ·go_simp
  ·go_simp
  ·exact ⟨h.2.2, by unfold VSA1; exact OwnA.sl h.2.1⟩
 refine rel_cons ?_ (fun v13 => ?_)
 ·intro w1 hb hF; have hc := (Grows.cells hb).1; have hf := (Grows.cells hb).2; try simp [facts, Is] at hF
  have h12 := hF.2
  have h0 := hF.1
  clear hF
  subst h0
  unfold VSA1 at h12
  have HS := Lib.hid h12; clear h12
  have hsz := hb.size
  go_simp
  refine (H92.out _ hb _ HS.out).mono ?_
  rintro e w2 ⟨pv, bv, rfl, hS, hA, hB⟩
  exact ⟨_, rfl, hB, by unfold VHist; exact ⟨pv, bv, rfl, own_weak hS (by omega), own_weak hA (by omega)⟩⟩
 refine rel_cons ?_ (fun v14 => ?_)
 ·intro w1 hb hF; have hc := (Grows.cells hb).1; have hf := (Grows.cells hb).2; try simp [facts, Is] at hF
  have hsz := hb.size
  go_simp
  exact ⟨bel_alloc (bel_refl _) _, by unfold VBk; exact ⟨_, rfl, (by omega), Blk.new _ _ _⟩⟩
 refine rel_nil ?_
 intro w1 hb hF
 simp [Is, Nat.forall_lt_succ_right] at hF
 have e0 := hF.1.1.1.1.1.1.1.1.1.1.1.1.1.1
 have e1 := hF.1.1.1.1.1.1.1.1.1.1.1.1.1.2
 have e2 := hF.1.1.1.1.1.1.1.1.1.1.1.1.2
 have e3 := hF.1.1.1.1.1.1.1.1.1.1.1.2
 have e4 := hF.1.1.1.1.1.1.1.1.1.1.2
 have e5 := hF.1.1.1.1.1.1.1.1.1.2
 have e6 := hF.1.1.1.1.1.1.1.1.2
 have e7 := hF.1.1.1.1.1.1.1.2
 have e8 := hF.1.1.1.1.1.1.2
 have e9 := hF.1.1.1.1.1.2
 have e10 := hF.1.1.1.1.2
 have e11 := hF.1.1.1.2
 have e12 := hF.1.1.2
 have e13 := hF.1.2
 have e14 := hF.2
 clear hF
 simp only [Act.put, List.setIfInBounds_toArray, List.set_cons_succ, List.set_cons_zero, e0, e1, e2, e3, e4, e5, e6, e7, e8, e10]
 clear e0 e1 e2 e3 e4 e5 e6 e7 e8 e10
 unfold VHist at e13
 unfold VBk at e14
 refine Veil.out ?_
 obtain ⟨pv, bv, rfl, hS, hA⟩ := e13
 obtain ⟨G9, rfl, hG9, g9⟩ := e14
 have HSl := Lib.hid (And.intro hS hA)
 obtain ⟨p', n', c', rfl⟩ := own_shape hS
 obtain ⟨q', k', d', rfl⟩ := own_shape hA
 refine Veil.on ?_
 clear e9 e11 e12 hS hA c0 l0 c1 l1 g0 g1
 have hB2 : Below w.heap.size w w1 := bel_trans hB1 hb
 have G2 := (g2.grow hb).rowO (g := G9) #[.int .u64 (pl b 0), .int .u64 (pl b 1), .int .u64 (pl b 2), .int .u64 (pl b 3), .int .u64 (pl b 4), .int .u64 (pl b 5), .int .u64 (pl b 6), .int .u64 (pl b 7), .slice p' n' c', .slice q' k' d'] (by omega)
 have HS2 : Hid (OwnS (w1.setRow G9 #[.int .u64 (pl b 0), .int .u64 (pl b 1), .int .u64 (pl b 2), .int .u64 (pl b 3), .int .u64 (pl b 4), .int .u64 (pl b 5), .int .u64 (pl b 6), .int .u64 (pl b 7), .slice p' n' c', .slice q' k' d']) (w.heap.size + 1 + 1 + 1) (.slice p' n' c') l ∧ OwnA (w1.setRow G9 #[.int .u64 (pl b 0), .int .u64 (pl b 1), .int .u64 (pl b 2), .int .u64 (pl b 3), .int .u64 (pl b 4), .int .u64 (pl b 5), .int .u64 (pl b 6), .int .u64 (pl b 7), .slice p' n' c', .slice q' k' d']) (w.heap.size + 1 + 1 + 1) (.slice q' k' d') (m ++ [a])) := Lib.hid ⟨own_rowT HSl.out.1 g9 (by decide) _, own_rowT HSl.out.2 g9 (by decide) _⟩
 have hB3 : Below w.heap.size w (w1.setRow G9 #[.int .u64 (pl b 0), .int .u64 (pl b 1), .int .u64 (pl b 2), .int .u64 (pl b 3), .int .u64 (pl b 4), .int .u64 (pl b 5), .int .u64 (pl b 6), .int .u64 (pl b 7), .slice p' n' c', .slice q' k' d']) := blw_row hB2 (by omega) _
 have G9' := g9.rowS #[.int .u64 (pl b 0), .int .u64 (pl b 1), .int .u64 (pl b 2), .int .u64 (pl b 3), .int .u64 (pl b 4), .int .u64 (pl b 5), .int .u64 (pl b 6), .int .u64 (pl b 7), .slice p' n' c', .slice q' k' d']
 have r9 := g9.row
 have l9 := g9.lt
 rw [← g9.rw]
 clear HSl g2 g9 hb
 go_wp2_with fail
 generalize w1.setRow G9 #[.int .u64 (pl b 0), .int .u64 (pl b 1), .int .u64 (pl b 2), .int .u64 (pl b 3), .int .u64 (pl b 4), .int .u64 (pl b 5), .int .u64 (pl b 6), .int .u64 (pl b 7), .slice p' n' c', .slice q' k' d'] = w2 at *
 refine (H2.out _ hB3 _ _ (OwnS.sl HS2.out.1) (OwnA.sl HS2.out.2)).mono ?_
 rintro e w3 ⟨rfl, hb3⟩
 have hB4 : Below w.heap.size w w3 := bel_trans hB3 hb3
 replace G2 := G2.grow hb3
 replace G9' := G9'.grow hb3
 have HS3 := Lib.hid (And.intro (own_grow HS2.out.1 hb3) (own_grow HS2.out.2 hb3))
 clear HS2 hb3 r9 l9 hB1 hB2 hB3 l2
 have hne9 : G9 ≠ w.heap.size + 1 + 1 := by omega
 have c9 := G9'.cell
 have l9 := G9'.lt
 have r2 := G2.row
 have l2 := G2.lt
 rw [← G2.rw]
 clear G9'
 cases r with
 | false =>
  go_wp2_with fail
  refine bodyPost_ret (v := .tuple #[.agg #[.int .u64 (pl b 0), .int .u64 (pl b 1), .int .u64 (pl b 2), .int .u64 (pl b 3), .int .u64 (pl b 4), .int .u64 (pl b 5), .int .u64 (pl b 6), .int .u64 (pl b 7), .slice p' n' c', .slice q' k' d'], .int .i64 0]) (by simp [results, Tryz.results40, go_sem, *]) rfl ?_
  have hBf : Below w.heap.size w (w3.setRow (w.heap.size + 1 + 1) #[.int .u64 (pl b 0), .int .u64 (pl b 1), .int .u64 (pl b 2), .int .u64 (pl b 3), .int .u64 (pl b 4), .int .u64 (pl b 5), .int .u64 (pl b 6), .int .u64 (pl b 7), .slice p' n' c', .slice q' k' d']) := blw_row hB4 (by omega) _
  show HRes b l (m ++ [a]) 0 w _ _
  exact ⟨p', n', c', q', k', d', rfl, OwnS.sl (own_rowT HS3.out.1 G2 (by decide) _), OwnA.sl (own_rowT HS3.out.2 G2 (by decide) _), hBf⟩
 | true =>
  go_wp2_with fail
  refine bodyPost_ret (v := .tuple #[.agg #[.int .u64 0, .int .u64 0, .int .u64 0, .int .u64 0, .int .u64 0, .int .u64 0, .int .u64 0, .int .u64 0, .slice none 0 0, .slice none 0 0], .int .i64 y2]) (by simp [results, Tryz.results40, go_sem, *]) rfl ?_
  show _ = _ ∧ _
  exact ⟨rfl, blw_row hB4 (by omega) _⟩
theorem Act_spec (b : Sol) (v av : Value) (l : List Sol) (m : List Ac) (a : Ac) (w : World) (Hv : SlS w v l) (Hav : SlN w av m) :
  Calls Tryz.prog 40 #[.agg #[.int .u64 (pl b 0), .int .u64 (pl b 1), .int .u64 (pl b 2), .int .u64 (pl b 3), .int .u64 (pl b 4), .int .u64 (pl b 5), .int .u64 (pl b 6), .int .u64 (pl b 7), v, av], .agg #[.int .u8 a.1, .int .i64 a.2.1, .int .u64 (pl a.2.2 0), .int .u64 (pl a.2.2 1), .int .u64 (pl a.2.2 2), .int .u64 (pl a.2.2 3), .int .u64 (pl a.2.2 4), .int .u64 (pl a.2.2 5), .int .u64 (pl a.2.2 6), .int .u64 (pl a.2.2 7)]] w (ActRes b l m a w) := by
 have Hv' := Hv
 have Hav' := Hav.1
 obtain ⟨p, c, rfl, _, _⟩ := Hv'
 obtain ⟨q, d, rfl, hkd, _⟩ := Hav'
 have hl : m.length = (m.map acL).length := (List.length_map ..).symm
 by_cases h0 : (checkR b l m).2 = 0
 ·obtain ⟨s, hs⟩ := checkR_ok h0
  have h60 := checkR_len h0
  have H := Lib.hid fun w' (hb : Below w.heap.size w w') => begun_good hs w' (Hv.mono hb) (Hav.1.mono hb)
  have h8 := chkPat_ok (begunM_good hs).1
  have H2 := Lib.hid fun w' (hb : Below w.heap.size w w') => fun pv bv (hp : SlS w' pv l) (ha : SlA w' bv (m ++ [a])) => Check_spec b pv bv l (m ++ [a]) w' hp ha
  by_cases h2 : (checkR b l (m ++ [a])).2 = 0
  ·exact (Act_go b p q _ c _ d a w false _ _ l m s hl hkd (Lib.hid Hav) (by omega) h8 (Lib.hid Hv) (by simpa using h2) H H2).mono fun e w' h => actRes_yes h0 h2 (by rw [if_neg (by decide)] at h; exact h)
  ·exact (Act_go b p q _ c _ d a w true _ _ l m s hl hkd (Lib.hid Hav) (by omega) h8 (Lib.hid Hv) (by simpa using h2) H H2).mono fun e w' h => actRes_no2 h0 h2 (by rw [if_pos rfl] at h; obtain ⟨rfl, hb⟩ := h; exact hres_zero hb)
 ·have H := Lib.hid fun w' (hb : Below w.heap.size w w') => begun_no b l m w' (Hv.mono hb) (Hav.1.mono hb) h0
  exact (Act_no b p q _ c _ d a w _ _ (by simpa using h0) H).mono fun e w' h => actRes_no h0 (by obtain ⟨rfl, hb⟩ := h; exact hres_zero hb)
end Go.Proofs.YtccnkebkgegohaaGreatDoor
end
section
namespace Go.Proofs.YtccnkebkgegohaaGreatDoor
open Go.RowKit Go.Rel
set_option maxRecDepth 100000
@[irreducible] def VH5 (base : Nat) (b : Sol) (p : Option Addr) (n c : Nat) (m : List Ac) (v : Value) (W : World) : Prop := ∃ bv, v = .agg #[.int .u64 (pl b 0), .int .u64 (pl b 1), .int .u64 (pl b 2), .int .u64 (pl b 3), .int .u64 (pl b 4), .int .u64 (pl b 5), .int .u64 (pl b 6), .int .u64 (pl b 7), .slice p n c, bv] ∧ OwnA W base bv m
theorem VH5.stab {base : Nat} {b : Sol} {p : Option Addr} {n c : Nat} {m : List Ac} (v : Value) (W W' : World) (h : VH5 base b p n c m v W) (g : Grows W W') : VH5 base b p n c m v W' := by
 unfold VH5 at *; obtain ⟨bv, h1, h2⟩ := h; exact ⟨bv, h1, own_grow h2 g⟩
/-- while neighbours are exchanged: their list lies as it was, with the one stored, with both -/
structure InvX (G5 : Nat) (hdr : Array Value) (base g cap i : Nat) (m : List Ac) (cur : Array Value) (x y : Ac) (d1 d2 : Bool) (W : World) : Prop where
 hd : Blk W G5 hdr 30
 own : d1 = false → OwnB W base m g cap cur
 own1 : d1 = true → d2 = false → OwnB W base (m.set i y) g cap (spl cur (i * 10) (acL y))
 own2 : d2 = true → OwnB W base ((m.set i y).set (i + 1) x) g cap (spl (spl cur (i * 10) (acL y)) ((i + 1) * 10) (acL x))
theorem OwnB.grow {W W' : World} {base g cap : Nat} {m : List Ac} {cur : Array Value} (h : OwnB W base m g cap cur) (hb : Below W.heap.size W W') : OwnB W' base m g cap cur := ⟨h.base, h.blk.grow hb, h.le, h.lim, h.size, h.rows⟩
end Go.Proofs.YtccnkebkgegohaaGreatDoor
end
section
namespace Go.Proofs.YtccnkebkgegohaaGreatDoor
open Go
theorem zeroCells_len (z : Array Value) (n : Nat) : (Builtin.zeroCells z n).toList.length = n * z.size := by simp [Builtin.zeroCells]
theorem zeroCells_one {z : Array Value} (h : ∀ v ∈ z.toList, v.oneCell' = true) (n : Nat) : ∀ v ∈ (Builtin.zeroCells z n).toList, v.oneCell' = true := by
 intro v hv
 obtain ⟨i, hi, rfl⟩ := List.mem_iff_getElem.1 hv
 rw [zeroCells_len] at hi
 have h0 : 0 < z.size := by
  rcases Nat.eq_zero_or_pos z.size with h | h
  ·rw [h] at hi; simp at hi
  ·exact h
 have hm : i % z.size < z.size := Nat.mod_lt _ h0
 simp only [Builtin.zeroCells, Array.getElem_toList, Array.getElem_ofFn]
 refine h _ ?_
 simp [Array.getD, hm]
theorem run_clear_rows {P : Program} (w : World) (t e ty : TypeId) (z : Value) (ht : P.underlying t = some (.slice e)) (hv : ∀ w, (zeroValue e).run P w = .ok z w) (h1 : ∀ v ∈ z.cells.toList, v.oneCell' = true) (g o n c : Nat) (hn : 0 < n)
  (cur : Array Value) (tt : TypeId) (hg : w.heap[g]? = some (.cells cur tt (0, 0))) (hfit : o + n * z.cells.size ≤ cur.size) :
  (Builtin.clear_ #[t] ty #[.slice (some ⟨g, o, none⟩) n c]).run P w = .ok (.tuple #[]) (w.setRow g (spl cur o (Builtin.zeroCells z.cells n).toList)) := by
 have hst := run_storeCells_at (P := P) g o tt (Builtin.zeroCells z.cells n).toList 0 cur w hg (by rw [zeroCells_len]; simpa using hfit) (zeroCells_one h1 n)
 simp only [Nat.add_zero] at hst
 obtain ⟨m, rfl⟩ : ∃ m, n = m + 1 := ⟨n - 1, by omega⟩
 simp [Builtin.clear_, run_underlying ht, hv, hst, spl]
theorem spl_lo {cur : Array Value} {o : Nat} {vs : List Value} (hf : o + vs.length ≤ cur.size) : (spl cur o vs).toList.take (o + vs.length) = cur.toList.take o ++ vs := by
 unfold spl
 have hl : (cur.toList.take o ++ vs).length = o + vs.length := by rw [List.length_append, List.length_take, Array.length_toList]; omega
 show (cur.toList.take o ++ vs ++ cur.toList.drop (o + vs.length)).take (o + vs.length) = _
 rw [← hl, List.take_left]
theorem spl_take_lo {cur : Array Value} {o k : Nat} {vs : List Value} (hk : k ≤ o) (ho : o ≤ cur.size) : (spl cur o vs).toList.take k = cur.toList.take k := by
 unfold spl
 show (cur.toList.take o ++ vs ++ cur.toList.drop (o + vs.length)).take k = _
 rw [List.append_assoc, List.take_append_of_le_length (by rw [List.length_take, Array.length_toList]; omega), List.take_take, Nat.min_eq_left hk]
end Go.Proofs.YtccnkebkgegohaaGreatDoor
end
section
namespace Go.Proofs.YtccnkebkgegohaaGreatDoor
open Go.RowKit Go.Rel
set_option maxRecDepth 100000
theorem sl_dropn {w : World} {k i n c : Nat} {a : Option Addr} {xs : List (List Value)} (h : Sl w k (.slice a n c) xs) (hi : i ≤ n) : Sl w k (sliced a i n c k) (xs.drop i) := by
 obtain ⟨a', c', he, h1, h2, h3⟩ := h
 cases he
 have hl : (xs.drop i).length = xs.length - i := by rw [List.length_drop]
 unfold sliced
 refine ⟨_, _, by rw [hl], by rw [hl]; omega, by omega, ?_⟩
 rcases h3 with rfl | ⟨b, off, rfl, h4⟩
 ·exact .inl (by simp)
 ·by_cases hx : xs.drop i = []
  ·exact .inl hx
  ·have hlt : i < xs.length := by
    rcases Nat.lt_or_ge i xs.length with h | h
    ·exact h
    ·exact absurd (List.drop_eq_nil_of_le h) hx
   refine .inr ⟨b, off + i * k, ?_, h4.1, fun p j u hu => ?_⟩
   ·simp only [Option.map_some]
    rw [if_neg (by omega), Go.WideShapes.add_plain]
   ·obtain ⟨r, hr, hj⟩ := Option.bind_eq_some_iff.1 hu
    rw [List.getElem?_drop] at hr
    have := h4.2 (i + p) j u (by rw [hr]; exact hj)
    rw [show off + i * k + p * k + j = off + (i + p) * k + j by rw [Nat.add_mul]; omega]
    exact this
theorem acs_at {W : World} {q : Option Addr} {n c : Nat} {l : List Ac} {j : Nat} {x : Ac} (h : SlA W (.slice q n c) l) (hx : l[j]? = some x) : ∃ b o, q = some ⟨b, o, none⟩ ∧ Cells W b o 10 (l.map acL) := by
 rcases Sl.cases h with ⟨hl, _⟩ | ⟨b, o, c', he, _, _, _, hc⟩
 ·have : l = [] := by simpa using hl
  subst this; cases hx
 ·injection he with h1 _ _
  exact ⟨b, o, h1, hc⟩
end Go.Proofs.YtccnkebkgegohaaGreatDoor
end
section
namespace Go.Proofs.YtccnkebkgegohaaGreatDoor
open Go.RowKit Go.Rel
set_option maxRecDepth 100000
end Go.Proofs.YtccnkebkgegohaaGreatDoor
end
section
namespace Go.Proofs.YtccnkebkgegohaaGreatDoor
open Go.RowKit Go.Rel
set_option maxRecDepth 100000
/-! First -/
/-- the numbers below k of a kind -/
def FI (P : Nat → Bool) (k : Nat) : List Int := ((List.range k).filter P).map fun (t : Nat) => (t : Int)
end Go.Proofs.YtccnkebkgegohaaGreatDoor
end
