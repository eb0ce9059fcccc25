import Derived.Test.YtccnkebkgegohaaGreatDoorG05
/-
  Given contracts of functions of the program, and laws for them, one behind the other.
-/
set_option linter.unusedVariables false
set_option linter.unusedSimpArgs false
set_option linter.unusedSectionVars false
section
namespace Go.Proofs.YtccnkebkgegohaaGreatDoor
open Go.RowKit Go.Rel
set_option maxRecDepth 100000
/-! a block known whole -/
def Blk (w : World) (b : Nat) (c : Array Value) (t : TypeId) : Prop := w.heap[b]? = some (.cells c t (0, 0))
theorem Blk.cell {w : World} {b : Nat} {c : Array Value} {t : TypeId} (h : Blk w b c t) (o : Nat) : w.cell? ⟨b, o, none⟩ = c[o]? := by
 unfold Blk at h; simp [World.cell?, h]
theorem Blk.free {w : World} {b : Nat} {c : Array Value} {t : TypeId} (h : Blk w b c t) (o : Nat) : w.frozen? ⟨b, o, none⟩ = false := by
 unfold Blk at h; simp [World.frozen?, h]
theorem Blk.lt {w : World} {b : Nat} {c : Array Value} {t : TypeId} (h : Blk w b c t) : b < w.heap.size := (Array.getElem?_eq_some_iff.1 h).1
theorem Blk.set {w : World} {b : Nat} {c : Array Value} {t : TypeId} (h : Blk w b c t) (o : Nat) (v : Value) : Blk (w.setCell ⟨b, o, none⟩ v) b (c.setIfInBounds o v) t := by
 unfold Blk at *
 simp [World.setCell, Array.getElem?_modify, h]
theorem Blk.other {w : World} {b : Nat} {c : Array Value} {t : TypeId} (h : Blk w b c t) {a : Addr} (hne : a.block ≠ b) (v : Value) : Blk (w.setCell a v) b c t :=
 (Below.heap_setCell w a v b (Ne.symm hne)).trans h
theorem Blk.below {w w' : World} {b : Nat} {c : Array Value} {t : TypeId} (h : Blk w b c t) {B : Nat} (hb : Below B w w') (hlt : b < B) : Blk w' b c t := (hb.block b hlt).trans h
theorem Blk.grow {w w' : World} {b : Nat} {c : Array Value} {t : TypeId} (h : Blk w b c t) (hb : Below w.heap.size w w') : Blk w' b c t := h.below hb h.lt
theorem Blk.alloc {w : World} {b : Nat} {c : Array Value} {t : TypeId} (h : Blk w b c t) (o : Obj) : Blk (w.alloc o) b c t := (Below.heap_alloc w o b h.lt).trans h
theorem Blk.drew {w : World} {b : Nat} {c : Array Value} {t : TypeId} (h : Blk w b c t) : Blk w.drew b c t := h
theorem Blk.new (w : World) (c : Array Value) (t : TypeId) : Blk (w.alloc (.cells c t)) w.heap.size c t := by
 unfold Blk; show (w.heap.push _)[w.heap.size]? = _; simp
theorem Blk.new1 (w : World) (o : Obj) (c : Array Value) (t : TypeId) : Blk ((w.alloc o).alloc (.cells c t)) (w.heap.size + 1) c t := by
 have := Blk.new (w.alloc o) c t; rwa [World.size_alloc] at this
theorem Blk.new2 (w : World) (o o' : Obj) (c : Array Value) (t : TypeId) : Blk (((w.alloc o).alloc o').alloc (.cells c t)) (w.heap.size + 1 + 1) c t := by
 have := Blk.new1 (w.alloc o) o' c t; rwa [World.size_alloc] at this
theorem Blk.new3 (w : World) (o o' o'' : Obj) (c : Array Value) (t : TypeId) : Blk ((((w.alloc o).alloc o').alloc o'').alloc (.cells c t)) (w.heap.size + 1 + 1 + 1) c t := by
 have := Blk.new2 (w.alloc o) o' o'' c t; rwa [World.size_alloc] at this
theorem setRow_setCell (w : World) (g i : Nat) (cs : Array Value) (v : Value) : (w.setRow g cs).setCell ⟨g, i, none⟩ v = w.setRow g (cs.setIfInBounds i v) := by
 unfold World.setCell World.setRow
 congr 1
 apply Array.ext
 ·simp
 ·intro k h1 h2
  simp only [Array.getElem_modify]
  split
  ·cases w.heap[k]'(by simpa using h1) <;> rfl
  ·rfl
theorem setRow_setCell_other (w : World) (g k i : Nat) (cs : Array Value) (v : Value) (h : k ≠ g) : (w.setRow g cs).setCell ⟨k, i, none⟩ v = (w.setCell ⟨k, i, none⟩ v).setRow g cs := by
 unfold World.setCell World.setRow
 congr 1
 apply Array.ext
 ·simp
 ·intro j h1 h2
  simp only [Array.getElem_modify]
  by_cases e1 : g = j
  ·by_cases e2 : k = j
   ·exact absurd (e2.trans e1.symm) h
   ·simp [e1, e2]
  ·simp [e1]
theorem cell_row_other (w : World) (g k i : Nat) (cs : Array Value) (h : k ≠ g) : (w.setRow g cs).cell? ⟨k, i, none⟩ = w.cell? ⟨k, i, none⟩ := cell_setRow_other w g cs ⟨k, i, none⟩ h
theorem frozen_row_other (w : World) (g k i : Nat) (cs : Array Value) (h : k ≠ g) : (w.setRow g cs).frozen? ⟨k, i, none⟩ = w.frozen? ⟨k, i, none⟩ := by
 simp [World.frozen?, setRow_other w g k cs h]
theorem row_drew (w : World) (g : Nat) (cs : Array Value) : w.drew.setRow g cs = (w.setRow g cs).drew := rfl
attribute [go_sem] setRow_size setRow_setCell setRow_setCell_other cell_row_other frozen_row_other row_drew
/-- there is a row of cells at g, none of them frozen -/
def Row (w : World) (g : Nat) : Prop := ∃ c t, Blk w g c t
theorem cell_row_at (w : World) (g i : Nat) (cs : Array Value) (h : Row w g) : (w.setRow g cs).cell? ⟨g, i, none⟩ = cs[i]? := by
 obtain ⟨c, t, h⟩ := h; exact cell_setRow_same w g i c cs t (0, 0) h
theorem frozen_row_at (w : World) (g i : Nat) (cs : Array Value) (h : Row w g) : (w.setRow g cs).frozen? ⟨g, i, none⟩ = false := by
 obtain ⟨c, t, h⟩ := h; exact frozen_of_row _ g i cs t (setRow_heap w g c cs t (0, 0) h)
theorem row_setRow (w : World) (g k : Nat) (cs : Array Value) : Row (w.setRow k cs) g = Row w g := by
 by_cases e : g = k
 ·subst e
  refine propext ⟨fun ⟨c, t, h⟩ => ?_, fun ⟨c, t, h⟩ => ⟨_, _, setRow_heap w g c cs t (0, 0) h⟩⟩
  unfold Blk World.setRow at h
  simp only [Array.getElem?_modify] at h
  cases hh : w.heap[g]? with
  | none => rw [hh] at h; simp at h
  | some o =>
   rw [hh] at h
   cases o with
   | cells c' t' fr => simp at h; exact ⟨c', t', by unfold Blk; rw [hh]; simp [h]⟩
   | _ => simp at h
 ·refine propext ⟨fun ⟨c, t, h⟩ => ⟨c, t, ?_⟩, fun ⟨c, t, h⟩ => ⟨c, t, ?_⟩⟩
  ·unfold Blk at *; rwa [setRow_other w k g cs e] at h
  ·unfold Blk at *; rwa [setRow_other w k g cs e]
attribute [go_sem] cell_row_at frozen_row_at row_setRow
theorem Blk.row {w : World} {b : Nat} {c : Array Value} {t : TypeId} (h : Blk w b c t) : Row w b := ⟨c, t, h⟩
theorem Blk.rw {w : World} {b : Nat} {c : Array Value} {t : TypeId} (h : Blk w b c t) : w.setRow b c = w := setRow_self w b c t (0, 0) h
theorem Blk.rowS {w : World} {b : Nat} {c : Array Value} {t : TypeId} (h : Blk w b c t) (cs : Array Value) : Blk (w.setRow b cs) b cs t := setRow_heap w b c cs t (0, 0) h
theorem Blk.at {w : World} {n : Nat} (c : Array Value) (t : TypeId) (h : n = w.heap.size) : Blk (w.alloc (.cells c t)) n c t := by subst h; exact Blk.new w c t
theorem add1_ne (x : Nat) : (x + 1 = x) = False := by simp
theorem add2_ne (x : Nat) : (x + 1 + 1 = x) = False := eq_false (by omega)
theorem add3_ne (x : Nat) : (x + 1 + 1 + 1 = x) = False := eq_false (by omega)
theorem add4_ne (x : Nat) : (x + 1 + 1 + 1 + 1 = x) = False := eq_false (by omega)
theorem ne_add1 (x : Nat) : (x = x + 1) = False := by simp
theorem ne_add2 (x : Nat) : (x = x + 1 + 1) = False := eq_false (by omega)
theorem ne_add3 (x : Nat) : (x = x + 1 + 1 + 1) = False := eq_false (by omega)
theorem ne_add4 (x : Nat) : (x = x + 1 + 1 + 1 + 1) = False := eq_false (by omega)
attribute [go_sem] add1_ne add2_ne add3_ne add4_ne ne_add1 ne_add2 ne_add3 ne_add4
theorem Blk.rowO {w : World} {b : Nat} {c : Array Value} {t : TypeId} (h : Blk w b c t) {g : Nat} (cs : Array Value) (hne : b ≠ g) : Blk (w.setRow g cs) b c t := (setRow_other w g b cs hne).trans h
theorem bel_row {w0 w : World} (h : Below w0.heap.size w0 w) {g : Nat} (hg : w0.heap.size ≤ g) (cs : Array Value) : Below w0.heap.size w0 (w.setRow g cs) :=
 ⟨h.os, h.tape, h.output, by rw [setRow_size]; exact h.size, fun k hk => (setRow_other w g k cs (by omega)).trans (h.block k hk)⟩
theorem blw_row {B : Nat} {w0 w : World} (h : Below B w0 w) {g : Nat} (hg : B ≤ g) (cs : Array Value) : Below B w0 (w.setRow g cs) :=
 ⟨h.os, h.tape, h.output, by rw [setRow_size]; exact h.size, fun k hk => (setRow_other w g k cs (by omega)).trans (h.block k hk)⟩
theorem assertCut (v : Value) (W : World) : (Instr.typeAssert (.iface 212 v) 122 212 true).run Tryz.prog W = .ok (.tuple #[v, .bool true]) W := by kernel_rfl
theorem assertFit (v : Value) (W : World) : (Instr.typeAssert (.iface 217 v) 122 217 true).run Tryz.prog W = .ok (.tuple #[v, .bool true]) W := by kernel_rfl
theorem assertTake (v : Value) (W : World) : (Instr.typeAssert (.iface 218 v) 122 218 true).run Tryz.prog W = .ok (.tuple #[v, .bool true]) W := by kernel_rfl
theorem assertFitCut (v : Value) (W : World) : (Instr.typeAssert (.iface 217 v) 122 212 true).run Tryz.prog W = .ok (.tuple #[.agg #[.int .u64 0, .int .u64 0, .int .u64 0, .int .u64 0, .int .u64 0, .int .u64 0, .int .u64 0, .int .u64 0], .bool false]) W := by kernel_rfl
theorem assertTakeCut (v : Value) (W : World) : (Instr.typeAssert (.iface 218 v) 122 212 true).run Tryz.prog W = .ok (.tuple #[.agg #[.int .u64 0, .int .u64 0, .int .u64 0, .int .u64 0, .int .u64 0, .int .u64 0, .int .u64 0, .int .u64 0], .bool false]) W := by kernel_rfl
theorem assertTakeFit (v : Value) (W : World) : (Instr.typeAssert (.iface 218 v) 122 217 true).run Tryz.prog W = .ok (.tuple #[.agg #[.int .u8 0, .int .u64 0, .int .u64 0, .int .u64 0, .int .u64 0, .int .u64 0, .int .u64 0, .int .u64 0, .int .u64 0], .bool false]) W := by kernel_rfl
set_option maxHeartbeats 1000000 in
theorem done_cut (c wd : Sol) (on : Int) (w : World) :
  Calls Tryz.prog 144 #[.agg #[.int .u64 (pl wd 0), .int .u64 (pl wd 1), .int .u64 (pl wd 2), .int .u64 (pl wd 3), .int .u64 (pl wd 4), .int .u64 (pl wd 5), .int .u64 (pl wd 6), .int .u64 (pl wd 7), .int .u8 on], .iface 212 (.agg #[.int .u64 (pl c 0), .int .u64 (pl c 1), .int .u64 (pl c 2), .int .u64 (pl c 3), .int .u64 (pl c 4), .int .u64 (pl c 5), .int .u64 (pl c 6), .int .u64 (pl c 7)])] w fun e w' => e = .returned (.agg #[.int .u64 (pl (wd &&& ~~~c) 0), .int .u64 (pl (wd &&& ~~~c) 1), .int .u64 (pl (wd &&& ~~~c) 2), .int .u64 (pl (wd &&& ~~~c) 3), .int .u64 (pl (wd &&& ~~~c) 4), .int .u64 (pl (wd &&& ~~~c) 5), .int .u64 (pl (wd &&& ~~~c) 6), .int .u64 (pl (wd &&& ~~~c) 7), .int .u8 on]) ∧ Below w.heap.size w w' := by
 have hA := assertCut
 have H := Lib.hid (Less_spec wd c)
 go_enter Tryz.func144, Tryz.ntmps144
 go_wp2_with fail
 refine (H.out _).mono ?_
 rintro e w1 ⟨rfl, hb⟩
 have b0 : Blk w1 w.heap.size #[.int .u64 (pl wd 0), .int .u64 (pl wd 1), .int .u64 (pl wd 2), .int .u64 (pl wd 3), .int .u64 (pl wd 4), .int .u64 (pl wd 5), .int .u64 (pl wd 6), .int .u64 (pl wd 7), .int .u8 on] 37 := Blk.grow (by repeat (first | with_reducible assumption | (refine Blk.at _ _ ?_; (simp; done)) | with_reducible refine Blk.alloc ?_ _ | with_reducible refine Blk.drew ?_ | with_reducible refine Blk.rowS ?_ _ | with_reducible refine Blk.rowO ?_ _ (by simp))) hb
 have b1 : Blk w1 (w.heap.size + 1) #[.int .u64 0, .int .u64 0, .int .u64 0, .int .u64 0, .int .u64 0, .int .u64 0, .int .u64 0, .int .u64 0, .int .u8 0] 37 := Blk.grow (by repeat (first | with_reducible assumption | (refine Blk.at _ _ ?_; (simp; done)) | with_reducible refine Blk.alloc ?_ _ | with_reducible refine Blk.drew ?_ | with_reducible refine Blk.rowS ?_ _ | with_reducible refine Blk.rowO ?_ _ (by simp))) hb
 have r0 := b0.row
 have r1 := b1.row
 rw [← b1.rw, ← b0.rw]
 clear b0 b1
 go_wp2_with fail
 refine bodyPost_ret (by simp [results, Tryz.results144, go_sem, *]) rfl ⟨rfl, bel_by⟩
end Go.Proofs.YtccnkebkgegohaaGreatDoor
end
section
namespace Go.Proofs.YtccnkebkgegohaaGreatDoor
open Go.RowKit Go.Rel
set_option maxRecDepth 100000
/-! what a walk lays, found by its form -/
theorem blk_by {w : World} {g : Nat} {c : Array Value} {t : TypeId} (h : Blk w g c t := by repeat (first | with_reducible assumption | (refine Blk.at _ _ ?_; (simp; done)) | with_reducible refine Blk.alloc ?_ _ | with_reducible refine Blk.drew ?_ | with_reducible refine Blk.rowS ?_ _ | with_reducible refine Blk.rowO ?_ _ (by simp))) : Blk w g c t := h
theorem bks_by {w : World} {g : Nat} {c : Array Value} {t : TypeId} (h : Blk w g c t := by repeat (first | (refine Blk.at _ _ ?_; (simp; done)) | refine Blk.alloc ?_ _ | refine Blk.drew ?_)) : Blk w g c t := h
end Go.Proofs.YtccnkebkgegohaaGreatDoor
end
section
namespace Go.Proofs.YtccnkebkgegohaaGreatDoor
open Go.RowKit Go.Rel
set_option maxRecDepth 100000
abbrev stA (s : Sol) (o : Int) : Array Value := #[.int .u64 (pl s 0), .int .u64 (pl s 1), .int .u64 (pl s 2), .int .u64 (pl s 3), .int .u64 (pl s 4), .int .u64 (pl s 5), .int .u64 (pl s 6), .int .u64 (pl s 7), .int .u8 o]
structure InvD (h : Nat) (s s2 : Sol) (o o2 : Int) (c : Sol) (bt : Int) (ty : TypeId) (f g : Bool) (W : World) : Prop where
 mk ::
 a : Blk W h (stA (bif f then s2 else s) (bif g then o2 else o)) 37
 b : Blk W (h + 1) #[.int .u64 0, .int .u64 0, .int .u64 0, .int .u64 0, .int .u64 0, .int .u64 0, .int .u64 0, .int .u64 0, .int .u8 0] 37
 c : Blk W (h + 1 + 1) #[.int .u8 bt, .int .u64 (pl c 0), .int .u64 (pl c 1), .int .u64 (pl c 2), .int .u64 (pl c 3), .int .u64 (pl c 4), .int .u64 (pl c 5), .int .u64 (pl c 6), .int .u64 (pl c 7)] ty
theorem blw_rows {B : Nat} {w : World} {g : Nat} (hg : B ≤ g) (a b : Array Value) : Below B (w.setRow g a) (w.setRow g b) :=
 ⟨rfl, rfl, rfl, by rw [setRow_size, setRow_size]; exact Nat.le_refl _, fun k hk => (setRow_other w g k b (by omega)).trans (setRow_other w g k a (by omega)).symm⟩
section
variable {h : Nat} {s s2 : Sol} {o o2 : Int} {c : Sol} {bt : Int} {ty : TypeId} {f g : Bool} {W : World}
theorem InvD.cA (H : InvD h s s2 o o2 c bt ty f g W) : ∀ i, W.cell? ⟨h, i, none⟩ = (stA (bif f then s2 else s) (bif g then o2 else o))[i]? := H.a.cell
theorem InvD.cC (H : InvD h s s2 o o2 c bt ty f g W) : ∀ i, W.cell? ⟨h + 1 + 1, i, none⟩ = (#[.int .u8 bt, .int .u64 (pl c 0), .int .u64 (pl c 1), .int .u64 (pl c 2), .int .u64 (pl c 3), .int .u64 (pl c 4), .int .u64 (pl c 5), .int .u64 (pl c 6), .int .u64 (pl c 7)] : Array Value)[i]? := H.c.cell
theorem InvD.grow (H : InvD h s s2 o o2 c bt ty f g W) {W' : World} (hb : Below W.heap.size W W') : InvD h s s2 o o2 c bt ty f g W' := ⟨H.a.grow hb, H.b.grow hb, H.c.grow hb⟩
theorem InvD.set13 (H : InvD h s s2 o o2 c bt ty f g W) : InvD h s s2 o o2 c bt ty true g (W.setRow h (stA s2 (bif g then o2 else o))) := ⟨H.a.rowS _, H.b.rowO _ (by omega), H.c.rowO _ (by omega)⟩
theorem InvD.set15 (H : InvD h s s2 o o2 c bt ty f g W) : InvD h s s2 o o2 c bt ty f true (W.setRow h (stA (bif f then s2 else s) o2)) := ⟨H.a.rowS _, H.b.rowO _ (by omega), H.c.rowO _ (by omega)⟩
theorem InvD.done (H : InvD h s s2 o o2 c bt ty (decide (13 < 16)) (decide (15 < 16)) W) : InvD h s s2 o o2 c bt ty true true W := H
end

set_option maxHeartbeats 4000000 in
theorem done_fit (b : Int) (c wd : Sol) (on : Int) (w : World) :
  Calls Tryz.prog 144 #[.agg #[.int .u64 (pl wd 0), .int .u64 (pl wd 1), .int .u64 (pl wd 2), .int .u64 (pl wd 3), .int .u64 (pl wd 4), .int .u64 (pl wd 5), .int .u64 (pl wd 6), .int .u64 (pl wd 7), .int .u8 on], .iface 217 (.agg #[.int .u8 b, .int .u64 (pl c 0), .int .u64 (pl c 1), .int .u64 (pl c 2), .int .u64 (pl c 3), .int .u64 (pl c 4), .int .u64 (pl c 5), .int .u64 (pl c 6), .int .u64 (pl c 7)])] w fun e w' => e = .returned (.agg #[.int .u64 (pl (wd ||| c) 0), .int .u64 (pl (wd ||| c) 1), .int .u64 (pl (wd ||| c) 2), .int .u64 (pl (wd ||| c) 3), .int .u64 (pl (wd ||| c) 4), .int .u64 (pl (wd ||| c) 5), .int .u64 (pl (wd ||| c) 6), .int .u64 (pl (wd ||| c) 7), .int .u8 (bits .or .u8 on b)]) ∧ Below w.heap.size w w' := by
 have hA := assertFitCut
 have hA2 := assertFit
 have H := Lib.hid (Join_spec wd c)
 generalize hs2 : (wd ||| c) = s2 at H ⊢
 generalize ho2 : bits .or .u8 on b = o2
 have HO := Lib.hid ho2; clear ho2 hs2
 go_enter Tryz.func144, Tryz.ntmps144
 go_wp2_with fail
 refine wp_region_inv (Below w.heap.size) (fun L => InvD w.heap.size wd s2 on o2 c b 217 (L 13) (L 15)) [Is (.pointer (some ⟨w.heap.size, 0, none⟩)), Is (.agg #[.int .u64 (pl wd 0), .int .u64 (pl wd 1), .int .u64 (pl wd 2), .int .u64 (pl wd 3), .int .u64 (pl wd 4), .int .u64 (pl wd 5), .int .u64 (pl wd 6), .int .u64 (pl wd 7)]), Is (.pointer (some ⟨w.heap.size + 1 + 1, 0, none⟩)), Is (.pointer (some ⟨w.heap.size + 1 + 1, 1, none⟩)), Is (.agg #[.int .u64 (pl c 0), .int .u64 (pl c 1), .int .u64 (pl c 2), .int .u64 (pl c 3), .int .u64 (pl c 4), .int .u64 (pl c 5), .int .u64 (pl c 6), .int .u64 (pl c 7)]), Is (.agg #[.int .u64 (pl s2 0), .int .u64 (pl s2 1), .int .u64 (pl s2 2), .int .u64 (pl s2 3), .int .u64 (pl s2 4), .int .u64 (pl s2 5), .int .u64 (pl s2 6), .int .u64 (pl s2 7)]), Is (.pointer (some ⟨w.heap.size, 8, none⟩)), Is (.int .u8 on), Is (.pointer (some ⟨w.heap.size + 1 + 1, 0, none⟩)), Is (.pointer (some ⟨w.heap.size + 1 + 1, 0, none⟩)), Is (.int .u8 b), Is (.int .u8 o2), Is (.pointer (some ⟨w.heap.size, 0, none⟩)), Is undef, Is (.pointer (some ⟨w.heap.size, 8, none⟩)), Is undef] (by kernel_rfl) (by kernel_rfl) rfl (Below.refl w.heap.size) (fun _ _ _ => Below.trans) (stable_mem ⟨fun _ _ _ h _ => h, fun _ _ _ h _ => h, fun _ _ _ h _ => h, fun _ _ _ h _ => h, fun _ _ _ h _ => h, fun _ _ _ h _ => h, fun _ _ _ h _ => h, fun _ _ _ h _ => h, fun _ _ _ h _ => h, fun _ _ _ h _ => h, fun _ _ _ h _ => h, fun _ _ _ h _ => h, fun _ _ _ h _ => h, fun _ _ _ h _ => h, fun _ _ _ h _ => h, fun _ _ _ h _ => h, trivial⟩) w bel_by (InvD.mk blk_by blk_by blk_by) ?_
 refine inv_cons ?_ (fun v0 => ?_)
 ·intro L w1 hat hb hI hF; try simp [factsI, Region.binds, Is] at hF
  go_simp
  exact Below.refl _ _
 refine inv_cons ?_ (fun v1 => ?_)
 ·intro L w1 hat hb hI hF; try simp [factsI, Region.binds, Is] at hF
  have h13 : L 13 = false := hat.later 9 13 (by kernel_rfl)
  have c0 := hI.cA
  rw [h13] at c0 hI
  go_simp
  exact Below.refl _ _
 iterate 2 (refine inv_cons ?_ (fun _ => ?_); · intro L w1 hat hb hI hF; (try simp [factsI, Region.binds, Is] at hF); go_simp; exact Below.refl _ _)
 refine inv_cons ?_ (fun v4 => ?_)
 ·intro L w1 hat hb hI hF; try simp [factsI, Region.binds, Is] at hF
  have c0 := hI.cC
  go_simp
  exact Below.refl _ _
 refine inv_cons ?_ (fun v5 => ?_)
 ·intro L w1 hat hb hI hF; try simp [factsI, Region.binds, Is] at hF
  have HI := Lib.hid hI; clear hI
  go_simp
  refine (H.out _).mono ?_
  rintro e w2 ⟨rfl, hb2⟩
  exact ⟨_, rfl, hb2.mono hb.size, HI.out.grow hb2, rfl⟩
 refine inv_cons ?_ (fun v6 => ?_)
 ·intro L w1 hat hb hI hF; try simp [factsI, Region.binds, Is] at hF
  go_simp
  exact Below.refl _ _
 refine inv_cons ?_ (fun v7 => ?_)
 ·intro L w1 hat hb hI hF; try simp [factsI, Region.binds, Is] at hF
  have h15 : L 15 = false := hat.later 9 15 (by kernel_rfl)
  have c0 := hI.cA
  rw [h15] at c0 hI
  go_simp
  exact Below.refl _ _
 iterate 2 (refine inv_cons ?_ (fun _ => ?_); · intro L w1 hat hb hI hF; (try simp [factsI, Region.binds, Is] at hF); go_simp; exact Below.refl _ _)
 refine inv_cons ?_ (fun v10 => ?_)
 ·intro L w1 hat hb hI hF; try simp [factsI, Region.binds, Is] at hF
  have c0 := hI.cC
  go_simp
  exact Below.refl _ _
 refine inv_cons ?_ (fun v11 => ?_)
 ·intro L w1 hat hb hI hF; try simp [factsI, Region.binds, Is] at hF
  have ho2 := HO.out
  go_simp
  exact Below.refl _ _
 refine inv_cons ?_ (fun v12 => ?_)
 ·intro L w1 hat hb hI hF; try simp [factsI, Region.binds, Is] at hF
  go_simp
  exact Below.refl _ _
 refine inv_cons ?_ (fun v13 => ?_)
 ·intro L w1 hat hb hI hF; try simp [factsI, Region.binds, Is] at hF
  have r0 := hI.a.row
  have HS := Lib.hid (hI.set13)
  rw [← hI.a.rw]
  clear hI
  go_simp
  exact ⟨blw_rows (Nat.le_refl _) _ _, HS.out⟩
 refine inv_cons ?_ (fun v14 => ?_)
 ·intro L w1 hat hb hI hF; try simp [factsI, Region.binds, Is] at hF
  go_simp
  exact Below.refl _ _
 refine inv_cons ?_ (fun v15 => ?_)
 ·intro L w1 hat hb hI hF; try simp [factsI, Region.binds, Is] at hF
  have r0 := hI.a.row
  have HS := Lib.hid (hI.set15)
  rw [← hI.a.rw]
  clear hI
  go_simp
  exact ⟨blw_rows (Nat.le_refl _) _ _, HS.out⟩
 refine inv_nil ?_
 intro w1 hb hI hF
 simp [Is, Nat.forall_lt_succ_right] at hF
 simp only [Act.put, List.setIfInBounds_toArray, List.set_cons_succ, List.set_cons_zero, hF]
 clear hF
 have hD := InvD.done hI
 have r0 := hD.a.row
 have r1 := hD.b.row
 rw [← hD.b.rw, ← hD.a.rw]
 clear hD hI
 have HB := Lib.hid hb; clear hb
 go_wp2_with fail
 refine bodyPost_ret (by simp [results, Tryz.results144, go_sem, *]) rfl ⟨rfl, ?_⟩
 have hb := HB.out
 exact bel_by

set_option maxHeartbeats 4000000 in
theorem done_take (b : Int) (c wd : Sol) (on : Int) (w : World) :
  Calls Tryz.prog 144 #[.agg #[.int .u64 (pl wd 0), .int .u64 (pl wd 1), .int .u64 (pl wd 2), .int .u64 (pl wd 3), .int .u64 (pl wd 4), .int .u64 (pl wd 5), .int .u64 (pl wd 6), .int .u64 (pl wd 7), .int .u8 on], .iface 218 (.agg #[.int .u8 b, .int .u64 (pl c 0), .int .u64 (pl c 1), .int .u64 (pl c 2), .int .u64 (pl c 3), .int .u64 (pl c 4), .int .u64 (pl c 5), .int .u64 (pl c 6), .int .u64 (pl c 7)])] w fun e w' => e = .returned (.agg #[.int .u64 (pl (wd &&& ~~~c) 0), .int .u64 (pl (wd &&& ~~~c) 1), .int .u64 (pl (wd &&& ~~~c) 2), .int .u64 (pl (wd &&& ~~~c) 3), .int .u64 (pl (wd &&& ~~~c) 4), .int .u64 (pl (wd &&& ~~~c) 5), .int .u64 (pl (wd &&& ~~~c) 6), .int .u64 (pl (wd &&& ~~~c) 7), .int .u8 (bits .andNot .u8 on b)]) ∧ Below w.heap.size w w' := by
 have hA := assertTakeCut
 have hA2 := assertTakeFit
 have hA3 := assertTake
 have H := Lib.hid (Less_spec wd c)
 generalize hs2 : (wd &&& ~~~c) = s2 at H ⊢
 generalize ho2 : bits .andNot .u8 on b = o2
 have HO := Lib.hid ho2; clear ho2 hs2
 go_enter Tryz.func144, Tryz.ntmps144
 go_wp2_with fail
 refine wp_region_inv (Below w.heap.size) (fun L => InvD w.heap.size wd s2 on o2 c b 218 (L 13) (L 15)) [Is (.pointer (some ⟨w.heap.size, 0, none⟩)), Is (.agg #[.int .u64 (pl wd 0), .int .u64 (pl wd 1), .int .u64 (pl wd 2), .int .u64 (pl wd 3), .int .u64 (pl wd 4), .int .u64 (pl wd 5), .int .u64 (pl wd 6), .int .u64 (pl wd 7)]), Is (.pointer (some ⟨w.heap.size + 1 + 1, 0, none⟩)), Is (.pointer (some ⟨w.heap.size + 1 + 1, 1, none⟩)), Is (.agg #[.int .u64 (pl c 0), .int .u64 (pl c 1), .int .u64 (pl c 2), .int .u64 (pl c 3), .int .u64 (pl c 4), .int .u64 (pl c 5), .int .u64 (pl c 6), .int .u64 (pl c 7)]), Is (.agg #[.int .u64 (pl s2 0), .int .u64 (pl s2 1), .int .u64 (pl s2 2), .int .u64 (pl s2 3), .int .u64 (pl s2 4), .int .u64 (pl s2 5), .int .u64 (pl s2 6), .int .u64 (pl s2 7)]), Is (.pointer (some ⟨w.heap.size, 8, none⟩)), Is (.int .u8 on), Is (.pointer (some ⟨w.heap.size + 1 + 1, 0, none⟩)), Is (.pointer (some ⟨w.heap.size + 1 + 1, 0, none⟩)), Is (.int .u8 b), Is (.int .u8 o2), Is (.pointer (some ⟨w.heap.size, 0, none⟩)), Is undef, Is (.pointer (some ⟨w.heap.size, 8, none⟩)), Is undef] (by kernel_rfl) (by kernel_rfl) rfl (Below.refl w.heap.size) (fun _ _ _ => Below.trans) (stable_mem ⟨fun _ _ _ h _ => h, fun _ _ _ h _ => h, fun _ _ _ h _ => h, fun _ _ _ h _ => h, fun _ _ _ h _ => h, fun _ _ _ h _ => h, fun _ _ _ h _ => h, fun _ _ _ h _ => h, fun _ _ _ h _ => h, fun _ _ _ h _ => h, fun _ _ _ h _ => h, fun _ _ _ h _ => h, fun _ _ _ h _ => h, fun _ _ _ h _ => h, fun _ _ _ h _ => h, fun _ _ _ h _ => h, trivial⟩) w bel_by (InvD.mk blk_by blk_by blk_by) ?_
 refine inv_cons ?_ (fun v0 => ?_)
 ·intro L w1 hat hb hI hF; try simp [factsI, Region.binds, Is] at hF
  go_simp
  exact Below.refl _ _
 refine inv_cons ?_ (fun v1 => ?_)
 ·intro L w1 hat hb hI hF; try simp [factsI, Region.binds, Is] at hF
  have h13 : L 13 = false := hat.later 9 13 (by kernel_rfl)
  have c0 := hI.cA
  rw [h13] at c0 hI
  go_simp
  exact Below.refl _ _
 iterate 2 (refine inv_cons ?_ (fun _ => ?_); · intro L w1 hat hb hI hF; (try simp [factsI, Region.binds, Is] at hF); go_simp; exact Below.refl _ _)
 refine inv_cons ?_ (fun v4 => ?_)
 ·intro L w1 hat hb hI hF; try simp [factsI, Region.binds, Is] at hF
  have c0 := hI.cC
  go_simp
  exact Below.refl _ _
 refine inv_cons ?_ (fun v5 => ?_)
 ·intro L w1 hat hb hI hF; try simp [factsI, Region.binds, Is] at hF
  have HI := Lib.hid hI; clear hI
  go_simp
  refine (H.out _).mono ?_
  rintro e w2 ⟨rfl, hb2⟩
  exact ⟨_, rfl, hb2.mono hb.size, HI.out.grow hb2, rfl⟩
 refine inv_cons ?_ (fun v6 => ?_)
 ·intro L w1 hat hb hI hF; try simp [factsI, Region.binds, Is] at hF
  go_simp
  exact Below.refl _ _
 refine inv_cons ?_ (fun v7 => ?_)
 ·intro L w1 hat hb hI hF; try simp [factsI, Region.binds, Is] at hF
  have h15 : L 15 = false := hat.later 9 15 (by kernel_rfl)
  have c0 := hI.cA
  rw [h15] at c0 hI
  go_simp
  exact Below.refl _ _
 iterate 2 (refine inv_cons ?_ (fun _ => ?_); · intro L w1 hat hb hI hF; (try simp [factsI, Region.binds, Is] at hF); go_simp; exact Below.refl _ _)
 refine inv_cons ?_ (fun v10 => ?_)
 ·intro L w1 hat hb hI hF; try simp [factsI, Region.binds, Is] at hF
  have c0 := hI.cC
  go_simp
  exact Below.refl _ _
 refine inv_cons ?_ (fun v11 => ?_)
 ·intro L w1 hat hb hI hF; try simp [factsI, Region.binds, Is] at hF
  have ho2 := HO.out
  go_simp
  exact Below.refl _ _
 refine inv_cons ?_ (fun v12 => ?_)
 ·intro L w1 hat hb hI hF; try simp [factsI, Region.binds, Is] at hF
  go_simp
  exact Below.refl _ _
 refine inv_cons ?_ (fun v13 => ?_)
 ·intro L w1 hat hb hI hF; try simp [factsI, Region.binds, Is] at hF
  have r0 := hI.a.row
  have HS := Lib.hid (hI.set13)
  rw [← hI.a.rw]
  clear hI
  go_simp
  exact ⟨blw_rows (Nat.le_refl _) _ _, HS.out⟩
 refine inv_cons ?_ (fun v14 => ?_)
 ·intro L w1 hat hb hI hF; try simp [factsI, Region.binds, Is] at hF
  go_simp
  exact Below.refl _ _
 refine inv_cons ?_ (fun v15 => ?_)
 ·intro L w1 hat hb hI hF; try simp [factsI, Region.binds, Is] at hF
  have r0 := hI.a.row
  have HS := Lib.hid (hI.set15)
  rw [← hI.a.rw]
  clear hI
  go_simp
  exact ⟨blw_rows (Nat.le_refl _) _ _, HS.out⟩
 refine inv_nil ?_
 intro w1 hb hI hF
 simp [Is, Nat.forall_lt_succ_right] at hF
 simp only [Act.put, List.setIfInBounds_toArray, List.set_cons_succ, List.set_cons_zero, hF]
 clear hF
 have hD := InvD.done hI
 have r0 := hD.a.row
 have r1 := hD.b.row
 rw [← hD.b.rw, ← hD.a.rw]
 clear hD hI
 have HB := Lib.hid hb; clear hb
 go_wp2_with fail
 refine bodyPost_ret (by simp [results, Tryz.results144, go_sem, *]) rfl ⟨rfl, ?_⟩
 have hb := HB.out
 exact bel_by
end Go.Proofs.YtccnkebkgegohaaGreatDoor
end
section
namespace Go.Proofs.YtccnkebkgegohaaGreatDoor
open Go.RowKit Go.Rel
set_option maxRecDepth 100000
theorem done_spec (d : Deed) (s : Stn) (w : World) (hd : d.1 = 1 ∨ d.1 = 2 ∨ d.1 = 3) :
  Calls Tryz.prog 144 #[.agg #[.int .u64 (pl s.1 0), .int .u64 (pl s.1 1), .int .u64 (pl s.1 2), .int .u64 (pl s.1 3), .int .u64 (pl s.1 4), .int .u64 (pl s.1 5), .int .u64 (pl s.1 6), .int .u64 (pl s.1 7), .int .u8 s.2], deedV d] w fun e w' => e = .returned (.agg #[.int .u64 (pl (doneM d s).1 0), .int .u64 (pl (doneM d s).1 1), .int .u64 (pl (doneM d s).1 2), .int .u64 (pl (doneM d s).1 3), .int .u64 (pl (doneM d s).1 4), .int .u64 (pl (doneM d s).1 5), .int .u64 (pl (doneM d s).1 6), .int .u64 (pl (doneM d s).1 7), .int .u8 (doneM d s).2]) ∧ Below w.heap.size w w' := by
 obtain ⟨K, b, c⟩ := d
 obtain ⟨wd, on⟩ := s
 rcases hd with h | h | h
 ·simp only at h; subst h; exact done_cut c wd on w
 ·simp only at h; subst h; exact done_fit b c wd on w
 ·simp only at h; subst h; exact done_take b c wd on w
/-- the next stand behind an action, or why it is refused -/
def nextM (l : List Sol) (s : Stn) (a : Ac) : Int ⊕ Stn :=
 if fits l.length a then (if refM (made l a) s = 0 then .inr (doneM (made l a) s) else .inl (refM (made l a) s)) else .inl 1
/-- the acts from number i on -/
def runM (l : List Sol) : Nat → Stn → List Ac → (Nat × Int) ⊕ Stn
 | _, s, [] => .inr s
 | i, s, a :: rest => match nextM l s a with
  | .inl e => .inl (i, e)
  | .inr s' => runM l (i + 1) s' rest
abbrev acV (a : Ac) : Value := .agg #[.int .u8 a.1, .int .i64 a.2.1, .int .u64 (pl a.2.2 0), .int .u64 (pl a.2.2 1), .int .u64 (pl a.2.2 2), .int .u64 (pl a.2.2 3), .int .u64 (pl a.2.2 4), .int .u64 (pl a.2.2 5), .int .u64 (pl a.2.2 6), .int .u64 (pl a.2.2 7)]
abbrev SlA (w : World) (v : Value) (l : List Ac) : Prop := Sl w 10 v (l.map acL)
set_option maxHeartbeats 1000000 in
theorem begun_pat (blank : Sol) (v av : Value) (w : World) (R : Int) (hne : (R != 0) = true)
  (h : ∀ w', Below w.heap.size w w' → Calls Tryz.prog 34 #[.agg #[.int .u64 (pl blank 0), .int .u64 (pl blank 1), .int .u64 (pl blank 2), .int .u64 (pl blank 3), .int .u64 (pl blank 4), .int .u64 (pl blank 5), .int .u64 (pl blank 6), .int .u64 (pl blank 7), v]] w' fun e w'' => e = .returned (.int .i64 R) ∧ Below w'.heap.size w' w'') :
  Calls Tryz.prog 89 #[.agg #[.int .u64 (pl blank 0), .int .u64 (pl blank 1), .int .u64 (pl blank 2), .int .u64 (pl blank 3), .int .u64 (pl blank 4), .int .u64 (pl blank 5), .int .u64 (pl blank 6), .int .u64 (pl blank 7), v, av]] w fun e w' => e = .returned (.tuple #[.pointer none, .int .i64 0, .int .i64 R]) ∧ Below w.heap.size w w' := by
 have H := Lib.hid h; clear h
 go_enter_defers Tryz.func89, Tryz.ntmps89
 go_wp2_with fail
 refine (H.out _ bel_by).mono ?_
 rintro e w1 ⟨rfl, hb⟩
 have hc := (bcell hb).1
 have hf := (bcell hb).2
 have hs := hb.size
 simp only [World.size_alloc] at hs
 have gww10 : w.heap.size < w1.heap.size := by omega
 have gww11 : w.heap.size + 1 < w1.heap.size := by omega
 have gww12 : w.heap.size + 1 + 1 < w1.heap.size := by omega
 have gww13 : w.heap.size + 1 + 1 + 1 < w1.heap.size := by omega
 go_wp2_with fail
 have e : w1.cell? ⟨w.heap.size, 0, none⟩ = w1.cell? ⟨w.heap.size, 0, none⟩ := rfl
 clear e
 simp [bodyPostD, Leaves, settle, results, Tryz.results89, go_sem, *]
 exact bel_set (bel_set (bel_set (bel_trans bel_by hb) (by show w.heap.size ≤ Addr.block ⟨_, _, _⟩; dsimp only; omega) _) (by show w.heap.size ≤ Addr.block ⟨_, _, _⟩; dsimp only; omega) _) (by show w.heap.size ≤ Addr.block ⟨_, _, _⟩; dsimp only; omega) _
set_option maxHeartbeats 1000000 in
theorem begun_long (blank : Sol) (v : Value) (a : Option Addr) (n c : Nat) (w : World) (hn : 60 < n)
  (h : ∀ w', Below w.heap.size w w' → Calls Tryz.prog 34 #[.agg #[.int .u64 (pl blank 0), .int .u64 (pl blank 1), .int .u64 (pl blank 2), .int .u64 (pl blank 3), .int .u64 (pl blank 4), .int .u64 (pl blank 5), .int .u64 (pl blank 6), .int .u64 (pl blank 7), v]] w' fun e w'' => e = .returned (.int .i64 0) ∧ Below w'.heap.size w' w'') :
  Calls Tryz.prog 89 #[.agg #[.int .u64 (pl blank 0), .int .u64 (pl blank 1), .int .u64 (pl blank 2), .int .u64 (pl blank 3), .int .u64 (pl blank 4), .int .u64 (pl blank 5), .int .u64 (pl blank 6), .int .u64 (pl blank 7), v, .slice a n c]] w fun e w' => e = .returned (.tuple #[.pointer none, .int .i64 0, .int .i64 2]) ∧ Below w.heap.size w w' := by
 have H := Lib.hid h; clear h
 go_enter_defers Tryz.func89, Tryz.ntmps89
 go_wp2_with fail
 refine (H.out _ bel_by).mono ?_
 rintro e w1 ⟨rfl, hb⟩
 have hc := (bcell hb).1
 have hf := (bcell hb).2
 have hs := hb.size
 simp only [World.size_alloc] at hs
 have gww10 : w.heap.size < w1.heap.size := by omega
 have gww11 : w.heap.size + 1 < w1.heap.size := by omega
 have gww12 : w.heap.size + 1 + 1 < w1.heap.size := by omega
 have gww13 : w.heap.size + 1 + 1 + 1 < w1.heap.size := by omega
 go_wp2_with fail
 simp [bodyPostD, Leaves, settle, results, Tryz.results89, go_sem, *]
 exact bel_set (bel_set (bel_set (bel_trans bel_by hb) (by show w.heap.size ≤ Addr.block ⟨_, _, _⟩; dsimp only; omega) _) (by show w.heap.size ≤ Addr.block ⟨_, _, _⟩; dsimp only; omega) _) (by show w.heap.size ≤ Addr.block ⟨_, _, _⟩; dsimp only; omega) _
end Go.Proofs.YtccnkebkgegohaaGreatDoor
end
section
namespace Go.Proofs.YtccnkebkgegohaaGreatDoor
open Go.RowKit Go.Rel
set_option maxRecDepth 100000
theorem mRefCut (x0 x1 x2 x3 x4 x5 x6 x7 : Value) (w : World) : (method 408 212 (.agg #[x0, x1, x2, x3, x4, x5, x6, x7]) "strickle/trace.refused").run Tryz.prog w = .ok (272, .agg #[x0, x1, x2, x3, x4, x5, x6, x7]) w := by kernel_rfl
theorem mRefFit (b x0 x1 x2 x3 x4 x5 x6 x7 : Value) (w : World) : (method 408 217 (.agg #[b, x0, x1, x2, x3, x4, x5, x6, x7]) "strickle/trace.refused").run Tryz.prog w = .ok (276, .agg #[b, x0, x1, x2, x3, x4, x5, x6, x7]) w := by kernel_rfl
theorem mRefTake (b x0 x1 x2 x3 x4 x5 x6 x7 : Value) (w : World) : (method 408 218 (.agg #[b, x0, x1, x2, x3, x4, x5, x6, x7]) "strickle/trace.refused").run Tryz.prog w = .ok (277, .agg #[b, x0, x1, x2, x3, x4, x5, x6, x7]) w := by kernel_rfl
theorem aRefCut (x0 x1 x2 x3 x4 x5 x6 x7 : Value) (w : World) : (nilAhead 408 212 (.agg #[x0, x1, x2, x3, x4, x5, x6, x7]) "strickle/trace.refused").run Tryz.prog w = .ok (some false) w := by kernel_rfl
theorem aRefFit (b x0 x1 x2 x3 x4 x5 x6 x7 : Value) (w : World) : (nilAhead 408 217 (.agg #[b, x0, x1, x2, x3, x4, x5, x6, x7]) "strickle/trace.refused").run Tryz.prog w = .ok (some false) w := by kernel_rfl
theorem aRefTake (b x0 x1 x2 x3 x4 x5 x6 x7 : Value) (w : World) : (nilAhead 408 218 (.agg #[b, x0, x1, x2, x3, x4, x5, x6, x7]) "strickle/trace.refused").run Tryz.prog w = .ok (some false) w := by kernel_rfl
theorem enter272 (args : Array Value) (w : World) : (callFunc 272 args).run Tryz.prog w = .ok (.enter 272 args) w := enters_fn Tryz.func272 (by kernel_rfl) rfl args w
theorem enter276 (args : Array Value) (w : World) : (callFunc 276 args).run Tryz.prog w = .ok (.enter 276 args) w := enters_fn Tryz.func276 (by kernel_rfl) rfl args w
theorem enter277 (args : Array Value) (w : World) : (callFunc 277 args).run Tryz.prog w = .ok (.enter 277 args) w := enters_fn Tryz.func277 (by kernel_rfl) rfl args w
/-- what refused a deed's method 'refused' comes to -/
theorem refused_of (d : Deed) (s : Stn) : ∃ (t : Nat) (x : Value) (f : Nat) (y : Value), deedV d = .iface t x ∧ (∀ w, (nilAhead 408 t x "strickle/trace.refused").run Tryz.prog w = .ok (some false) w) ∧ (∀ w, (method 408 t x "strickle/trace.refused").run Tryz.prog w = .ok (f, y) w) ∧
  (∀ args w, (callFunc f args).run Tryz.prog w = .ok (.enter f args) w) ∧ Hid (∀ w, Calls Tryz.prog f #[y, .agg #[.int .u64 (pl s.1 0), .int .u64 (pl s.1 1), .int .u64 (pl s.1 2), .int .u64 (pl s.1 3), .int .u64 (pl s.1 4), .int .u64 (pl s.1 5), .int .u64 (pl s.1 6), .int .u64 (pl s.1 7), .int .u8 s.2]] w fun e w' => e = .returned (.int .i64 (refM d s)) ∧ Below w.heap.size w w') := by
 unfold deedV refM
 by_cases h1 : d.1 = 1
 ·rw [if_pos h1, if_pos h1]
  exact ⟨212, _, 272, _, rfl, aRefCut _ _ _ _ _ _ _ _, mRefCut _ _ _ _ _ _ _ _, enter272, fun w => refusedCut _ _ _ w _ rfl⟩
 ·rw [if_neg h1, if_neg h1]
  by_cases h2 : d.1 = 2
  ·rw [if_pos h2, if_pos h2]
   exact ⟨217, _, 276, _, rfl, aRefFit _ _ _ _ _ _ _ _ _, mRefFit _ _ _ _ _ _ _ _ _, enter276, fun w => refusedFit _ _ _ _ w _ rfl⟩
  ·rw [if_neg h2, if_neg h2]
   exact ⟨218, _, 277, _, rfl, aRefTake _ _ _ _ _ _ _ _ _, mRefTake _ _ _ _ _ _ _ _ _, enter277, fun w => refusedTake _ _ _ _ w _ rfl⟩
theorem info122 : (Tryz.prog.info? 122).map (fun i => (i.zero, i.size, i.bytes)) = some (some .nilIface, 1, 16) := by kernel_rfl
abbrev pastC (blank : Sol) (v av dv : Value) (s : Sol) (o : Int) : Array Value := #[.int .u64 (pl blank 0), .int .u64 (pl blank 1), .int .u64 (pl blank 2), .int .u64 (pl blank 3), .int .u64 (pl blank 4), .int .u64 (pl blank 5), .int .u64 (pl blank 6), .int .u64 (pl blank 7), v, av, dv, .int .u64 (pl s 0), .int .u64 (pl s 1), .int .u64 (pl s 2), .int .u64 (pl s 3), .int .u64 (pl s 4), .int .u64 (pl s 5), .int .u64 (pl s 6), .int .u64 (pl s 7), .int .u8 o]
/-- the cells of a list of deeds -/
abbrev deedCs (l : List Sol) (acts : List Ac) : List Value := acts.map fun a => deedV (made l a)
/-- what begun knows ahead of each round -/
structure InvB (w : World) (h bp : Nat) (blank : Sol) (v av : Value) (l : List Sol) (acts : List Ac) (k : Nat) (s : Stn) (dv : Value) (W : World) : Prop where
 mk ::
 hist : Blk W h #[.int .u64 (pl blank 0), .int .u64 (pl blank 1), .int .u64 (pl blank 2), .int .u64 (pl blank 3), .int .u64 (pl blank 4), .int .u64 (pl blank 5), .int .u64 (pl blank 6), .int .u64 (pl blank 7), v, av] 30
 tc : Blk W (h + 1) #[.pointer (some ⟨bp, 0, none⟩)] 101
 c2 : Blk W (h + 1 + 1) #[.int .i64 0] 3
 c3 : Blk W (h + 1 + 1 + 1) #[.int .i64 0] 33
 past : Blk W bp (pastC blank v av dv s.1 s.2) 113
 own : W.ownsRow (bp + 1) 122 1 dv k (deedCs l (acts.take k))
 bel : Below h w W
 hb : h + 1 + 1 + 1 + 1 ≤ bp
theorem own_grow {w w' : World} {base : Nat} {e : TypeId} {size : Nat} {v : Value} {n : Nat} {xs : List Value} (h : w.ownsRow base e size v n xs) (hb : Below w.heap.size w w') : w'.ownsRow base e size v n xs :=
 h.kept (row := none) ⟨hb.os, hb.tape, hb.output, hb.size, fun k hk _ => hb.block k hk⟩ (by cases hv : v.ownBlock <;> simp)
theorem InvB.grow {w : World} {h bp : Nat} {blank : Sol} {v av : Value} {l : List Sol} {acts : List Ac} {k : Nat} {s : Stn} {dv : Value} {W : World} (H : InvB w h bp blank v av l acts k s dv W) {W' : World} (hb : Below W.heap.size W W') :
  InvB w h bp blank v av l acts k s dv W' :=
 ⟨H.hist.grow hb, H.tc.grow hb, H.c2.grow hb, H.c3.grow hb, H.past.grow hb, own_grow H.own hb, H.bel.trans (hb.mono (Nat.le_of_lt H.hist.lt)), H.hb⟩
/-- a past that lies there whole -/
structure PastAt (bp : Nat) (blank : Sol) (v av : Value) (l : List Sol) (acts : List Ac) (s : Stn) (W : World) : Prop where
 mk ::
 past : ∃ dv, Blk W bp (pastC blank v av dv s.1 s.2) 113 ∧ W.ownsRow (bp + 1) 122 1 dv acts.length (deedCs l acts)
theorem PastAt.grow {bp : Nat} {blank : Sol} {v av : Value} {l : List Sol} {acts : List Ac} {s : Stn} {W : World} (H : PastAt bp blank v av l acts s W) {W' : World} (hb : Below W.heap.size W W') : PastAt bp blank v av l acts s W' :=
 let ⟨dv, h1, h2⟩ := H.past
 ⟨dv, h1.grow hb, own_grow h2 hb⟩
/-- what begun answers -/
def BegunP (w : World) (blank : Sol) (v av : Value) (l : List Sol) (acts : List Ac) (res : (Nat × Int) ⊕ Stn) (e : Ending) (w' : World) : Prop :=
 Below w.heap.size w w' ∧ match res with
  | .inl x => e = .returned (.tuple #[.pointer none, .int .i64 x.1, .int .i64 x.2])
  | .inr s => ∃ bp, w.heap.size ≤ bp ∧ e = .returned (.tuple #[.pointer (some ⟨bp, 0, none⟩), .int .i64 0, .int .i64 0]) ∧ PastAt bp blank v av l acts s w'
theorem runM_get {l : List Sol} {k : Nat} {s : Stn} {acts : List Ac} {a : Ac} (h : acts[k]? = some a) : runM l k s (acts.drop k) = match nextM l s a with
  | .inl e => .inl (k, e)
  | .inr s' => runM l (k + 1) s' (acts.drop (k + 1)) := by
 have hk : k < acts.length := (List.getElem?_eq_some_iff.1 h).1
 have e : acts.drop k = a :: acts.drop (k + 1) := by
  rw [List.drop_eq_getElem_cons hk, (List.getElem?_eq_some_iff.1 h).2]
 rw [e]; rfl
end Go.Proofs.YtccnkebkgegohaaGreatDoor
end
