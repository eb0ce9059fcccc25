import Derived.Test.YtccnkebkgegohaaGreatDoorHU3
import Derived.Shelf.SlSortCmp.WholeK
import Derived.Test.YtccnkebkgegohaaGreatDoorProg
import Derived.Maps.OwnSet
import Derived.Maps.Views
/-
  Given contracts of functions of the program, and laws for them, one behind the other.
-/
set_option linter.unusedVariables false
set_option linter.unusedSimpArgs false
set_option linter.unusedSectionVars false
section
namespace Go.Proofs.YtccnkebkgegohaaGreatDoor
open Go.RowKit Go.Rel
set_option maxRecDepth 100000
/-! slices.Delete, its walk -/
def JD (base g cap : Nat) (m : List Ac) (i : Nat) (cur : Array Value) (a : Bool) (W : World) : Prop := (a = false → OwnB W base m g cap cur) ∧ (a = true → OwnB W base (dropL m i) g cap (delC cur m i))
set_option maxHeartbeats 16000000 in
theorem Delete119 (base n cap g i : Nat) (m : List Ac) (cur : Array Value) (w : World) (OB : OwnB w base m g cap cur) (hn : m.length = n) (hi : i < n) (h60 : n ≤ 1048576) :
  Calls Tryz.prog 119 #[.slice (some ⟨g, 0, none⟩) n cap, .int .i64 (i : Int), .int .i64 (i + 1 : Int)] w fun e w' => ∃ u, e = .returned u ∧ OwnA w' base u (dropL m i) ∧ Below base w w' := by
 have HOB := Lib.hid OB
 have HN := Lib.hid hn
 have hnc : n ≤ cap := by rw [← hn]; exact OB.le
 have hcM : cap ≤ 9223372036854775807 := by have := OB.lim; unfold maxLen at this; omega
 have hbg := OB.base
 clear OB hn
 have hik : (i : Int) + 1 ≤ (n : Int) := by omega
 have h0i : (0 : Int) ≤ (i : Int) + 1 := by omega
 have hne : ((i : Int) == (i : Int) + 1) = false := by simp; omega
 go_enter Tryz.func119, Tryz.ntmps119
 go_wp2_with fail
 refine wp_region_val (Below base) (fun L vs W => JD base g cap m i cur (L 6) W) [Is (.slice (some ⟨g, 0, none⟩) n cap), Is (.int .i64 (i : Int)), Is (.slice (some ⟨g, 0, none⟩) i cap), Is (.slice (some ⟨g, 0, none⟩) n cap), Is (.int .i64 (i + 1 : Int)), VSl (sliced (some ⟨g, 0, none⟩) (i + 1) n cap 10), Is (.slice (some ⟨g, 0, none⟩) (i + (n - (i + 1))) cap), Is (.slice (some ⟨g, 0, none⟩) (i + (n - (i + 1))) cap)] (by kernel_rfl) (by kernel_rfl) rfl (Below.refl base) (fun _ _ _ => Below.trans) (stable_mem ⟨fun _ _ _ h _ => h, fun _ _ _ h _ => h, fun _ _ _ h _ => h, fun _ _ _ h _ => h, fun _ _ _ h _ => h, VSl.stab, fun _ _ _ h _ => h, fun _ _ _ h _ => h, trivial⟩) w (Below.drew (Below.refl _ _)) (⟨(fun _ => HOB.out.grw (bel_drew (bel_refl _))), (fun e => by cases e)⟩) ?_
 iterate 2 (refine val_cons ?_ (fun _ => ?_); · intro L vs w1 hvs hat hb hI hF; (try simp [factsI, Region.binds, Is] at hF); go_simp; (first | exact Below.refl _ _ | exact ⟨Below.refl _ _, hI⟩))
 refine val_cons ?_ (fun v2 => ?_)
 ·intro L vs w1 hvs hat hb hI hF; try simp [factsI, Region.binds, Is] at hF
  have hic : i ≤ cap := by omega
  go_simp
  first | exact Below.refl _ _ | exact ⟨Below.refl _ _, hI⟩
 iterate 2 (refine val_cons ?_ (fun _ => ?_); · intro L vs w1 hvs hat hb hI hF; (try simp [factsI, Region.binds, Is] at hF); go_simp; (first | exact Below.refl _ _ | exact ⟨Below.refl _ _, hI⟩))
 refine val_cons ?_ (fun v5 => ?_)
 ·intro L vs w1 hvs hat hb hI hF; try simp [factsI, Region.binds, Is] at hF
  go_simp
  first | exact ⟨Below.refl _ _, hI, (by unfold VSl; rfl)⟩ | (refine ⟨Below.refl _ _, ?_⟩; unfold VSl; rfl)
 refine val_cons ?_ (fun v6 => ?_)
 ·intro L vs w1 hvs hat hb hI hF; try simp [factsI, Region.binds, Is] at hF
  have h6 := hat.self
  have hv5 : v5 = sliced (some ⟨g, 0, none⟩) (i + 1) n cap 10 := by have := hF.2; unfold VSl at this; exact this
  have OB := hI.1 h6
  have hr := del_append OB HN.out hi
  subst hv5
  refine step_append (v := .slice (some ⟨g, 0, none⟩) i cap) (v7 := sliced (some ⟨g, 0, none⟩) (i + 1) n cap 10) rfl rfl ?_ ?_ hr ?_
  ·have h2 := hF.1
   subst h2
   go_simp
  ·go_simp
  simp [upd]
  exact ⟨blw_row (Below.refl _ _) hbg _, (fun e => by cases e), fun _ => OB.del (by rw [HN.out]; exact hi)⟩
 refine val_cons ?_ (fun v7 => ?_)
 ·intro L vs w1 hvs hat hb hI hF; try simp [factsI, Region.binds, Is] at hF
  go_simp
  first | exact Below.refl _ _ | exact ⟨Below.refl _ _, hI⟩ | skip
 refine val_nil ?_
 intro vs w1 hvs hb hI hF
 simp [Is, Nat.forall_lt_succ_right] at hF
 have e0 := hF.1.1.1.1.1.1.1
 have e1 := hF.1.1.1.1.1.1.2
 have e2 := hF.1.1.1.1.1.2
 have e3 := hF.1.1.1.1.2
 have e4 := hF.1.1.1.2
 have e5 := hF.1.1.2
 have e6 := hF.1.2
 have e7 := hF.2
 clear hF
 simp only [Act.put, List.setIfInBounds_toArray, List.set_cons_succ, List.set_cons_zero, e0, e1, e2, e3, e4, e6, e7]
 clear e0 e1 e2 e3 e4 e6 e7
 have OB := Lib.hid (hI.2 rfl)
 clear hvs hI e5
 have hlen : (dropL m i).length = i + (n - (i + 1)) := by rw [dropL_len (by rw [HN.out]; exact hi), HN.out]; omega
 have hcs := OB.out.size
 have hzl : (Builtin.zeroCells (Value.agg #[.int .u8 0, .int .i64 0, .int .u64 0, .int .u64 0, .int .u64 0, .int .u64 0, .int .u64 0, .int .u64 0, .int .u64 0, .int .u64 0]).cells (n - (i + (n - (i + 1))))).toList.length = (n - (i + (n - (i + 1)))) * 10 := by rw [zeroCells_len]; rfl
 have hr := run_clear_rows (P := Tryz.prog) w1 28 46 0 (.agg #[.int .u8 0, .int .i64 0, .int .u64 0, .int .u64 0, .int .u64 0, .int .u64 0, .int .u64 0, .int .u64 0, .int .u64 0, .int .u64 0]) Tryz.underlying28 (fun _ => Tryz.zeroValue46 _) (by decide) g ((i + (n - (i + 1))) * 10) (n - (i + (n - (i + 1)))) (cap - (i + (n - (i + 1)))) (by omega) (delC cur m i) 46 OB.out.blk (by rw [hcs]; show _ + (n - (i + (n - (i + 1)))) * 10 ≤ _; omega)
 go_wp2_with fail
 refine bodyPost_ret (v := .slice (some ⟨g, 0, none⟩) (i + (n - (i + 1))) cap) (by simp [results, Tryz.results119, go_sem]) rfl ⟨_, rfl, ?_, hb.trans (blw_row (Below.refl _ _) hbg _)⟩
 have h2 := OB.out.clear (vs := (Builtin.zeroCells (Value.agg #[.int .u8 0, .int .i64 0, .int .u64 0, .int .u64 0, .int .u64 0, .int .u64 0, .int .u64 0, .int .u64 0, .int .u64 0, .int .u64 0]).cells (n - (i + (n - (i + 1))))).toList) (by rw [hzl, hlen, hcs]; omega)
 rw [hlen] at h2
 exact own_len h2.own hlen
end Go.Proofs.YtccnkebkgegohaaGreatDoor
end
section
namespace Go.Proofs.YtccnkebkgegohaaGreatDoor
open Go.RowKit Go.Rel
set_option maxRecDepth 100000
set_option maxHeartbeats 8000000 in
theorem Undo_late (b : Sol) (p q : Option Addr) (n c k d : Nat) (i : Nat) (w : World) (l : List Sol) (m : List Ac) (s : Stn) (hk : m.length = k) (hi : i < k) (hl : lastU l m i m.length = false) (H : Hid (∀ w', Below w.heap.size w w' → Calls Tryz.prog 116 #[.agg #[.int .u64 (pl b 0), .int .u64 (pl b 1), .int .u64 (pl b 2), .int .u64 (pl b 3), .int .u64 (pl b 4), .int .u64 (pl b 5), .int .u64 (pl b 6), .int .u64 (pl b 7), .slice p n c, .slice q k d], .int .i64 (i : Int)] w' fun e w'' => ∃ bp, e = .returned (.tuple #[.pointer (some ⟨bp, 0, none⟩), .int .i64 0]) ∧ PastAt bp b (.slice p n c) (.slice q k d) l m s w'' ∧ Below w'.heap.size w' w'')) :
  Calls Tryz.prog 57 #[.agg #[.int .u64 (pl b 0), .int .u64 (pl b 1), .int .u64 (pl b 2), .int .u64 (pl b 3), .int .u64 (pl b 4), .int .u64 (pl b 5), .int .u64 (pl b 6), .int .u64 (pl b 7), .slice p n c, .slice q k d], .int .i64 (i : Int)] w fun e w' => e = .returned (.tuple #[.agg #[.int .u64 0, .int .u64 0, .int .u64 0, .int .u64 0, .int .u64 0, .int .u64 0, .int .u64 0, .int .u64 0, .slice none 0 0, .slice none 0 0], .int .i64 46]) ∧ Below w.heap.size w w' := by
 have HK := Lib.hid hk
 have HL := Lib.hid hl
 clear hk hl
 go_enter Tryz.func57, Tryz.ntmps57
 go_wp2_with fail
 refine (H.out _ bel_by).mono ?_
 rintro e w1 ⟨bp, rfl, hP, hb⟩
 have g2 : Blk w1 (w.heap.size + 1) #[.int .u64 0, .int .u64 0, .int .u64 0, .int .u64 0, .int .u64 0, .int .u64 0, .int .u64 0, .int .u64 0, .slice none 0 0, .slice none 0 0] 30 := Blk.grow blk_by hb
 have hB1 : Below w.heap.size w w1 := bel_trans bel_by hb
 have HI := Lib.hid (isLast115 w1 hP i (by rw [HK.out]; exact hi))
 rw [HL.out] at HI
 clear hP hb H
 go_wp2_with fail
 refine HI.out.mono ?_
 rintro e w2 ⟨rfl, hb⟩
 have G2 := g2.grow hb
 have hB2 := bel_trans hB1 hb
 have r1 := G2.row
 have l1 := G2.lt
 rw [← G2.rw]
 clear G2 g2 hb HI
 go_wp2_with fail
 refine bodyPost_ret (v := .tuple #[.agg #[.int .u64 0, .int .u64 0, .int .u64 0, .int .u64 0, .int .u64 0, .int .u64 0, .int .u64 0, .int .u64 0, .slice none 0 0, .slice none 0 0], .int .i64 46]) (by simp [results, Tryz.results57, go_sem, *]) rfl ⟨rfl, blw_row hB2 (by omega) _⟩
end Go.Proofs.YtccnkebkgegohaaGreatDoor
end
section
namespace Go.Proofs.YtccnkebkgegohaaGreatDoor
open Go.RowKit Go.Rel
set_option maxRecDepth 100000
end Go.Proofs.YtccnkebkgegohaaGreatDoor
end
section
namespace Go.Proofs.YtccnkebkgegohaaGreatDoor
open Go.RowKit Go.Rel
set_option maxRecDepth 100000
end Go.Proofs.YtccnkebkgegohaaGreatDoor
end
section
namespace Go.Proofs.YtccnkebkgegohaaGreatDoor
open Go.RowKit Go.Rel
set_option maxRecDepth 100000
end Go.Proofs.YtccnkebkgegohaaGreatDoor
end
section
namespace Go.Proofs.YtccnkebkgegohaaGreatDoor
open Go.RowKit Go.Rel
set_option maxRecDepth 100000
def lenS : Value → Nat
 | .slice _ n _ => n
 | _ => 0

end Go.Proofs.YtccnkebkgegohaaGreatDoor
end
section
namespace Go.Proofs.YtccnkebkgegohaaGreatDoor
open Go Go.Shelf Go.RowKit
/-! slices.SortFunc at acts: the shelf's contract laid at function 129 -/
def sortAc_ren : Go.Shelf.Ren := ⟨fun | 6 => 129 | 15 => 167 | 14 => 166 | 28 => 200 | 29 => 201 | 20 => 192 | 21 => 193 | 22 => 194 | 23 => 195 | 24 => 196 | 25 => 197 | 26 => 198 | 27 => 199 | 46 => 218 | 47 => 219 | 48 => 220 | 49 => 221 | 50 => 222 | 57 => 240 | n => n, fun | 22 => 28 | 24 => 46 | 25 => 156 | 3 => 3 | 39 => 41 | 0 => 0 | 53 => 231 | 55 => 22 | 4 => 4 | 46 => 224 | 45 => 223 | 50 => 228 | 5 => 5 | 9 => 9 | 66 => 251 | 70 => 255 | 76 => 270 | 77 => 271 | n => n, fun | n => n⟩
end Go.Proofs.YtccnkebkgegohaaGreatDoor
end
section
namespace Go.Proofs.YtccnkebkgegohaaGreatDoor
open Go.RowKit Go.Rel Go.Sort
set_option maxRecDepth 100000
/-! compare turns nothing: it draws and lays blocks -/
def Dg (w w' : World) : Prop := ∃ q os, w' = grow (w.drewN q) os
theorem Dg.refl (w : World) : Dg w w := ⟨0, #[], by rw [grow_empty]; rfl⟩
theorem drewN_grow (w : World) (os : Array Obj) (q : Nat) : (grow w os).drewN q = grow (w.drewN q) os := rfl
theorem drewN_add (w : World) (p q : Nat) : (w.drewN p).drewN q = w.drewN (p + q) := by
 unfold World.drewN
 simp [Nat.add_assoc]
theorem Dg.trans {a b c : World} (h : Dg a b) (k : Dg b c) : Dg a c := by
 obtain ⟨q, os, rfl⟩ := h
 obtain ⟨q', os', rfl⟩ := k
 exact ⟨q + q', os ++ os', by rw [drewN_grow, drewN_add, grow_grow]⟩
theorem Dg.drew (w : World) : Dg w w.drew := ⟨1, #[], by rw [grow_empty]; rfl⟩
theorem Dg.alloc (w : World) (o : Obj) : Dg w (w.alloc o) := ⟨0, #[o], by rw [alloc_eq_grow]; rfl⟩
end Go.Proofs.YtccnkebkgegohaaGreatDoor
end
section
namespace Go.Proofs.YtccnkebkgegohaaGreatDoor
open Go.RowKit Go.Rel Go.Sort Go.Shelf
set_option maxRecDepth 100000
/-! SortFunc over compare, on a list of our own -/
theorem rows_get {k : Nat} {α : Type} (row : α → List Value) (hk : ∀ a, (row a).length = k) : ∀ (l : List α) (t : Nat), t < l.length * k → ((l.map row).flatten)[t]? = (l[t / k]?).bind fun a => (row a)[t % k]?
 | [], t, h => by simp at h
 | x :: l, t, h => by
  have k0 : 0 < k := by
   rcases Nat.eq_zero_or_pos k with h0 | h0
   ·subst h0; simp at h
   ·exact h0
  rw [List.map_cons, List.flatten_cons]
  by_cases ht : t < k
  ·rw [List.getElem?_append_left (by rw [hk]; exact ht), Nat.div_eq_of_lt ht, Nat.mod_eq_of_lt ht]; rfl
  ·obtain ⟨u, rfl⟩ : ∃ u, t = u + k := ⟨t - k, by omega⟩
   have hu : u < l.length * k := by
    rw [List.length_cons, Nat.add_mul, Nat.one_mul] at h; omega
   rw [List.getElem?_append_right (by rw [hk]; omega), hk, Nat.add_sub_cancel, rows_get row hk l u hu, Nat.add_div_right u k0, Nat.add_mod_right]; rfl
theorem flatK_rows (d : Array Ac) : (flatK acL 10 d).toList = (d.toList.map acL).flatten := by
 apply List.ext_getElem?
 intro t
 have hlen : ((d.toList.map acL).flatten).length = d.size * 10 := by rw [flat_len10 acL acL_len]; simp
 by_cases ht : t < d.size * 10
 ·rw [rows_get acL acL_len d.toList t (by simpa using ht)]
  have h1 : t / 10 < d.size := by omega
  have h2 : t % 10 < (acL d[t / 10]).length := by rw [acL_len]; omega
  rw [Array.getElem?_toList, Array.getElem?_eq_getElem (by rw [size_flatK]; exact ht), Array.getElem?_toList, Array.getElem?_eq_getElem h1]
  have e := get_flatK acL 10 d t ht
  rw [getElem!_pos _ t (by rw [size_flatK]; exact ht), getElem!_pos d (t / 10) h1, getElem!_pos _ (t % 10) h2] at e
  rw [e, Option.bind_some, List.getElem?_eq_getElem h2]
 ·rw [List.getElem?_eq_none (by rw [Array.length_toList, size_flatK]; omega), List.getElem?_eq_none (by rw [hlen]; omega)]
theorem OwnB.holds {W : World} {base g cap : Nat} {m : List Ac} {cur : Array Value} (h : OwnB W base m g cap cur) : HoldsK acL 10 W g 0 m.toArray := by
 intro j hj
 have hj' : j < m.length * 10 := by simpa using hj
 have hcs : m.length * 10 ≤ cur.size := by rw [h.size]; exact Nat.mul_le_mul_right _ h.le
 have e : (flatK acL 10 m.toArray)[j]? = cur[j]? := by
  rw [← Array.getElem?_toList, flatK_rows, ← h.rows, List.getElem?_take_of_lt hj', Array.getElem?_toList]
 constructor
 ·rw [h.blk.cell, Nat.zero_add, ← e, Array.getElem?_eq_getElem hj, getElem!_pos _ j hj]; rfl
 ·exact Blk.free h.blk _
end Go.Proofs.YtccnkebkgegohaaGreatDoor
end
section
namespace Go.Proofs.YtccnkebkgegohaaGreatDoor
open Go.RowKit Go.Rel
set_option maxRecDepth 100000
/-- a list of slices in memory of one's own -/
abbrev OwnL (W : World) (base : Nat) (v : Value) (vs : List Value) : Prop := W.ownsRow base 28 1 v vs.length vs
theorem ints_at {W : World} {q : Option Addr} {n c : Nat} {l : List Int} {j : Nat} {x : Int} (h : SlI W (.slice q n c) l) (hx : l[j]? = some x) : ∃ b o, q = some ⟨b, o, none⟩ ∧ b < W.heap.size ∧ ∀ W', Below W.heap.size W W' → ∀ (k : Nat) (y : Int), l[k]? = some y → W'.cell? ⟨b, o + k, none⟩ = some (.int .i64 y) := by
 rcases Sl.cases h with ⟨hl, _⟩ | ⟨b, o, c', he, _, _, _, hc⟩
 ·have : l = [] := by simpa using hl
  subst this; cases hx
 ·injection he with h1 _ _
  refine ⟨b, o, h1, hc.1, fun W' hb k y hk => ?_⟩
  have := (hc.mono hb hc.1).2 k 0 (.int .i64 y) (by simp [hk, intL])
  simpa using this
theorem flat_sing : ∀ vs : List Value, (vs.map fun x => [x]).flatten = vs
 | [] => rfl
 | v :: vs => by rw [List.map_cons, List.flatten_cons, flat_sing vs]; rfl
theorem OwnL.sl {W : World} {base : Nat} {v : Value} {vs : List Value} (h : OwnL W base v vs) : Sl W 1 v (vs.map fun x => [x]) :=
 own_sl (fun r hr => by obtain ⟨i, _, rfl⟩ := List.mem_map.1 hr; rfl) (flat_sing vs) (by rw [List.length_map]; exact h)
end Go.Proofs.YtccnkebkgegohaaGreatDoor
end
section
namespace Go.Proofs.YtccnkebkgegohaaGreatDoor
open Go.RowKit Go.Rel
/-! ### a map from numbers to bools that the call makes -/
theorem mapT : Tryz.prog.underlying 80 = some (.map 3 4) := by kernel_rfl
theorem mapE : Tryz.prog.underlying 4 = some .bool := by kernel_rfl
theorem mapK : Tryz.prog.underlying 3 = some (.int .i64) := by kernel_rfl
theorem mapL : Maps.Keyed Tryz.prog 3 := Maps.int_keyed mapK
theorem mapZ (w : World) : (zeroValue 4).run Tryz.prog w = .ok (.bool false) w := by kernel_rfl
/-- block b is a map of at most n entries that holds true at the keys of p, and nothing else -/
def Mp (w : World) (b n : Nat) (p : Int → Bool) : Prop :=
 ∃ D : DataW Unit, w.ownsMap Tryz.prog 3 (plainElem Tryz.prog 4) b n D ∧ Maps.IsMap D ∧ ∀ k : Int, D.atKey (.int .i64 k) (.lit (.bool false)) = .lit (.bool (p k))
theorem Mp.made (w : World) : Mp (w.alloc (.map #[] 0)) w.heap.size 0 fun _ => false :=
 ⟨.map [], World.ownsMap_made _ _ _ _, ⟨_, rfl⟩, fun _ => rfl⟩
theorem Mp.lt {w : World} {b n : Nat} {p : Int → Bool} (h : Mp w b n p) : b < w.heap.size := by
 obtain ⟨D, h, _⟩ := h
 exact h.lt
theorem Mp.grow {w w' : World} {b n base : Nat} {p : Int → Bool} (h : Mp w b n p) (hb : b < base) (hw : Below base w w') : Mp w' b n p := by
 obtain ⟨D, h1, h2, h3⟩ := h
 obtain ⟨es, clock, e, F, hs, hD⟩ := h1
 exact ⟨D, ⟨es, clock, (hw.block b hb).trans e, F, hs, hD⟩, h2, h3⟩
theorem plainElem_bool_inv {v : Value} {z : DataW Unit × List MemPlace} (h : plainElem Tryz.prog 4 v = some z) : ∃ a, v = .bool a ∧ z = (.lit (.bool a), []) := by
 unfold plainElem at h
 rw [mapE] at h
 split at h
 ·cases h; exact ⟨_, rfl, rfl⟩
 ·next e => cases e
 ·next e => cases e
 ·cases h
theorem Mp.look {w : World} {b n : Nat} {p : Int → Bool} (h : Mp w b n p) {k : Int} (hk : (Lit.int .i64 k).wf = true) : (Instr.lookup 80 (.map (some b)) (.int .i64 k) false).run Tryz.prog w = .ok (.bool (p k)) w := by
 obtain ⟨D, h1, _, h3⟩ := h
 obtain ⟨v, ps, hrun, hv⟩ := h1.lookup mapL mapT (mapZ w) (plainElem_bool mapE false) (Maps.keyOf_int_mk mapK hk)
 obtain ⟨a, rfl, hz⟩ := plainElem_bool_inv hv
 simp only [Prod.mk.injEq] at hz
 have := hz.1
 rw [h3] at this
 cases this
 exact hrun
theorem Mp.put {w : World} {b n : Nat} {p : Int → Bool} (h : Mp w b n p) (hn : n < maxLen) {k : Int} (hk : (Lit.int .i64 k).wf = true) : ∃ w', (Instr.mapUpdate 80 (.map (some b)) (.int .i64 k) (.bool true)).run Tryz.prog w = .ok () w' ∧ Mp w' b (n + 1) (fun i => p i || i == k) ∧ w.grownBy w' (some b) := by
 obtain ⟨D, h1, h2, h3⟩ := h
 obtain ⟨w', hrun, r1, r2⟩ := h1.update mapL mapT hn (Maps.keyOf_int_mk mapK hk) (plainElem_bool mapE true)
 refine ⟨w', hrun, ⟨_, r1, h2.put _ _, fun i => ?_⟩, r2⟩
 by_cases e : i = k
 ·subst e
  rw [Maps.atKey_put_same h2 (mapL.key (Maps.keyOf_int_mk mapK hk))]
  simp
 ·rw [Maps.atKey_put_other (by intro h; cases h; exact e rfl), h3]
  have : (p i || i == k) = p i := by simp [e]
  show DataW.lit (Lit.bool (p i)) = DataW.lit (Lit.bool (p i || i == k))
  rw [this]
end Go.Proofs.YtccnkebkgegohaaGreatDoor
end
section
namespace Go.Proofs.YtccnkebkgegohaaGreatDoor
open Go.RowKit Go.Rel
set_option maxRecDepth 100000
/-- a history with no error, whose list of acts may be appended to -/
def HResN (b : Sol) (l : List Sol) (M : List Ac) (E : Int) (w : World) (e : Ending) (w' : World) : Prop :=
 ∃ p n c q k d, e = .returned (.tuple #[.agg #[.int .u64 (pl b 0), .int .u64 (pl b 1), .int .u64 (pl b 2), .int .u64 (pl b 3), .int .u64 (pl b 4), .int .u64 (pl b 5), .int .u64 (pl b 6), .int .u64 (pl b 7), .slice p n c, .slice q k d], .int .i64 E]) ∧ SlS w' (.slice p n c) l ∧ SlN w' (.slice q k d) M ∧ Below w.heap.size w w'
set_option maxHeartbeats 16000000 in
theorem Undo_yesN (b : Sol) (p q : Option Addr) (n c k d : Nat) (i : Nat) (w : World) (l : List Sol) (m : List Ac) (s : Stn) (hk : m.length = k) (hi : i < k) (h60 : k ≤ 60) (h8 : l.length ≤ 8) (HV : Hid (SlS w (.slice p n c) l)) (HA : Hid (SlA w (.slice q k d) m)) (hl : lastU l m i m.length = true) (H : Hid (∀ w', Below w.heap.size w w' → Calls Tryz.prog 116 #[.agg #[.int .u64 (pl b 0), .int .u64 (pl b 1), .int .u64 (pl b 2), .int .u64 (pl b 3), .int .u64 (pl b 4), .int .u64 (pl b 5), .int .u64 (pl b 6), .int .u64 (pl b 7), .slice p n c, .slice q k d], .int .i64 (i : Int)] w' fun e w'' => ∃ bp, e = .returned (.tuple #[.pointer (some ⟨bp, 0, none⟩), .int .i64 0]) ∧ PastAt bp b (.slice p n c) (.slice q k d) l m s w'' ∧ Below w'.heap.size w' w'')) :
  Calls Tryz.prog 57 #[.agg #[.int .u64 (pl b 0), .int .u64 (pl b 1), .int .u64 (pl b 2), .int .u64 (pl b 3), .int .u64 (pl b 4), .int .u64 (pl b 5), .int .u64 (pl b 6), .int .u64 (pl b 7), .slice p n c, .slice q k d], .int .i64 (i : Int)] w (HResN b l (dropL m i) 0 w) := by
 have HK := Lib.hid hk
 have HL := Lib.hid hl
 clear hk hl
 go_enter Tryz.func57, Tryz.ntmps57
 go_wp2_with fail
 refine (H.out _ bel_by).mono ?_
 rintro e w1 ⟨bp, rfl, hP, hb⟩
 have g0 : Blk w1 w.heap.size #[.int .u64 (pl b 0), .int .u64 (pl b 1), .int .u64 (pl b 2), .int .u64 (pl b 3), .int .u64 (pl b 4), .int .u64 (pl b 5), .int .u64 (pl b 6), .int .u64 (pl b 7), .slice p n c, .slice q k d] 30 := Blk.grow blk_by hb
 have g2 : Blk w1 (w.heap.size + 1) #[.int .u64 0, .int .u64 0, .int .u64 0, .int .u64 0, .int .u64 0, .int .u64 0, .int .u64 0, .int .u64 0, .slice none 0 0, .slice none 0 0] 30 := Blk.grow blk_by hb
 have hB1 : Below w.heap.size w w1 := bel_trans bel_by hb
 have HI := Lib.hid (isLast115 w1 hP i (by rw [HK.out]; exact hi))
 rw [HL.out] at HI
 have HP := Lib.hid hP
 clear hP hb H
 go_wp2_with fail
 refine HI.out.mono ?_
 rintro e w2 ⟨rfl, hb⟩
 have G0 := g0.grow hb
 have G2 := g2.grow hb
 have hB2 := bel_trans hB1 hb
 have HP2 := Lib.hid (HP.out.grow hb)
 have c0 := G0.cell
 have l0 := G0.lt
 have l2 := G2.lt
 clear g0 g2 hb HI HP hB1
 go_wp2_with fail
 refine (CloneAc_spec _ m w2 (HA.out.mono hB2) (by rw [HK.out]; omega)).mono ?_
 rintro e w3 ⟨u, rfl, hO, hb⟩
 have hB3 := bel_trans hB2 hb
 have hb23 := hb
 refine Veil.out ?_
 obtain ⟨g, cap, cur, rfl, OB⟩ := OwnA.opn hO (fun e => by have := HK.out; rw [e] at this; simp at this; omega)
 have HOB := Lib.hid OB
 refine Veil.on ?_
 have hs3 := hb.size
 clear hO OB hb c0 l0 G0 l2
 have hn1 : m.length = k := HK.out
 rw [hn1]
 clear hn1
 have hw : IntKind.i64.wrap ((i : Int) + 1) = (i : Int) + 1 := IntWalk.i64_in _ (by omega)
 go_wp2_with fail
 refine (Delete119 w2.heap.size k cap g i m cur w3 HOB.out HK.out hi (by omega)).mono ?_
 rintro e w4 ⟨u2, rfl, hO, hb⟩
 have hB4 : Below w.heap.size w w4 := hB3.trans (hb.mono hB2.size)
 have HO := Lib.hid hO
 have hb24 := hb23.trans hb
 have HP4 := Lib.hid (HP2.out.grow hb24)
 have G4 := G2.grow hb24
 have hle : (dropL m i).length ≤ 1048576 := by rw [dropL_len (by rw [HK.out]; exact hi), HK.out]; omega
 clear hO hb hb23 hb24 HP2 G2 hs3 HOB
 go_wp2_with fail
 refine (with_spec w4 HP4.out (HV.out.mono hB4) h8 u2 (dropL m i) (OwnA.sl HO.out) hle).mono ?_
 rintro e w5 ⟨pv, bv, rfl, hS, hA, hb⟩
 have hB5 := bel_trans hB4 hb
 have G5 := G4.grow hb
 have l4 := G4.lt
 refine Veil.out ?_
 have HSA := Lib.hid (And.intro hS hA)
 obtain ⟨p', n', c', rfl⟩ := own_shape hS
 obtain ⟨q', k', d', rfl⟩ := own_shape hA
 refine Veil.on ?_
 clear hS hA hb G4 HP4 HO
 have r5 := G5.row
 have l5 := G5.lt
 have G5' := Lib.hid G5
 rw [← G5.rw]
 clear G5
 go_wp2_with fail
 refine bodyPost_ret (v := .tuple #[.agg #[.int .u64 (pl b 0), .int .u64 (pl b 1), .int .u64 (pl b 2), .int .u64 (pl b 3), .int .u64 (pl b 4), .int .u64 (pl b 5), .int .u64 (pl b 6), .int .u64 (pl b 7), .slice p' n' c', .slice q' k' d'], .int .i64 0]) (by simp [results, Tryz.results57, go_sem, *]) rfl ?_
 have hBf : Below w.heap.size w (w5.setRow (w.heap.size + 1) #[.int .u64 (pl b 0), .int .u64 (pl b 1), .int .u64 (pl b 2), .int .u64 (pl b 3), .int .u64 (pl b 4), .int .u64 (pl b 5), .int .u64 (pl b 6), .int .u64 (pl b 7), .slice p' n' c', .slice q' k' d']) := blw_row hB5 (by omega) _
 exact ⟨p', n', c', q', k', d', rfl, OwnS.sl (own_rowT HSA.out.1 G5'.out (by decide) _), OwnA.sln (own_rowT HSA.out.2 G5'.out (by decide) _), hBf⟩
end Go.Proofs.YtccnkebkgegohaaGreatDoor
end
