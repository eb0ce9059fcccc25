import Derived.Test.YtkfimbonmnoglaaGreatDoorB13
import Derived.Deep.Cut
import Derived.Shelf.SlSortCmp.NoneTotal
/-
  Given contracts of functions of the program, and laws for them, one behind the other.
-/
set_option linter.unusedVariables false
set_option linter.unusedSimpArgs false
set_option linter.unusedSectionVars false
section
namespace Go.Proofs.YtkfimbonmnoglaaGreatDoor
open Go.RowKit Go.Rel Go.Draw Go.Solid Go.Sort Go.Shelf
set_option maxRecDepth 100000
theorem Dw.drew (w : World) : Dw w w.drew := ⟨(Below.refl _ _).drew, Nat.le_succ _⟩
set_option maxHeartbeats 4000000 in
theorem less_dw (a b : Sol) (w : World) : Calls Tryz.prog 102 #[solV a, solV b] w fun e w' => e = .returned (.int .i64 (cmpS a b)) ∧ Dw w w' := by
 obtain ⟨R, hR⟩ : ∃ R, R = cmpS a b := ⟨_, rfl⟩
 obtain ⟨W0, hW0⟩ : ∃ W0, W0 = (w.alloc (.cells #[.int .u64 (pl a 0), .int .u64 (pl a 1), .int .u64 (pl a 2), .int .u64 (pl a 3), .int .u64 (pl a 4), .int .u64 (pl a 5), .int .u64 (pl a 6), .int .u64 (pl a 7)] 26)).alloc (.cells #[.int .u64 (pl b 0), .int .u64 (pl b 1), .int .u64 (pl b 2), .int .u64 (pl b 3), .int .u64 (pl b 4), .int .u64 (pl b 5), .int .u64 (pl b 6), .int .u64 (pl b 7)] 26) := ⟨_, rfl⟩
 have B0 : Blk W0 w.heap.size #[.int .u64 (pl a 0), .int .u64 (pl a 1), .int .u64 (pl a 2), .int .u64 (pl a 3), .int .u64 (pl a 4), .int .u64 (pl a 5), .int .u64 (pl a 6), .int .u64 (pl a 7)] 26 := by subst hW0; exact (by repeat (first | with_reducible assumption | (refine Blk.at _ _ ?_; (simp; done)) | with_reducible refine Blk.alloc ?_ _ | with_reducible refine Blk.drew ?_ | with_reducible refine Blk.rowS ?_ _ | with_reducible refine Blk.rowO ?_ _ (by simp)))
 have B1 : Blk W0 (w.heap.size + 1) #[.int .u64 (pl b 0), .int .u64 (pl b 1), .int .u64 (pl b 2), .int .u64 (pl b 3), .int .u64 (pl b 4), .int .u64 (pl b 5), .int .u64 (pl b 6), .int .u64 (pl b 7)] 26 := by subst hW0; exact Blk.at _ _ (by simp)
 have hbel : Dw w W0 := by subst hW0; exact ((Dw.refl w).alloc _).alloc _
 have HC : Hid (∀ W, Below W0.heap.size W0 W → Calls Tryz.prog 142 #[.slice (some ⟨w.heap.size, 0, none⟩) 8 8, .slice (some ⟨w.heap.size + 1, 0, none⟩) 8 8] W fun e w' => e = .returned (.int .i64 R) ∧ w' = W) := Lib.hid fun W h => by rw [hR]; exact cmpU_spec (B0.grow h) (B1.grow h)
 have l0 := B0.lt; have l1 := B1.lt
 rw [← hR]
 have HW := Lib.hid (And.intro hW0 hbel)
 clear hR hW0 B0 B1 hbel
 go_enter Tryz.func102, Tryz.ntmps102
 go_wp2_with fail
 rw [← HW.out.1]
 refine wp_region_val Dw (fun _ _ _ => True) [Is (.slice (some ⟨w.heap.size, 0, none⟩) 8 8), Is (.slice (some ⟨w.heap.size + 1, 0, none⟩) 8 8), Is (.int .i64 R), Is (.int .i64 R)] (by kernel_rfl) (by kernel_rfl) rfl Dw.refl (fun _ _ _ => Dw.trans) (stable_mem ⟨fun _ _ _ h _ => h, fun _ _ _ h _ => h, fun _ _ _ h _ => h, fun _ _ _ h _ => h, trivial⟩) W0 (Dw.drew _) trivial ?_
 refine val_cons ?_ (fun v0 => ?_)
 ·intro L vs w1 hvs hat hb hI hF; try simp [factsI, Region.binds, Is] at hF
  have hb0 := hb.1.size
  clear hI
  go_simp
  first | exact Dw.refl _ | exact ⟨Dw.refl _, trivial⟩
 refine val_cons ?_ (fun v1 => ?_)
 ·intro L vs w1 hvs hat hb hI hF; try simp [factsI, Region.binds, Is] at hF
  have hb0 := hb.1.size
  clear hI
  go_simp
  first | exact Dw.refl _ | exact ⟨Dw.refl _, trivial⟩
 refine val_cons ?_ (fun v2 => ?_)
 ·intro L vs w1 hvs hat hb hI hF; try simp [factsI, Region.binds, Is] at hF
  have hb0 : Below W0.heap.size W0 w1 := hb.1
  clear hI
  go_simp
  refine (HC.out _ hb0).mono ?_
  rintro e w2 ⟨rfl, rfl⟩
  first | exact ⟨rfl, Dw.refl _⟩ | exact ⟨rfl, Dw.refl _, trivial⟩ | exact ⟨_, rfl, Dw.refl _, trivial, rfl⟩
 refine val_cons ?_ (fun v3 => ?_)
 ·intro L vs w1 hvs hat hb hI hF; try simp [factsI, Region.binds, Is] at hF
  clear hI
  go_simp
  first | exact Dw.refl _ | exact ⟨Dw.refl _, trivial⟩
 refine val_nil ?_
 intro vs w1 hvs hb hI hF
 simp [Is, Nat.forall_lt_succ_right] at hF
 simp only [Act.put, List.setIfInBounds_toArray, List.set_cons_succ, List.set_cons_zero, hF]
 clear hF
 have hb1 : Dw w w1 := HW.out.2.trans hb
 go_wp2_with fail
 go_ret
 exact ⟨rfl, hb1⟩
/-- a block whose first cells are those of a list of solids -/
structure RowC (W : World) (g cap : Nat) (l : List Sol) (T : TypeId) (cur : Array Value) : Prop where
 blk : Blk W g cur T
 size : cur.size = cap * 8
 le : l.length ≤ cap
 rows : cur.toList.take (l.length * 8) = (l.map solL).flatten
theorem solF_len (l : List Sol) : ((l.map solL).flatten).length = l.length * 8 := flat_len10 solL (fun _ => rfl) l
theorem RowC.get {W : World} {g cap : Nat} {l : List Sol} {T : TypeId} {cur : Array Value} (h : RowC W g cap l T cur) {k : Nat} (hk : k < l.length * 8) : cur[k]? = ((l.map solL).flatten)[k]? := by
 rw [← h.rows, List.getElem?_take_of_lt hk, Array.getElem?_toList]
theorem RowC.sol {W : World} {g cap : Nat} {l : List Sol} {T : TypeId} {cur : Array Value} (h : RowC W g cap l T cur) {t : Nat} {s : Sol} (hs : l[t]? = some s) {z : Nat} (hz : z < 8) : W.cell? ⟨g, t * 8 + z, none⟩ = some (.int .u64 (pl s z)) := by
 have ht := (List.getElem?_eq_some_iff.1 hs).1
 rw [h.blk.cell, h.get (by omega), solF_get, show (t * 8 + z) / 8 = t by omega, show (t * 8 + z) % 8 = z by omega, hs]; rfl
theorem RowC.grow {W W' : World} {g cap : Nat} {l : List Sol} {T : TypeId} {cur : Array Value} (h : RowC W g cap l T cur) (hb : Below W.heap.size W W') : RowC W' g cap l T cur := ⟨h.blk.grow hb, h.size, h.le, h.rows⟩
theorem RowC.of {W : World} {g : Nat} {l : List Sol} {T : TypeId} (h : Blk W g (solA l) T) : RowC W g l.length l T (solA l) :=
 ⟨h, solA_size l, Nat.le_refl _, by
  unfold solA
  rw [List.toList_toArray, List.take_of_length_le (by rw [solF_len]; exact Nat.le_refl _)]⟩
theorem flatS_rows (d : Array Sol) : (flatK solL 8 d).toList = (d.toList.map solL).flatten := by
 apply List.ext_getElem?
 intro t
 have hlen := solF_len d.toList
 by_cases ht : t < d.size * 8
 ·have h1 : t / 8 < d.size := by omega
  have h2 : t % 8 < (solL d[t / 8]).length := by show t % 8 < 8; omega
  rw [solF_get, Array.getElem?_toList, Array.getElem?_eq_getElem (by rw [size_flatK]; exact ht), Array.getElem?_toList, Array.getElem?_eq_getElem h1]
  have e := get_flatK solL 8 d t ht
  rw [getElem!_pos _ t (by rw [size_flatK]; exact ht), getElem!_pos d (t / 8) h1, getElem!_pos _ (t % 8) h2] at e
  rw [e]
  have key : ∀ (s : Sol) (z : Nat) (hz : z < (solL s).length), (solL s)[z] = .int .u64 (pl s z) := fun s z hz => by
   have hz8 : z < 8 := hz
   obtain rfl | rfl | rfl | rfl | rfl | rfl | rfl | rfl : z = 0 ∨ z = 1 ∨ z = 2 ∨ z = 3 ∨ z = 4 ∨ z = 5 ∨ z = 6 ∨ z = 7 := by omega
   all_goals rfl
  rw [key]; rfl
 ·rw [List.getElem?_eq_none (by rw [Array.length_toList, size_flatK]; omega), List.getElem?_eq_none (by rw [hlen, Array.length_toList]; omega)]
theorem put_takeA (F cur : Array Value) (h : F.size ≤ cur.size) : (putCells id 0 F cur).toList.take F.size = F.toList := by
 apply List.ext_getElem?
 intro t
 by_cases ht : t < F.size
 ·rw [List.getElem?_take_of_lt ht, Array.getElem?_toList, Array.getElem?_toList]
  unfold putCells
  rw [Array.getElem?_mapIdx, Array.getElem?_eq_getElem (by omega : t < cur.size), Option.map_some, if_pos ⟨Nat.zero_le _, by omega⟩, Array.getElem?_eq_getElem ht]
  simp [getElem!_pos F t ht]
 ·rw [List.getElem?_eq_none (by rw [List.length_take]; omega), List.getElem?_eq_none (by rw [Array.length_toList]; omega)]
theorem grow_belA {B : Nat} {w W : World} (h : Go.RowKit.Below B w W) (hB : B ≤ W.heap.size) (os : Array Obj) : Go.RowKit.Below B w (Go.Sort.grow W os) :=
 ⟨h.os, h.tape, h.output, Nat.le_trans h.size (by simp [Go.Sort.grow]), fun k hk => by
  show (W.heap ++ os)[k]? = _
  rw [Array.getElem?_append_left (by omega)]
  exact h.block k hk⟩
theorem sort_worldS {W : World} {base g cap : Nat} {m : List Sol} {T : TypeId} {cur : Array Value} (h : RowC W g cap m T cur) (hbg : base ≤ g) (d : Array Sol) (hd : d.size = m.length) (n : Nat) (os : Array Obj) :
  RowC (sortWorldK solL 8 W g 0 n d os) g cap d.toList T (putCells id 0 (flatK solL 8 d) cur) ∧ Go.RowKit.Below base W (sortWorldK solL 8 W g 0 n d os) := by
 have hcs : m.length * 8 ≤ cur.size := by rw [h.size]; exact Nat.mul_le_mul_right _ h.le
 have hB : Go.RowKit.Below base W (putRow id (Go.Sort.ahead W n) g 0 (flatK solL 8 d)) := ⟨rfl, rfl, rfl, by simp [putRow, mapBlock, Go.Sort.ahead], fun k hk => by
  show (W.heap.modify g _)[k]? = _
  rw [Array.getElem?_modify, if_neg (by omega)]⟩
 have hsz : (putRow id (Go.Sort.ahead W n) g 0 (flatK solL 8 d)).heap.size = W.heap.size := by simp [putRow, mapBlock, Go.Sort.ahead]
 have hlt := h.blk.lt
 have hblk : Blk (sortWorldK solL 8 W g 0 n d os) g (putCells id 0 (flatK solL 8 d) cur) T := by
  have hg := h.blk
  unfold Blk at hg ⊢
  show ((putRow id (Go.Sort.ahead W n) g 0 (flatK solL 8 d)).heap ++ os)[g]? = _
  rw [Array.getElem?_append_left (by rw [hsz]; exact hlt)]
  show ((Go.Sort.ahead W n).heap.modify g (onCells (putCells id 0 (flatK solL 8 d))))[g]? = _
  rw [Array.getElem?_modify, if_pos rfl]
  show Option.map _ W.heap[g]? = _
  rw [hg]; rfl
 refine ⟨⟨hblk, by simp [putCells, h.size], by simpa [hd] using h.le, ?_⟩, grow_belA hB (by rw [hsz]; omega) os⟩
 rw [← flatS_rows, show d.toList.length * 8 = (flatK solL 8 d).size by simp, put_takeA _ _ (by simpa [hd] using hcs)]
theorem swo_S : SWO (ltOf cmpS) where
 irrefl x := by
  unfold ltOf
  exact decide_eq_false fun h => Nat.lt_irrefl _ (cmpS_neg.1 h)
 trans x y z h1 h2 := by
  unfold ltOf at *
  exact decide_eq_true (cmpS_neg.2 (Nat.lt_trans (cmpS_neg.1 (of_decide_eq_true h1)) (cmpS_neg.1 (of_decide_eq_true h2))))
 ntrans x y z h1 h2 := by
  unfold ltOf at *
  refine decide_eq_false fun h => ?_
  have h1 := of_decide_eq_false h1
  have h2 := of_decide_eq_false h2
  rw [cmpS_neg] at h1 h2 h
  omega
theorem aggSol : ∀ w, (isAgg 26).run Tryz.prog w = .ok true w := fun w => by kernel_rfl
theorem sizeSol : ∀ w, (Go.sizeOf 26).run Tryz.prog w = .ok 8 w := fun w => by kernel_rfl
set_option maxHeartbeats 4000000 in
theorem sortSol {W : World} {base g cap : Nat} {m : List Sol} {T : TypeId} {cur : Array Value} (h : RowC W g cap m T cur) (hbg : base ≤ g) (hlen : m.length ≤ 1048576) :
  Calls Tryz.prog 143 #[.slice (some ⟨g, 0, none⟩) m.length cap, .func (.func 102) #[] #[]] W fun e w' => e = .returned (.tuple #[]) ∧ ∃ (d : List Sol) (cur' : Array Value), d.Perm m ∧ (d.Pairwise fun x y => rank x ≤ rank y) ∧ RowC w' g cap d T cur' ∧ Go.RowKit.Below base W w' := by
 have eg : ∀ args w, (callFunc 102 args).run Tryz.prog w = .ok (.enter 102 args) w := enters_of Tryz.func102 (by kernel_rfl) rfl
 have hH : HoldsK solL 8 W g 0 m.toArray := by
  intro j hj
  have hj' : j < m.length * 8 := by simpa using hj
  have e : (flatK solL 8 m.toArray)[j]? = cur[j]? := by
   rw [h.get hj', ← Array.getElem?_toList, flatS_rows]
  constructor
  ·rw [h.blk.cell, Nat.zero_add, ← e, Array.getElem?_eq_getElem hj, getElem!_pos _ j hj]; rfl
  ·exact Blk.free h.blk _
 have hcon := AnyQ.slices_SortFunc Tryz.sortS 8 aggSol sizeSol solL (fun _ => rfl) (fun x v hv => by simp [solL] at hv; rcases hv with rfl | rfl | rfl | rfl | rfl | rfl | rfl | rfl <;> rfl) cmpS swo_S 102 #[] g 0 cap m.toArray W eg (fun _ _ _ _ x y => (less_dw x y _).mono fun e w' ⟨he, hd⟩ => ⟨he, hd.grow⟩) hH h.blk.lt (by simp; omega)
 change Calls Tryz.prog 143 _ _ _ at hcon
 refine hcon.mono fun e w' ⟨he, d', n, os, hp, hs, hw⟩ => ⟨he, d'.toList, putCells id 0 (flatK solL 8 d') cur, ?_, ?_, ?_⟩
 ·have := hp.2.2
  have e : d'.toList.take m.length = d'.toList := List.take_of_length_le (by simp [hp.1])
  simpa [hp.1, e] using this
 ·rw [List.pairwise_iff_getElem]
  intro i j hi hj hij
  have hsz := hp.1
  have h1 := hs i j (Nat.zero_le _) hij (by rw [← hsz]; simpa using hj)
  unfold ltOf at h1
  have h2 := of_decide_eq_false h1
  rw [getElem!_pos d' j (by simpa using hj), getElem!_pos d' i (by simpa using hi), cmpS_neg] at h2
  simpa using h2
 ·have := sort_worldS h hbg d' (by simpa using hp.1) n os
  rw [← hw] at this
  exact this
end Go.Proofs.YtkfimbonmnoglaaGreatDoor
end
section
namespace Go.Proofs.YtkfimbonmnoglaaGreatDoor
open Go.RowKit Go.Rel Go.Draw Go.Solid
set_option maxRecDepth 100000
theorem zeroCells_len (z : Array Value) (n : Nat) : (Builtin.zeroCells z n).toList.length = n * z.size := by simp [Builtin.zeroCells]
theorem zeroCells_one {z : Array Value} (h : ∀ v ∈ z.toList, v.oneCell' = true) (n : Nat) : ∀ v ∈ (Builtin.zeroCells z n).toList, v.oneCell' = true := by
 intro v hv
 obtain ⟨i, hi, rfl⟩ := List.mem_iff_getElem.1 hv
 rw [zeroCells_len] at hi
 have h0 : 0 < z.size := by
  rcases Nat.eq_zero_or_pos z.size with h | h
  ·rw [h] at hi; simp at hi
  ·exact h
 have hm : i % z.size < z.size := Nat.mod_lt _ h0
 simp only [Builtin.zeroCells, Array.getElem_toList, Array.getElem_ofFn]
 refine h _ ?_
 simp [Array.getD, hm]
theorem run_clear_rows {P : Program} (w : World) (t e ty : TypeId) (z : Value) (ht : P.underlying t = some (.slice e)) (hv : ∀ w, (zeroValue e).run P w = .ok z w) (h1 : ∀ v ∈ z.cells.toList, v.oneCell' = true) (g o n c : Nat) (hn : 0 < n)
  (cur : Array Value) (tt : TypeId) (hg : w.heap[g]? = some (.cells cur tt (0, 0))) (hfit : o + n * z.cells.size ≤ cur.size) :
  (Builtin.clear_ #[t] ty #[.slice (some ⟨g, o, none⟩) n c]).run P w = .ok (.tuple #[]) (w.setRow g (spl cur o (Builtin.zeroCells z.cells n).toList)) := by
 have hst := run_storeCells_at (P := P) g o tt (Builtin.zeroCells z.cells n).toList 0 cur w hg (by rw [zeroCells_len]; simpa using hfit) (zeroCells_one h1 n)
 simp only [Nat.add_zero] at hst
 obtain ⟨m, rfl⟩ : ∃ m, n = m + 1 := ⟨n - 1, by omega⟩
 simp [Builtin.clear_, run_underlying ht, hv, hst, spl]
theorem spl_lo {cur : Array Value} {o : Nat} {vs : List Value} (hf : o + vs.length ≤ cur.size) : (spl cur o vs).toList.take (o + vs.length) = cur.toList.take o ++ vs := by
 unfold spl
 have hl : (cur.toList.take o ++ vs).length = o + vs.length := by rw [List.length_append, List.length_take, Array.length_toList]; omega
 show (cur.toList.take o ++ vs ++ cur.toList.drop (o + vs.length)).take (o + vs.length) = _
 rw [← hl, List.take_left]
theorem spl_take_lo {cur : Array Value} {o k : Nat} {vs : List Value} (hk : k ≤ o) (ho : o ≤ cur.size) : (spl cur o vs).toList.take k = cur.toList.take k := by
 unfold spl
 show (cur.toList.take o ++ vs ++ cur.toList.drop (o + vs.length)).take k = _
 rw [List.append_assoc, List.take_append_of_le_length (by rw [List.length_take, Array.length_toList]; omega), List.take_take, Nat.min_eq_left hk]
/-- neighbours that are alike are taken once -/
def ddN (l : List Sol) : Nat → List Sol
 | 0 => []
 | n + 1 => if 0 < n ∧ l[n]? = l[n - 1]? then ddN l n else ddN l n ++ (l[n]?).toList
theorem ddN_same {l : List Sol} {n : Nat} (h0 : 0 < n) (h : l[n]? = l[n - 1]?) : ddN l (n + 1) = ddN l n := by rw [ddN, if_pos ⟨h0, h⟩]
theorem ddN_new {l : List Sol} {n : Nat} {x : Sol} (hx : l[n]? = some x) (h : 0 < n → l[n]? ≠ l[n - 1]?) : ddN l (n + 1) = ddN l n ++ [x] := by
 rw [ddN, if_neg (fun e => h e.1 e.2), hx]; rfl
theorem ddN_spec {l : List Sol} (hs : l.Pairwise fun x y => rank x ≤ rank y) : ∀ n, n ≤ l.length → Asc (ddN l n) ∧ (∀ x, x ∈ ddN l n ↔ ∃ i, i < n ∧ l[i]? = some x)
 | 0, _ => ⟨List.Pairwise.nil, fun x => ⟨fun h => (by cases h), fun ⟨i, h, _⟩ => (by omega)⟩⟩
 | n + 1, hn => by
  obtain ⟨a1, a2⟩ := ddN_spec hs n (by omega)
  have hx : l[n]? = some (l[n]'(by omega)) := by simp
  by_cases h : 0 < n ∧ l[n]? = l[n - 1]?
  ·rw [ddN_same h.1 h.2]
   refine ⟨a1, fun x => (a2 x).trans ⟨fun ⟨i, h1, h2⟩ => ⟨i, by omega, h2⟩, fun ⟨i, h1, h2⟩ => ?_⟩⟩
   by_cases hi : i = n
   ·subst hi; exact ⟨i - 1, by omega, by rw [← h.2]; exact h2⟩
   ·exact ⟨i, by omega, h2⟩
  ·rw [ddN_new hx (fun h0 h1 => h ⟨h0, h1⟩)]
   constructor
   ·unfold Asc
    rw [List.pairwise_append]
    refine ⟨a1, List.pairwise_singleton _ _, fun a ha b hb => ?_⟩
    rw [List.mem_singleton] at hb
    subst hb
    obtain ⟨i, h1, h2⟩ := (a2 a).1 ha
    rw [List.pairwise_iff_getElem] at hs
    have hia := (List.getElem?_eq_some_iff.1 h2)
    -- rank a ≤ rank of the one ahead ≤ rank of the new one, which differs from the one ahead
    have hn0 : 0 < n := by omega
    have hp : l[n - 1]? = some (l[n - 1]'(by omega)) := by simp
    have hne : l[n - 1]'(by omega) ≠ l[n]'(by omega) := fun e => h ⟨hn0, by rw [hx, hp, e]⟩
    have h3 := hs (n - 1) n (by omega) (by omega) (by omega)
    have h4 : rank a ≤ rank (l[n - 1]'(by omega)) := by
     by_cases hi : i = n - 1
     ·subst hi; rw [← hia.2]; exact Nat.le_refl _
     ·have := hs i (n - 1) (by omega) (by omega) (by omega)
      rw [hia.2] at this; exact this
    have h5 : rank (l[n - 1]'(by omega)) ≠ rank (l[n]'(by omega)) := fun e => hne (rank_inj e)
    omega
   ·intro x
    rw [List.mem_append, List.mem_singleton, a2]
    constructor
    ·rintro (⟨i, h1, h2⟩ | rfl)
     ·exact ⟨i, by omega, h2⟩
     ·exact ⟨n, by omega, hx⟩
    ·rintro ⟨i, h1, h2⟩
     by_cases hi : i = n
     ·subst hi; rw [hx] at h2; cases h2; exact .inr rfl
     ·exact .inl ⟨i, by omega, h2⟩
theorem ddN_sort {l m : List Sol} (hs : l.Pairwise fun x y => rank x ≤ rank y) (hp : l.Perm m) : ddN l l.length = sortD m := by
 obtain ⟨h1, h2⟩ := ddN_spec hs l.length (Nat.le_refl _)
 refine sortD_of h1 fun x => ?_
 rw [h2, ← hp.mem_iff]
 constructor
 ·rintro ⟨i, _, h⟩; exact List.mem_of_getElem? h
 ·intro h
  obtain ⟨i, hi⟩ := List.getElem?_of_mem h
  exact ⟨i, (List.getElem?_eq_some_iff.1 hi).1, hi⟩
/-- what a slice reads of a block -/
theorem RowC.sl {W : World} {g cap : Nat} {l : List Sol} {T : TypeId} {cur : Array Value} (h : RowC W g cap l T cur) (hc : cap ≤ 9223372036854775807) : SlS W (.slice (some ⟨g, 0, none⟩) l.length cap) l := by
 refine ⟨some ⟨g, 0, none⟩, cap, by rw [List.length_map], by rw [List.length_map]; exact h.le, hc, .inr ⟨g, 0, rfl, h.blk.lt, fun i j u hu => ?_⟩⟩
 rw [List.getElem?_map] at hu
 cases hi : l[i]? with
 | none => rw [hi] at hu; cases hu
 | some s =>
  rw [hi] at hu
  have hu' : (solL s)[j]? = some u := hu
  have hj : j < 8 := (List.getElem?_eq_some_iff.1 hu').1
  rw [Nat.zero_add, h.sol hi hj]
  obtain rfl | rfl | rfl | rfl | rfl | rfl | rfl | rfl : j = 0 ∨ j = 1 ∨ j = 2 ∨ j = 3 ∨ j = 4 ∨ j = 5 ∨ j = 6 ∨ j = 7 := by omega
  all_goals exact hu'
theorem RowC.sol8 {W : World} {g cap : Nat} {m : List Sol} {T : TypeId} {cur : Array Value} (h : RowC W g cap m T cur) {t : Nat} {s : Sol} (hs : m[t]? = some s) :
  W.cell? ⟨g, t * 8, none⟩ = some (.int .u64 (pl s 0)) ∧ W.cell? ⟨g, t * 8 + 1, none⟩ = some (.int .u64 (pl s 1)) ∧ W.cell? ⟨g, t * 8 + 2, none⟩ = some (.int .u64 (pl s 2)) ∧ W.cell? ⟨g, t * 8 + 3, none⟩ = some (.int .u64 (pl s 3)) ∧ W.cell? ⟨g, t * 8 + 4, none⟩ = some (.int .u64 (pl s 4)) ∧ W.cell? ⟨g, t * 8 + 5, none⟩ = some (.int .u64 (pl s 5)) ∧ W.cell? ⟨g, t * 8 + 6, none⟩ = some (.int .u64 (pl s 6)) ∧ W.cell? ⟨g, t * 8 + 7, none⟩ = some (.int .u64 (pl s 7)) :=
 ⟨h.sol hs (z := 0) (by omega), h.sol hs (z := 1) (by omega), h.sol hs (z := 2) (by omega), h.sol hs (z := 3) (by omega), h.sol hs (z := 4) (by omega), h.sol hs (z := 5) (by omega), h.sol hs (z := 6) (by omega), h.sol hs (z := 7) (by omega)⟩
/-- while neighbours are taken out: K of them stand in front, the rest is as it was -/
structure CmpI (W : World) (g cap : Nat) (l : List Sol) (T : TypeId) (q K : Nat) (cur : Array Value) : Prop where
 blk : Blk W g cur T
 size : cur.size = cap * 8
 front : cur.toList.take (K * 8) = ((ddN l q).map solL).flatten
 len : (ddN l q).length = K
 rest : ∀ t s z, q - 1 ≤ t → l[t]? = some s → z < 8 → cur[t * 8 + z]? = some (.int .u64 (pl s z))
theorem CmpI.grow {W W' : World} {g cap : Nat} {l : List Sol} {T : TypeId} {q K : Nat} {cur : Array Value} (h : CmpI W g cap l T q K cur) (hb : Below W.heap.size W W') : CmpI W' g cap l T q K cur := ⟨h.blk.grow hb, h.size, h.front, h.len, h.rest⟩
theorem CmpI.sol8 {W : World} {g cap : Nat} {l : List Sol} {T : TypeId} {q K : Nat} {cur : Array Value} (h : CmpI W g cap l T q K cur) {t : Nat} {s : Sol} (hq : q - 1 ≤ t) (hs : l[t]? = some s) :
  W.cell? ⟨g, t * 8, none⟩ = some (.int .u64 (pl s 0)) ∧ W.cell? ⟨g, t * 8 + 1, none⟩ = some (.int .u64 (pl s 1)) ∧ W.cell? ⟨g, t * 8 + 2, none⟩ = some (.int .u64 (pl s 2)) ∧ W.cell? ⟨g, t * 8 + 3, none⟩ = some (.int .u64 (pl s 3)) ∧ W.cell? ⟨g, t * 8 + 4, none⟩ = some (.int .u64 (pl s 4)) ∧ W.cell? ⟨g, t * 8 + 5, none⟩ = some (.int .u64 (pl s 5)) ∧ W.cell? ⟨g, t * 8 + 6, none⟩ = some (.int .u64 (pl s 6)) ∧ W.cell? ⟨g, t * 8 + 7, none⟩ = some (.int .u64 (pl s 7)) := by
 have k : ∀ z, z < 8 → W.cell? ⟨g, t * 8 + z, none⟩ = some (.int .u64 (pl s z)) := fun z hz => by rw [h.blk.cell]; exact h.rest t s z hq hs hz
 exact ⟨k 0 (by omega), k 1 (by omega), k 2 (by omega), k 3 (by omega), k 4 (by omega), k 5 (by omega), k 6 (by omega), k 7 (by omega)⟩
theorem CmpI.same {W : World} {g cap : Nat} {l : List Sol} {T : TypeId} {q K : Nat} {cur : Array Value} (h : CmpI W g cap l T q K cur) (hq : 0 < q) (he : l[q]? = l[q - 1]?) : CmpI W g cap l T (q + 1) K cur :=
 ⟨h.blk, h.size, by rw [ddN_same hq he]; exact h.front, by rw [ddN_same hq he]; exact h.len, fun t s z h1 h2 h3 => h.rest t s z (by omega) h2 h3⟩
theorem spl_get (cur : Array Value) {o : Nat} {vs : List Value} (hf : o + vs.length ≤ cur.size) {k : Nat} (hk : o + vs.length ≤ k) : (spl cur o vs)[k]? = cur[k]? := by
 have h1 : (cur.toList.take o ++ vs).length = o + vs.length := by rw [List.length_append, List.length_take, Array.length_toList]; omega
 unfold spl
 rw [List.getElem?_toArray, List.getElem?_append_right (by rw [h1]; exact hk), h1, List.getElem?_drop, Array.getElem?_toList]
 congr 1; omega
theorem CmpI.new {W : World} {g cap : Nat} {l : List Sol} {T : TypeId} {q K : Nat} {cur : Array Value} (h : CmpI W g cap l T q K cur) (hq : 0 < q) {x : Sol} (hx : l[q]? = some x) (hne : l[q]? ≠ l[q - 1]?) (hK : K < q) (hcap : q < cap) :
  CmpI (W.setRow g (spl cur (K * 8) (solL x))) g cap l T (q + 1) (K + 1) (spl cur (K * 8) (solL x)) := by
 have hl8 : (solL x).length = 8 := rfl
 have hfit : K * 8 + (solL x).length ≤ cur.size := by rw [h.size, hl8]; omega
 refine ⟨h.blk.rowS _, by rw [spl_size hfit]; exact h.size, ?_, by rw [ddN_new hx (fun _ => hne), List.length_append, h.len]; rfl, fun t s z h1 h2 h3 => ?_⟩
 ·rw [show (K + 1) * 8 = K * 8 + (solL x).length by rw [hl8]; omega, spl_lo hfit, h.front, ddN_new hx (fun _ => hne)]
  simp
 ·rw [spl_get _ hfit (by rw [hl8]; omega)]
  exact h.rest t s z (by omega) h2 h3
end Go.Proofs.YtkfimbonmnoglaaGreatDoor
end
