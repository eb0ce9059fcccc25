import Derived.Test.YtmngjhfhpldifaaDoorHL12
import Derived.Lib.SliceRun
import Derived.Laws.CopyRow
import Derived.Laws.Tables
import Derived.Laws.AppendOwn
/-
  Given contracts of functions of the program, and laws for them, one behind the other.
-/
set_option linter.unusedVariables false
set_option linter.unusedSimpArgs false
set_option linter.unusedSectionVars false
section
namespace Go.Proofs.YtmngjhfhpldifaaDoor
open Go Go.RowKit Go.Rel Go.Draw
set_option maxRecDepth 100000
/-! slices.Clone and slices.Delete on solids -/
theorem flat_get {size : Nat} : ∀ (ls : List (List Value)) (m : Nat) (u : Value), (∀ r ∈ ls, r.length = size) → (ls.flatten)[m]? = some u → ∃ i j, m = i * size + j ∧ (ls[i]?).bind (·[j]?) = some u
 | [], m, u, _, h => by simp at h
 | r :: rest, m, u, hr, h => by
  have hrl : r.length = size := hr r (by simp)
  simp only [List.flatten_cons] at h
  by_cases hm : m < r.length
  ·rw [List.getElem?_append_left hm] at h
   exact ⟨0, m, by omega, by simpa using h⟩
  ·rw [List.getElem?_append_right (by omega)] at h
   obtain ⟨i, j, e, h'⟩ := flat_get rest _ u (fun r' h' => hr r' (by simp [h'])) h
   exact ⟨i + 1, j, by rw [Nat.add_mul]; omega, by simpa using h'⟩
theorem Cells.flat {w : World} {b off size : Nat} {ls : List (List Value)} (h : Cells w b off size ls) (hs : ∀ r ∈ ls, r.length = size) : ∀ m u, (ls.flatten)[m]? = some u → w.cell? ((⟨b, off, none⟩ : Addr).add m) = some u := by
 intro m u hu
 obtain ⟨i, j, rfl, h'⟩ := flat_get ls m u hs hu
 have hadd : (⟨b, off, none⟩ : Addr).add (i * size + j) = ⟨b, off + i * size + j, none⟩ := by rw [Addr.add_lit, Nat.add_assoc]
 rw [hadd]
 exact h.2 i j u h'
theorem flat_len {size : Nat} : ∀ (ls : List (List Value)), (∀ r ∈ ls, r.length = size) → ls.flatten.length = ls.length * size
 | [], _ => by simp
 | r :: rest, h => by
  simp only [List.flatten_cons, List.length_append, List.length_cons]
  rw [flat_len rest (fun r' h' => h r' (by simp [h'])), h r (by simp), Nat.add_mul]; omega
set_option maxHeartbeats 2000000 in
theorem cloneSol (v : Value) (ls : List (List Value)) (w : World) (h : Sl w 8 v ls) (hs : ∀ r ∈ ls, r.length = 8) (hone : ∀ u ∈ ls.flatten, u.oneCell' = true) (hm : ls.length ≤ 1048576) :
  Calls Tryd.prog 60 #[v] w fun e w' => ∃ u, e = .returned u ∧ w'.ownsRow w.heap.size 41 8 u ls.length ls.flatten ∧ Below w.heap.size w w' := by
 obtain ⟨a, c, rfl, hc, hcm, hcells⟩ := h
 have hlen := flat_len ls hs
 obtain ⟨i0, hi, hz0, hz1, hz2⟩ := info_parts infoSolid
 have HI0 := Lib.hid (And.intro hi (And.intro hz0 (And.intro hz1 hz2))); clear hi hz0 hz1 hz2
 have heq := fun w => Lib.run_eql_slice_nil (P := Tryd.prog) w 22 41 a ls.length c 0 0 Tryd.underlying22
 cases a with
 | none =>
  have hl : ls = [] := by
   rcases hcells with h | ⟨b, off, h, _⟩
   ·exact h
   ·cases h
  subst hl
  clear hcells
  simp only [List.length_nil] at heq ⊢
  go_enter Tryd.func60, Tryd.ntmps60
  go_wp2_with fail
  go_ret
  exact ⟨_, rfl, World.ownsRow_nil _ _ _ _, Below.refl _ _⟩
 | some ad =>
  have hn : ∀ j u, (ls.flatten)[j]? = some u → (w.alloc (.cells #[] 41)).cell? (ad.add j) = some u := by
   rcases hcells with h | ⟨b, off, h, hcs⟩
   ·subst h; intro j u hu; simp at hu
   ·cases h
    exact (hcs.mono (bel_alloc (bel_refl w) _) hcs.1).flat hs
  have HN := Lib.hid hn; clear hn hcells
  have HL := Lib.hid hlen; clear hlen
  have HO := Lib.hid hone; clear hone hs
  generalize ls.flatten = fl at *
  generalize ls.length = n at *
  go_enter Tryd.func60, Tryd.ntmps60
  go_wp2_with (first
   | (at_builtin; refine wpList_append_own _ rfl _ _ 22 rfl w.heap.size 41 i0 (.agg #[.int .u64 0, .int .u64 0, .int .u64 0, .int .u64 0, .int .u64 0, .int .u64 0, .int .u64 0, .int .u64 0]) 8 64 Tryd.underlying22 HI0.out.1 HI0.out.2.1 HI0.out.2.2.1 HI0.out.2.2.2 rfl (by decide) _ 0 [] rfl (World.ownsRow_made w #[] 0 (Nat.le_refl _) (by unfold maxLen; omega) (by simp)) ad n c fl rfl HL.out HN.out HO.out (by unfold maxLen; omega) (by omega) (by simp) ?_; intro v' w3 hown' hgrow3 hnil3))
  have hO : w3.ownsRow w.heap.size 41 8 v' n fl := by simpa using hown'
  have hB : Below w.heap.size w w3 := (bel_alloc (bel_refl w) _).grown hgrow3 (by simp) (fun j hj => by cases hj; exact Nat.le_refl _)
  have HH := Lib.hid (And.intro hO hB); clear hO hB hown' hgrow3 hnil3
  go_wp2_with fail
  go_ret
  exact ⟨_, rfl, HH.out.1, HH.out.2⟩
theorem one_sol {l : List Sol} : ∀ u ∈ (l.map solL).flatten, u.oneCell' = true := by
 intro u hu
 obtain ⟨r, hr, hu⟩ := List.mem_flatten.1 hu
 obtain ⟨x, _, rfl⟩ := List.mem_map.1 hr
 simp at hu
 rcases hu with rfl | rfl | rfl | rfl | rfl | rfl | rfl | rfl <;> rfl
theorem CloneSol_spec (v : Value) (l : List Sol) (w : World) (h : SlS w v l) (hm : l.length ≤ 1048576) :
  Calls Tryd.prog 60 #[v] w fun e w' => ∃ u, e = .returned u ∧ OwnS w' w.heap.size u l ∧ Below w.heap.size w w' := by
 have := cloneSol v (l.map solL) w h (fun r hr => by obtain ⟨i, _, rfl⟩ := List.mem_map.1 hr; rfl) one_sol (by simpa using hm)
 rwa [List.length_map] at this
def spl (cur : Array Value) (o : Nat) (vs : List Value) : Array Value := (cur.toList.take o ++ vs ++ cur.toList.drop (o + vs.length)).toArray
theorem spl_size {cur : Array Value} {o : Nat} {vs : List Value} (h : o + vs.length ≤ cur.size) : (spl cur o vs).size = cur.size := by
 unfold spl; simp; omega
theorem flat_len10 {k : Nat} {α : Type} (row : α → List Value) (hk : ∀ a, (row a).length = k) : ∀ m : List α, ((m.map row).flatten).length = m.length * k
 | [] => by simp
 | y :: m => by simp [flat_len10 row hk m, hk y, Nat.add_mul]; omega
theorem zeroCells_len (z : Array Value) (n : Nat) : (Builtin.zeroCells z n).toList.length = n * z.size := by simp [Builtin.zeroCells]
theorem zeroCells_one {z : Array Value} (h : ∀ v ∈ z.toList, v.oneCell' = true) (n : Nat) : ∀ v ∈ (Builtin.zeroCells z n).toList, v.oneCell' = true := by
 intro v hv
 obtain ⟨i, hi, rfl⟩ := List.mem_iff_getElem.1 hv
 rw [zeroCells_len] at hi
 have h0 : 0 < z.size := by
  rcases Nat.eq_zero_or_pos z.size with h | h
  ·rw [h] at hi; simp at hi
  ·exact h
 have hm : i % z.size < z.size := Nat.mod_lt _ h0
 simp only [Builtin.zeroCells, Array.getElem_toList, Array.getElem_ofFn]
 refine h _ ?_
 simp [Array.getD, hm]
theorem run_clear_rows {P : Program} (w : World) (t e ty : TypeId) (z : Value) (ht : P.underlying t = some (.slice e)) (hv : ∀ w, (zeroValue e).run P w = .ok z w) (h1 : ∀ v ∈ z.cells.toList, v.oneCell' = true) (g o n c : Nat) (hn : 0 < n)
  (cur : Array Value) (tt : TypeId) (hg : w.heap[g]? = some (.cells cur tt (0, 0))) (hfit : o + n * z.cells.size ≤ cur.size) :
  (Builtin.clear_ #[t] ty #[.slice (some ⟨g, o, none⟩) n c]).run P w = .ok (.tuple #[]) (w.setRow g (spl cur o (Builtin.zeroCells z.cells n).toList)) := by
 have hst := run_storeCells_at (P := P) g o tt (Builtin.zeroCells z.cells n).toList 0 cur w hg (by rw [zeroCells_len]; simpa using hfit) (zeroCells_one h1 n)
 simp only [Nat.add_zero] at hst
 obtain ⟨m, rfl⟩ : ∃ m, n = m + 1 := ⟨n - 1, by omega⟩
 simp [Builtin.clear_, run_underlying ht, hv, hst, spl]
theorem spl_lo {cur : Array Value} {o : Nat} {vs : List Value} (hf : o + vs.length ≤ cur.size) : (spl cur o vs).toList.take (o + vs.length) = cur.toList.take o ++ vs := by
 unfold spl
 have hl : (cur.toList.take o ++ vs).length = o + vs.length := by rw [List.length_append, List.length_take, Array.length_toList]; omega
 show (cur.toList.take o ++ vs ++ cur.toList.drop (o + vs.length)).take (o + vs.length) = _
 rw [← hl, List.take_left]
theorem spl_take_lo {cur : Array Value} {o k : Nat} {vs : List Value} (hk : k ≤ o) (ho : o ≤ cur.size) : (spl cur o vs).toList.take k = cur.toList.take k := by
 unfold spl
 show (cur.toList.take o ++ vs ++ cur.toList.drop (o + vs.length)).take k = _
 rw [List.append_assoc, List.take_append_of_le_length (by rw [List.length_take, Array.length_toList]; omega), List.take_take, Nat.min_eq_left hk]
@[irreducible] def VSl (x v : Value) (_ : World) : Prop := v = x
theorem VSl.stab {x : Value} {R : World → World → Prop} (v : Value) (W W' : World) (h : VSl x v W) (_ : R W W') : VSl x v W' := by unfold VSl at *; exact h
def dropL (m : List Sol) (i : Nat) : List Sol := m.take i ++ m.drop (i + 1)
theorem dropL_len {m : List Sol} {i : Nat} (h : i < m.length) : (dropL m i).length = m.length - 1 := by
 unfold dropL
 rw [List.length_append, List.length_take, List.length_drop]
 omega
structure OwnQ (W : World) (base : Nat) (m : List Sol) (g cap : Nat) (cur : Array Value) : Prop where
 base : base ≤ g
 blk : Blk W g cur 41
 le : m.length ≤ cap
 lim : cap ≤ maxLen
 size : cur.size = cap * 8
 rows : cur.toList.take (m.length * 8) = (m.map solL).flatten
theorem OwnS.opn {W : World} {base : Nat} {v : Value} {m : List Sol} (h : OwnS W base v m) (h0 : m ≠ []) : ∃ g cap cur, v = .slice (some ⟨g, 0, none⟩) m.length cap ∧ OwnQ W base m g cap cur := by
 obtain ⟨_, h | ⟨g, cap, cur, hv, hg, hh, hr⟩⟩ := h
 ·exact absurd (List.eq_nil_of_length_eq_zero h.2) h0
 ·exact ⟨g, cap, cur, hv, hg, hh, hr.1, hr.2.1, hr.2.2.1, hr.2.2.2⟩
theorem solL_len (a : Sol) : (solL a).length = 8 := rfl
section
variable {W : World} {base g cap : Nat} {m : List Sol} {cur : Array Value}
theorem OwnQ.own (h : OwnQ W base m g cap cur) : OwnS W base (.slice (some ⟨g, 0, none⟩) m.length cap) m :=
 ⟨flat_len10 solL solL_len m, .inr ⟨g, cap, cur, rfl, h.base, h.blk, h.le, h.lim, h.size, h.rows⟩⟩
end
theorem own_len {W : World} {base k cap : Nat} {q : Option Addr} {m : List Sol} (h : OwnS W base (.slice q m.length cap) m) (hk : m.length = k) : OwnS W base (.slice q k cap) m := by
 subst hk; exact h
theorem solFlat_len (l : List Sol) : ((l.map solL).flatten).length = l.length * 8 := flat_len10 solL solL_len l
def delC (cur : Array Value) (m : List Sol) (i : Nat) : Array Value := spl cur (i * 8) (((m.drop (i + 1)).map solL).flatten)
theorem OwnQ.del {W : World} {base g cap : Nat} {m : List Sol} {cur : Array Value} (h : OwnQ W base m g cap cur) {i : Nat} (hi : i < m.length) : OwnQ (W.setRow g (delC cur m i)) base (dropL m i) g cap (delC cur m i) := by
 have hle := h.le
 have hl : (((m.drop (i + 1)).map solL).flatten).length = (m.length - (i + 1)) * 8 := by rw [solFlat_len, List.length_drop]
 have hf : i * 8 + (((m.drop (i + 1)).map solL).flatten).length ≤ cur.size := by rw [hl, h.size]; omega
 have hdl := dropL_len hi
 refine ⟨h.base, h.blk.rowS _, by rw [hdl]; omega, h.lim, by unfold delC; rw [spl_size hf]; exact h.size, ?_⟩
 have hlo := spl_lo hf
 unfold delC
 rw [show (dropL m i).length * 8 = i * 8 + (((m.drop (i + 1)).map solL).flatten).length by rw [hdl, hl]; omega, hlo]
 unfold dropL
 rw [List.map_append, List.flatten_append]
 congr 1
 have h3 : (m.map solL).flatten = ((m.take i).map solL).flatten ++ ((m.drop i).map solL).flatten := by rw [← List.flatten_append, ← List.map_append, List.take_append_drop]
 have h4 : (((m.take i).map solL).flatten).length = i * 8 := by rw [solFlat_len, List.length_take]; omega
 have h5 : ((m.take i).map solL).flatten = ((m.map solL).flatten).take (i * 8) := by rw [h3, ← h4, List.take_left]
 rw [h5, ← h.rows, List.take_take, Nat.min_eq_left (by omega)]
theorem OwnQ.grw {W W' : World} {base g cap : Nat} {m : List Sol} {cur : Array Value} (h : OwnQ W base m g cap cur) (hb : Below W.heap.size W W') : OwnQ W' base m g cap cur := ⟨h.base, h.blk.grow hb, h.le, h.lim, h.size, h.rows⟩
theorem del_append {W : World} {base g cap n i : Nat} {m : List Sol} {cur : Array Value} (h : OwnQ W base m g cap cur) (hn : m.length = n) (hi : i < n) :
  (Builtin.append_ #[22, 22] 22 #[.slice (some ⟨g, 0, none⟩) i cap, sliced (some ⟨g, 0, none⟩) (i + 1) n cap 8]).run Tryd.prog W = .ok (.slice (some ⟨g, 0, none⟩) (i + (n - (i + 1))) cap) (W.setRow g (delC cur m i)) := by
 obtain ⟨i0, hi0, hz0, hz1, hz2⟩ := info_parts infoSolid
 have hle := h.le
 have hl : (((m.drop (i + 1)).map solL).flatten).length = (n - (i + 1)) * 8 := by rw [solFlat_len, List.length_drop, hn]
 have hfit : i * i0.size + (((m.drop (i + 1)).map solL).flatten).length ≤ cur.size := by rw [hl, h.size, hz1]; omega
 have key : ∃ a c', sliced (some ⟨g, 0, none⟩) (i + 1) n cap 8 = .slice (some a) (n - (i + 1)) c' ∧ ∀ j u, (((m.drop (i + 1)).map solL).flatten)[j]? = some u → W.cell? (a.add j) = some u := by
  unfold sliced
  by_cases hc : cap = i + 1
  ·have hz : n - (i + 1) = 0 := by omega
   have hd : m.drop (i + 1) = [] := List.drop_eq_nil_of_le (by omega)
   refine ⟨⟨g, 0, none⟩, cap - (i + 1), by simp [hc], fun j u hu => ?_⟩
   rw [hd] at hu; simp at hu
  ·refine ⟨⟨g, (i + 1) * 8, none⟩, cap - (i + 1), by simp [hc, Go.WideShapes.add_plain, show ¬ (cap - (i + 1) = 0) by omega], fun j u hu => ?_⟩
   rw [Go.WideShapes.add_plain, h.blk.cell]
   have h3 : (m.map solL).flatten = ((m.take (i + 1)).map solL).flatten ++ ((m.drop (i + 1)).map solL).flatten := by rw [← List.flatten_append, ← List.map_append, List.take_append_drop]
   have h4 : (((m.take (i + 1)).map solL).flatten).length = (i + 1) * 8 := by rw [solFlat_len, List.length_take]; omega
   have h5 : ((m.map solL).flatten)[(i + 1) * 8 + j]? = some u := by rw [h3, List.getElem?_append_right (by omega), h4, Nat.add_sub_cancel_left]; exact hu
   rw [← h.rows, List.getElem?_take] at h5
   split at h5
   ·simpa using h5
   ·cases h5
 obtain ⟨a, c', he, hcell⟩ := key
 rw [he]
 have hr := run_append_room (P := Tryd.prog) W 22 22 41 i0 Tryd.underlying22 hi0 g i cap cur h.blk a (n - (i + 1)) c' (((m.drop (i + 1)).map solL).flatten) (by rw [hl, hz1]) hcell one_sol (by omega) hfit
 rw [hr, hz1]
 rfl
theorem OwnQ.clear {W : World} {base g cap : Nat} {m : List Sol} {cur : Array Value} (h : OwnQ W base m g cap cur) {vs : List Value} (hf : m.length * 8 + vs.length ≤ cur.size) : OwnQ (W.setRow g (spl cur (m.length * 8) vs)) base m g cap (spl cur (m.length * 8) vs) :=
 ⟨h.base, h.blk.rowS _, h.le, h.lim, by rw [spl_size hf]; exact h.size, by rw [spl_take_lo (Nat.le_refl _) (by omega)]; exact h.rows⟩
def JD (base g cap : Nat) (m : List Sol) (i : Nat) (cur : Array Value) (a : Bool) (W : World) : Prop := (a = false → OwnQ W base m g cap cur) ∧ (a = true → OwnQ W base (dropL m i) g cap (delC cur m i))
set_option maxHeartbeats 16000000 in
theorem DeleteSol (base n cap g i : Nat) (m : List Sol) (cur : Array Value) (w : World) (OB : OwnQ w base m g cap cur) (hn : m.length = n) (hi : i < n) (h60 : n ≤ 1048576) :
  Calls Tryd.prog 59 #[.slice (some ⟨g, 0, none⟩) n cap, .int .i64 (i : Int), .int .i64 (i + 1 : Int)] w fun e w' => ∃ u, e = .returned u ∧ OwnS w' base u (dropL m i) ∧ Below base w w' := by
 have HOB := Lib.hid OB
 have HN := Lib.hid hn
 have hnc : n ≤ cap := by rw [← hn]; exact OB.le
 have hcM : cap ≤ 9223372036854775807 := by have := OB.lim; unfold maxLen at this; omega
 have hbg := OB.base
 clear OB hn
 have hik : (i : Int) + 1 ≤ (n : Int) := by omega
 have h0i : (0 : Int) ≤ (i : Int) + 1 := by omega
 have hne : ((i : Int) == (i : Int) + 1) = false := by simp; omega
 go_enter Tryd.func59, Tryd.ntmps59
 go_wp2_with fail
 refine wp_region_val (Below base) (fun L vs W => JD base g cap m i cur (L 6) W) [Is (.slice (some ⟨g, 0, none⟩) n cap), Is (.int .i64 (i : Int)), Is (.slice (some ⟨g, 0, none⟩) i cap), Is (.slice (some ⟨g, 0, none⟩) n cap), Is (.int .i64 (i + 1 : Int)), VSl (sliced (some ⟨g, 0, none⟩) (i + 1) n cap 8), Is (.slice (some ⟨g, 0, none⟩) (i + (n - (i + 1))) cap), Is (.slice (some ⟨g, 0, none⟩) (i + (n - (i + 1))) cap)] (by kernel_rfl) (by kernel_rfl) rfl (Below.refl base) (fun _ _ _ => Below.trans) (stable_mem ⟨fun _ _ _ h _ => h, fun _ _ _ h _ => h, fun _ _ _ h _ => h, fun _ _ _ h _ => h, fun _ _ _ h _ => h, VSl.stab, fun _ _ _ h _ => h, fun _ _ _ h _ => h, trivial⟩) w (Below.drew (Below.refl _ _)) (⟨(fun _ => HOB.out.grw (bel_drew (bel_refl _))), (fun e => by cases e)⟩) ?_
 iterate 2 (refine val_cons ?_ (fun _ => ?_); · intro L vs w1 hvs hat hb hI hF; (try simp [factsI, Region.binds, Is] at hF); go_simp; (first | exact Below.refl _ _ | exact ⟨Below.refl _ _, hI⟩))
 refine val_cons ?_ (fun v2 => ?_)
 ·intro L vs w1 hvs hat hb hI hF; try simp [factsI, Region.binds, Is] at hF
  have hic : i ≤ cap := by omega
  go_simp
  first | exact Below.refl _ _ | exact ⟨Below.refl _ _, hI⟩
 iterate 2 (refine val_cons ?_ (fun _ => ?_); · intro L vs w1 hvs hat hb hI hF; (try simp [factsI, Region.binds, Is] at hF); go_simp; (first | exact Below.refl _ _ | exact ⟨Below.refl _ _, hI⟩))
 refine val_cons ?_ (fun v5 => ?_)
 ·intro L vs w1 hvs hat hb hI hF; try simp [factsI, Region.binds, Is] at hF
  go_simp
  first | exact ⟨Below.refl _ _, hI, (by unfold VSl; rfl)⟩ | (refine ⟨Below.refl _ _, ?_⟩; unfold VSl; rfl)
 refine val_cons ?_ (fun v6 => ?_)
 ·intro L vs w1 hvs hat hb hI hF; try simp [factsI, Region.binds, Is] at hF
  have h6 := hat.self
  have hv5 : v5 = sliced (some ⟨g, 0, none⟩) (i + 1) n cap 8 := by have := hF.2; unfold VSl at this; exact this
  have OB := hI.1 h6
  have hr := del_append OB HN.out hi
  subst hv5
  refine step_append (v := .slice (some ⟨g, 0, none⟩) i cap) (v7 := sliced (some ⟨g, 0, none⟩) (i + 1) n cap 8) rfl rfl ?_ ?_ hr ?_
  ·have h2 := hF.1
   subst h2
   go_simp
  ·go_simp
  simp [upd]
  exact ⟨blw_row (Below.refl _ _) hbg _, (fun e => by cases e), fun _ => OB.del (by rw [HN.out]; exact hi)⟩
 refine val_cons ?_ (fun v7 => ?_)
 ·intro L vs w1 hvs hat hb hI hF; try simp [factsI, Region.binds, Is] at hF
  go_simp
  first | exact Below.refl _ _ | exact ⟨Below.refl _ _, hI⟩ | skip
 refine val_nil ?_
 intro vs w1 hvs hb hI hF
 simp [Is, Nat.forall_lt_succ_right] at hF
 have e0 := hF.1.1.1.1.1.1.1
 have e1 := hF.1.1.1.1.1.1.2
 have e2 := hF.1.1.1.1.1.2
 have e3 := hF.1.1.1.1.2
 have e4 := hF.1.1.1.2
 have e5 := hF.1.1.2
 have e6 := hF.1.2
 have e7 := hF.2
 clear hF
 simp only [Act.put, List.setIfInBounds_toArray, List.set_cons_succ, List.set_cons_zero, e0, e1, e2, e3, e4, e6, e7]
 clear e0 e1 e2 e3 e4 e6 e7
 have OB := Lib.hid (hI.2 rfl)
 clear hvs hI e5
 have hlen : (dropL m i).length = i + (n - (i + 1)) := by rw [dropL_len (by rw [HN.out]; exact hi), HN.out]; omega
 have hcs := OB.out.size
 have hzl : (Builtin.zeroCells (Value.agg #[.int .u64 0, .int .u64 0, .int .u64 0, .int .u64 0, .int .u64 0, .int .u64 0, .int .u64 0, .int .u64 0]).cells (n - (i + (n - (i + 1))))).toList.length = (n - (i + (n - (i + 1)))) * 8 := by rw [zeroCells_len]; rfl
 have hr := run_clear_rows (P := Tryd.prog) w1 22 41 0 (.agg #[.int .u64 0, .int .u64 0, .int .u64 0, .int .u64 0, .int .u64 0, .int .u64 0, .int .u64 0, .int .u64 0]) Tryd.underlying22 (fun _ => Tryd.zeroValue41 _) (by decide) g ((i + (n - (i + 1))) * 8) (n - (i + (n - (i + 1)))) (cap - (i + (n - (i + 1)))) (by omega) (delC cur m i) 41 OB.out.blk (by rw [hcs]; show _ + (n - (i + (n - (i + 1)))) * 8 ≤ _; omega)
 go_wp2_with fail
 refine bodyPost_ret (v := .slice (some ⟨g, 0, none⟩) (i + (n - (i + 1))) cap) (by simp [results, Tryd.results59, go_sem]) rfl ⟨_, rfl, ?_, hb.trans (blw_row (Below.refl _ _) hbg _)⟩
 have h2 := OB.out.clear (vs := (Builtin.zeroCells (Value.agg #[.int .u64 0, .int .u64 0, .int .u64 0, .int .u64 0, .int .u64 0, .int .u64 0, .int .u64 0, .int .u64 0]).cells (n - (i + (n - (i + 1))))).toList) (by rw [hzl, hlen, hcs]; omega)
 rw [hlen] at h2
 exact own_len h2.own hlen
end Go.Proofs.YtmngjhfhpldifaaDoor
end
section
namespace Go.Proofs.YtmngjhfhpldifaaDoor
open Go.RowKit Go.Rel Go.Draw
set_option maxRecDepth 100000
/-! Without -/
set_option maxHeartbeats 8000000 in
theorem Without_spec {w : World} {v : Value} {l : List Sol} {p : Int} (H : SlS w v l) : Calls Tryd.prog 33 #[v, .int .i64 p] w fun e w' => Below w.heap.size w w' ∧ ∃ u, e = .returned (.tuple #[u, .int .i64 (askE l [] [p])]) ∧ (askE l [] [p] = 0 → SlS w' u (l.eraseIdx p.toNat)) ∧ (askE l [] [p] ≠ 0 → u = .slice none 0 0) := by
 have HA := Lib.hid (asked_spec (gone := []) (of := [p]) (H.mono (bel_alloc (bel_refl w) (.cells #[.int .i64 p] 3))) sl_nil (sl_news (Blk.new w #[.int .i64 p] 3)))
 have HH := Lib.hid H
 clear H
 go_enter Tryd.func33, Tryd.ntmps33
 go_wp2_with fail
 refine HA.out.mono ?_
 rintro e w1 ⟨hb1, a, G, rfl, hx, hn⟩
 have hb : Below w.heap.size w w1 := bel_trans (bel_alloc (bel_refl w) (.cells #[.int .i64 p] 3)) hb1
 by_cases h0 : askE l [] [p] = 0
 ·obtain ⟨hl, hE, hs, ha, g, mb, rfl, -, -, -⟩ := hx h0
  obtain ⟨q, rfl, hq⟩ := askE_p ha
  have HC := Lib.hid (CloneSol_spec v l w1 (HH.out.mono hb) (by omega))
  have HB := Lib.hid (And.intro hb h0)
  rw [h0]
  clear hb hb1 hx hn h0 hE hs ha
  go_wp2_with fail
  refine HC.out.mono ?_
  rintro e w2 ⟨u, rfl, hO, hb2⟩
  obtain ⟨g2, cap, cur, rfl, hQ⟩ := hO.opn (fun h => by rw [h] at hq; cases hq)
  have HD := Lib.hid (DeleteSol w1.heap.size l.length cap g2 q l cur w2 hQ rfl hq (by omega))
  have H2 := Lib.hid (bel_trans HB.out.1 hb2)
  have hsz := hb2.size
  clear hO hb2 hQ
  go_wp2_with fail
  refine HD.out.mono ?_
  rintro e w3 ⟨u3, rfl, hO3, hb3⟩
  have h3 := Lib.hid (And.intro (OwnS.sl hO3) (H2.out.trans (hb3.mono HB.out.1.size)))
  clear hO3 hb3
  go_wp2_with fail
  go_ret2
  refine ⟨h3.out.2, _, by rw [HB.out.2]; rfl, (fun _ => ?_), fun h => absurd HB.out.2 h⟩
  have := h3.out.1
  rw [Int.toNat_natCast, List.eraseIdx_eq_take_drop_succ]
  exact this
 ·have e0 : (askE l [] [p] != 0) = true := by simpa using h0
  have HB := Lib.hid (And.intro hb h0)
  clear hb hb1 hx hn h0
  go_wp2_with fail
  go_ret2
  exact ⟨HB.out.1, _, by rfl, (fun h => absurd h HB.out.2), fun _ => rfl⟩
end Go.Proofs.YtmngjhfhpldifaaDoor
end
section
namespace Go.Proofs.YtmngjhfhpldifaaDoor
open Go.RowKit Go.Rel Go.Draw
set_option maxRecDepth 100000
/-! DrawSand -/
abbrev OwnV (W : World) (base : Nat) (v : Value) (l : List MvI) : Prop := W.ownsRow base 51 3 v l.length (l.map mvIL).flatten
theorem OwnV.sl {W : World} {base : Nat} {v : Value} {l : List MvI} (h : OwnV W base v l) : SlX W v l :=
 own_sl (fun r hr => by obtain ⟨i, _, rfl⟩ := List.mem_map.1 hr; rfl) rfl (by rw [List.length_map]; exact h)
theorem own_snocV {W : World} {base : Nat} {v : Value} {l : List MvI} {x : MvI} (h : W.ownsRow base 51 3 v (l.length + 1) ((l.map mvIL).flatten ++ mvIL x)) : OwnV W base v (l ++ [x]) := by
 unfold OwnV
 rw [List.length_append, List.map_append, List.flatten_append]
 simpa using h
theorem sand_errM {m : List Sol} (h : errM m = 0) (p : Nat) : errM (m.eraseIdx p) = 0 := by
 rw [errM_zero] at h ⊢
 exact ⟨Nat.le_trans (List.length_eraseIdx_le ..) h.1, good_erase h.2 p⟩
set_option maxHeartbeats 16000000 in
theorem DrawSand_walk {W : World} {v lv : Value} {m : List Sol} {ls : List MvI} {p : Int} (H : SlS W v m) (HL : SlX W lv ls) (hT : Tab W) : Calls Tryd.prog 10 #[v, .int .i64 p, lv] W fun e w' => e = .returned (.bool true) ∧ Below W.heap.size W w' := by
 obtain ⟨i0, hi, hz0, hz1, hz2⟩ := info_parts infoMove
 have HI0 := Lib.hid (And.intro hi (And.intro hz0 (And.intro hz1 hz2))); clear hi hz0 hz1 hz2
 have HF := Lib.hid (few_spec 12 H)
 obtain ⟨b2, c2, rfl, hmx, hcl⟩ := mvs_open HL
 have HH := Lib.hid (And.intro H (And.intro HL (And.intro hT hcl)))
 have HC := Lib.hid (cast_spec hT)
 clear H HL hT hcl
 by_cases hfew : (m.length : Int) ≤ 12 ∨ 12 < m.length ∧ m.length ≤ 15
 ·rw [few_ok hfew] at HF
  clear hfew
  by_cases hlen : ls.length ≤ 20
  ·have hln : ¬ (20 < (ls.length : Int)) := by omega
   have hld : decide (20 < (ls.length : Int)) = false := decide_eq_false hln
   go_enter Tryd.func10, Tryd.ntmps10
   go_wp2_with fail
   refine HF.out.mono ?_
   rintro e w1 ⟨rfl, hw1⟩
   have hw2 := hw1.symm
   subst hw2
   clear hw1
   go_wp2_with fail
   refine (Without_spec HH.out.1).mono ?_
   rintro e w2 ⟨hb2, u, rfl, hu0, hun⟩
   have HC2 := Lib.hid (cast_spec (HH.out.2.2.1.grow hb2))
   by_cases h0 : askE m [] [p] = 0
   ·obtain ⟨hm, hE, q, rfl, hq⟩ := askE_pt h0
    have hE2 := sand_errM hE q
    have hsu := hu0 h0
    rw [Int.toNat_natCast] at hsu
    rw [h0]
    have H2 := Lib.hid (And.intro hb2 (And.intro hm (And.intro hE (And.intro hq (And.intro hE2 hsu)))))
    clear hb2 hu0 hun h0 hm hE hq hE2 hsu
    go_wp2_with fail
    refine (CheckOrder_spec H2.out.2.2.2.2.2 (HH.out.2.1.mono H2.out.1)).mono ?_
    rintro e w3 ⟨hb3, b, rfl, hb1, -⟩
    rw [H2.out.2.2.2.2.1]
    have hbe := hb1 H2.out.2.2.2.2.1
    have H3 := Lib.hid (bel_trans H2.out.1 hb3); clear hb3 hb1
    have HC3 := Lib.hid (cast_spec (HH.out.2.2.1.grow H3.out))
    cases hmade : madeM (m.eraseIdx q) ls with
    | none =>
     rw [hmade] at hbe
     replace hbe : b = false := hbe
     subst hbe
     clear hmade
     go_wp2_with fail
     refine HC3.out.mono ?_
     rintro e w4 ⟨rfl, hb4⟩
     have H4 := Lib.hid hb4; clear hb4
     go_wp2_with fail
     go_ret
     exact ⟨rfl, bel_trans H3.out H4.out⟩
    | some S =>
     rw [hmade] at hbe
     replace hbe : b = true := hbe
     subst hbe
     have hm12 : (m.eraseIdx q).length ≤ 12 := Nat.le_trans (List.length_eraseIdx_le ..) H2.out.2.1
     have hlaw := sand_law H2.out.2.1 (errM_zero.1 H2.out.2.2.1).2 H2.out.2.2.2.1 (l := ls) (by rw [hmade]; rfl)
     have HM := Lib.hid (And.intro hlaw (And.intro hm12 hmade))
     have hq12 : q < 12 := Nat.lt_of_lt_of_le H2.out.2.2.2.1 H2.out.2.1
     clear hlaw hm12 hmade HC HC2 HC3
     go_wp2_with fail
     go_loopw [11, 12] (fun tv iv wx => ∃ i : Nat, i ≤ ls.length ∧ iv = .int .i64 i ∧ Hid (OwnV wx W.heap.size tv ((ls.take i).map (shI q)) ∧ Below W.heap.size W wx)) (fun _ iv _ => ls.length - (intOf iv).toNat)
     case atStart => exact ⟨0, Nat.zero_le _, rfl, Lib.hid ⟨World.ownsRow_nil _ _ _ _, H3.out⟩⟩
     case round =>
      obtain ⟨i, hi, rfl, HI⟩ := hrel
      by_cases hlt : i < ls.length
      ·have hdl : decide ((i : Int) < (ls.length : Int)) = true := decide_eq_true (by omega)
       obtain ⟨x, hx⟩ : ∃ x, ls[i]? = some x := ⟨_, List.getElem?_eq_getElem hlt⟩
       obtain ⟨r, hre, hr⟩ := made_piece HM.out.2.1 HM.out.2.2 hx
       obtain ⟨ib, io, rfl, lib, h0, h1, h2⟩ := HH.out.2.2.2 i x hx
       rw [hre] at h0
       have c0 := (HI.out.2.cell (p := ⟨ib, io + i * 3, none⟩) lib).trans h0
       have c1 := (HI.out.2.cell (p := ⟨ib, io + i * 3 + 1, none⟩) lib).trans h1
       have c2' := (HI.out.2.cell (p := ⟨ib, io + i * 3 + 2, none⟩) lib).trans h2
       have l1 : ib < wr.heap.size := Nat.lt_of_lt_of_le lib HI.out.2.size
       have hr12 : r < 12 := Nat.lt_of_lt_of_le hr HM.out.2.1
       obtain ⟨x0, x1, x2⟩ := x
       have htk : (ls.take (i + 1)).map (shI q) = (ls.take i).map (shI q) ++ [shI q (x0, x1, x2)] := by rw [List.take_add_one, hx]; simp
       replace hre : x0 = (r : Int) := hre
       rw [hre] at htk
       have hbs := HI.out.2.size
       have hown := HI.out.1
       unfold OwnV at hown
       rw [List.length_map, List.length_take, Nat.min_eq_left hi] at hown
       have HX := Lib.hid (And.intro htk hown)
       clear htk hown hx h0 h1 h2 lib hre
       by_cases hge : q ≤ r
       ·have hd : decide ((q : Int) ≤ (r : Int)) = true := decide_eq_true (by omega)
        have hgi : (q : Int) ≤ (r : Int) := by omega
        go_wp2_with (first
         | (at_builtin; refine wpList_append_own _ rfl _ _ 53 rfl W.heap.size 51 i0 _ 3 24 Tryd.underlying53 HI0.out.1 HI0.out.2.1 HI0.out.2.2.1 HI0.out.2.2.2 rfl (by decide) _ _ _ rfl ((HX.out.2.alloc _).alloc _) ⟨wr.heap.size + 1, 0, none⟩ 1 1 (mvIL ((r : Int) + 1, x1, x2)) rfl rfl (blk_news (Blk.new1 wr _ _ 51)) (fun y hy => by simp [mvIL] at hy; rcases hy with rfl | rfl | rfl <;> rfl) (by unfold maxLen; omega) (by omega) (by simp; omega) ?_; intro v' w7 hown' hgrow7 hnil7))
        have hb7 : Below W.heap.size wr w7 := ((bel_alloc (bel_alloc (bel_refl wr) (.cells #[.int .i64 ((r : Int) + 1), .int .i64 x1, .int .i64 x2] 51)) (.cells #[.int .i64 ((r : Int) + 1), .int .i64 x1, .int .i64 x2] 51)).mono hbs).grown hgrow7 (by simp; omega) (fun j hj => (((HX.out.2.alloc (.cells #[.int .i64 ((r : Int) + 1), .int .i64 x1, .int .i64 x2] 51)).alloc (.cells #[.int .i64 ((r : Int) + 1), .int .i64 x1, .int .i64 x2] 51)).lt j hj).1)
        refine ⟨⟨i + 1, by omega, by simp, Lib.hid ⟨?_, HI.out.2.trans hb7⟩⟩, by simp [intOf]; omega⟩
        rw [HX.out.1, show shI q ((r : Int), x1, x2) = ((r : Int) + 1, x1, x2) by unfold shI; rw [if_pos hgi]]
        refine own_snocV ?_
        rw [List.length_map, List.length_take, Nat.min_eq_left hi]
        exact hown'
       ·have hd : decide ((q : Int) ≤ (r : Int)) = false := decide_eq_false (by omega)
        have hgi : ¬ (q : Int) ≤ (r : Int) := by omega
        go_wp2_with (first
         | (at_builtin; refine wpList_append_own _ rfl _ _ 53 rfl W.heap.size 51 i0 _ 3 24 Tryd.underlying53 HI0.out.1 HI0.out.2.1 HI0.out.2.2.1 HI0.out.2.2.2 rfl (by decide) _ _ _ rfl ((HX.out.2.alloc _).alloc _) ⟨wr.heap.size + 1, 0, none⟩ 1 1 (mvIL ((r : Int), x1, x2)) rfl rfl (blk_news (Blk.new1 wr _ _ 51)) (fun y hy => by simp [mvIL] at hy; rcases hy with rfl | rfl | rfl <;> rfl) (by unfold maxLen; omega) (by omega) (by simp; omega) ?_; intro v' w7 hown' hgrow7 hnil7))
        have hb7 : Below W.heap.size wr w7 := ((bel_alloc (bel_alloc (bel_refl wr) (.cells #[.int .i64 ((r : Int)), .int .i64 x1, .int .i64 x2] 51)) (.cells #[.int .i64 ((r : Int)), .int .i64 x1, .int .i64 x2] 51)).mono hbs).grown hgrow7 (by simp; omega) (fun j hj => (((HX.out.2.alloc (.cells #[.int .i64 ((r : Int)), .int .i64 x1, .int .i64 x2] 51)).alloc (.cells #[.int .i64 ((r : Int)), .int .i64 x1, .int .i64 x2] 51)).lt j hj).1)
        refine ⟨⟨i + 1, by omega, by simp, Lib.hid ⟨?_, HI.out.2.trans hb7⟩⟩, by simp [intOf]; omega⟩
        rw [HX.out.1, show shI q ((r : Int), x1, x2) = ((r : Int), x1, x2) by unfold shI; rw [if_neg hgi]]
        refine own_snocV ?_
        rw [List.length_map, List.length_take, Nat.min_eq_left hi]
        exact hown'
      ·obtain rfl : i = ls.length := by omega
       have hO := HI.out.1
       rw [List.take_length] at hO
       have HS := Lib.hid (And.intro (OwnV.sl hO) HI.out.2)
       clear hO
       go_wp2_with fail
       refine (CheckOrder_spec (HH.out.1.mono HS.out.2) HS.out.1).mono ?_
       rintro e w4 ⟨hb4, b, rfl, hb1, -⟩
       rw [H2.out.2.2.1]
       have hbe := (hb1 H2.out.2.2.1).trans HM.out.1
       subst hbe
       have H4 := Lib.hid (bel_trans HS.out.2 hb4); clear hb4 hb1
       have HC4 := Lib.hid (cast_spec (HH.out.2.2.1.grow H4.out))
       go_wp2_with fail
       refine HC4.out.mono ?_
       rintro e w5 ⟨rfl, hb5⟩
       have H5 := Lib.hid hb5; clear hb5
       go_wp2_with fail
       go_ret
       exact ⟨rfl, bel_trans H4.out H5.out⟩
   ·have e0 : (askE m [] [p] != 0) = true := by simpa using h0
    have H2 := Lib.hid hb2
    clear hb2 hu0 hun h0
    go_wp2_with fail
    refine HC2.out.mono ?_
    rintro e w4 ⟨rfl, hb4⟩
    have H4 := Lib.hid hb4; clear hb4
    go_wp2_with fail
    go_ret
    exact ⟨rfl, bel_trans H2.out H4.out⟩
  ·have hln : 20 < (ls.length : Int) := by omega
   have hld : decide (20 < (ls.length : Int)) = true := decide_eq_true hln
   go_enter Tryd.func10, Tryd.ntmps10
   go_wp2_with fail
   refine HF.out.mono ?_
   rintro e w1 ⟨rfl, hw1⟩
   have hw2 := hw1.symm
   subst hw2
   clear hw1
   go_wp2_with fail
   refine HC.out.mono ?_
   rintro e w4 ⟨rfl, hb4⟩
   have H4 := Lib.hid hb4; clear hb4
   go_wp2_with fail
   go_ret
   exact ⟨rfl, H4.out⟩
 ·rw [few_bad hfew] at HF
  clear hfew
  go_enter Tryd.func10, Tryd.ntmps10
  go_wp2_with fail
  refine HF.out.mono ?_
  rintro e w1 ⟨rfl, hw1⟩
  have hw2 := hw1.symm
  subst hw2
  clear hw1
  go_wp2_with fail
  refine HC.out.mono ?_
  rintro e w4 ⟨rfl, hb4⟩
  have H4 := Lib.hid hb4; clear hb4
  go_wp2_with fail
  go_ret
  exact ⟨rfl, H4.out⟩
end Go.Proofs.YtmngjhfhpldifaaDoor
end
