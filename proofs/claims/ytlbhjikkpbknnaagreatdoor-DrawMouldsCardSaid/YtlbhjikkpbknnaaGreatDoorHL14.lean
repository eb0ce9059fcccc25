import Derived.Test.YtlbhjikkpbknnaaGreatDoorHL1
import Derived.Lib.SliceRun
import Derived.Laws.CopyRow
import Derived.Laws.Tables
import Derived.Laws.AppendOwn
/-
  Given contracts of functions of the program, and laws for them, one behind the other.
-/
set_option linter.unusedVariables false
set_option linter.unusedSimpArgs false
set_option linter.unusedSectionVars false
section
namespace Go.Proofs.YtlbhjikkpbknnaaGreatDoor
open Go Go.RowKit Go.Rel Go.Draw
set_option maxRecDepth 100000
/-! slices.Clone and slices.Delete on solids -/
theorem flat_get {size : Nat} : ∀ (ls : List (List Value)) (m : Nat) (u : Value), (∀ r ∈ ls, r.length = size) → (ls.flatten)[m]? = some u → ∃ i j, m = i * size + j ∧ (ls[i]?).bind (·[j]?) = some u
 | [], m, u, _, h => by simp at h
 | r :: rest, m, u, hr, h => by
  have hrl : r.length = size := hr r (by simp)
  simp only [List.flatten_cons] at h
  by_cases hm : m < r.length
  ·rw [List.getElem?_append_left hm] at h
   exact ⟨0, m, by omega, by simpa using h⟩
  ·rw [List.getElem?_append_right (by omega)] at h
   obtain ⟨i, j, e, h'⟩ := flat_get rest _ u (fun r' h' => hr r' (by simp [h'])) h
   exact ⟨i + 1, j, by rw [Nat.add_mul]; omega, by simpa using h'⟩
theorem Cells.flat {w : World} {b off size : Nat} {ls : List (List Value)} (h : Cells w b off size ls) (hs : ∀ r ∈ ls, r.length = size) : ∀ m u, (ls.flatten)[m]? = some u → w.cell? ((⟨b, off, none⟩ : Addr).add m) = some u := by
 intro m u hu
 obtain ⟨i, j, rfl, h'⟩ := flat_get ls m u hs hu
 have hadd : (⟨b, off, none⟩ : Addr).add (i * size + j) = ⟨b, off + i * size + j, none⟩ := by rw [Addr.add_lit, Nat.add_assoc]
 rw [hadd]
 exact h.2 i j u h'
theorem flat_len {size : Nat} : ∀ (ls : List (List Value)), (∀ r ∈ ls, r.length = size) → ls.flatten.length = ls.length * size
 | [], _ => by simp
 | r :: rest, h => by
  simp only [List.flatten_cons, List.length_append, List.length_cons]
  rw [flat_len rest (fun r' h' => h r' (by simp [h'])), h r (by simp), Nat.add_mul]; omega
set_option maxHeartbeats 2000000 in
theorem cloneSol (v : Value) (ls : List (List Value)) (w : World) (h : Sl w 8 v ls) (hs : ∀ r ∈ ls, r.length = 8) (hone : ∀ u ∈ ls.flatten, u.oneCell' = true) (hm : ls.length ≤ 1048576) :
  Calls Tryz.prog 109 #[v] w fun e w' => ∃ u, e = .returned u ∧ w'.ownsRow w.heap.size 64 8 u ls.length ls.flatten ∧ Below w.heap.size w w' := by
 obtain ⟨a, c, rfl, hc, hcm, hcells⟩ := h
 have hlen := flat_len ls hs
 obtain ⟨i0, hi, hz0, hz1, hz2⟩ := info_parts infoSolid
 have HI0 := Lib.hid (And.intro hi (And.intro hz0 (And.intro hz1 hz2))); clear hi hz0 hz1 hz2
 have heq := fun w => Lib.run_eql_slice_nil (P := Tryz.prog) w 22 64 a ls.length c 0 0 Tryz.underlying22
 cases a with
 | none =>
  have hl : ls = [] := by
   rcases hcells with h | ⟨b, off, h, _⟩
   ·exact h
   ·cases h
  subst hl
  clear hcells
  simp only [List.length_nil] at heq ⊢
  go_enter Tryz.func109, Tryz.ntmps109
  go_wp2_with fail
  go_ret
  exact ⟨_, rfl, World.ownsRow_nil _ _ _ _, Below.refl _ _⟩
 | some ad =>
  have hn : ∀ j u, (ls.flatten)[j]? = some u → (w.alloc (.cells #[] 64)).cell? (ad.add j) = some u := by
   rcases hcells with h | ⟨b, off, h, hcs⟩
   ·subst h; intro j u hu; simp at hu
   ·cases h
    exact (hcs.mono (bel_alloc (bel_refl w) _) hcs.1).flat hs
  have HN := Lib.hid hn; clear hn hcells
  have HL := Lib.hid hlen; clear hlen
  have HO := Lib.hid hone; clear hone hs
  generalize ls.flatten = fl at *
  generalize ls.length = n at *
  go_enter Tryz.func109, Tryz.ntmps109
  go_wp2_with (first
   | (at_builtin; refine wpList_append_own _ rfl _ _ 22 rfl w.heap.size 64 i0 (.agg #[.int .u64 0, .int .u64 0, .int .u64 0, .int .u64 0, .int .u64 0, .int .u64 0, .int .u64 0, .int .u64 0]) 8 64 Tryz.underlying22 HI0.out.1 HI0.out.2.1 HI0.out.2.2.1 HI0.out.2.2.2 rfl (by decide) _ 0 [] rfl (World.ownsRow_made w #[] 0 (Nat.le_refl _) (by unfold maxLen; omega) (by simp)) ad n c fl rfl HL.out HN.out HO.out (by unfold maxLen; omega) (by omega) (by simp) ?_; intro v' w3 hown' hgrow3 hnil3))
  have hO : w3.ownsRow w.heap.size 64 8 v' n fl := by simpa using hown'
  have hB : Below w.heap.size w w3 := (bel_alloc (bel_refl w) _).grown hgrow3 (by simp) (fun j hj => by cases hj; exact Nat.le_refl _)
  have HH := Lib.hid (And.intro hO hB); clear hO hB hown' hgrow3 hnil3
  go_wp2_with fail
  go_ret
  exact ⟨_, rfl, HH.out.1, HH.out.2⟩
theorem one_sol {l : List Sol} : ∀ u ∈ (l.map solL).flatten, u.oneCell' = true := by
 intro u hu
 obtain ⟨r, hr, hu⟩ := List.mem_flatten.1 hu
 obtain ⟨x, _, rfl⟩ := List.mem_map.1 hr
 simp at hu
 rcases hu with rfl | rfl | rfl | rfl | rfl | rfl | rfl | rfl <;> rfl
theorem CloneSol_spec (v : Value) (l : List Sol) (w : World) (h : SlS w v l) (hm : l.length ≤ 1048576) :
  Calls Tryz.prog 109 #[v] w fun e w' => ∃ u, e = .returned u ∧ OwnS w' w.heap.size u l ∧ Below w.heap.size w w' := by
 have := cloneSol v (l.map solL) w h (fun r hr => by obtain ⟨i, _, rfl⟩ := List.mem_map.1 hr; rfl) one_sol (by simpa using hm)
 rwa [List.length_map] at this
def spl (cur : Array Value) (o : Nat) (vs : List Value) : Array Value := (cur.toList.take o ++ vs ++ cur.toList.drop (o + vs.length)).toArray
theorem spl_size {cur : Array Value} {o : Nat} {vs : List Value} (h : o + vs.length ≤ cur.size) : (spl cur o vs).size = cur.size := by
 unfold spl; simp; omega
theorem flat_len10 {k : Nat} {α : Type} (row : α → List Value) (hk : ∀ a, (row a).length = k) : ∀ m : List α, ((m.map row).flatten).length = m.length * k
 | [] => by simp
 | y :: m => by simp [flat_len10 row hk m, hk y, Nat.add_mul]; omega
theorem zeroCells_len (z : Array Value) (n : Nat) : (Builtin.zeroCells z n).toList.length = n * z.size := by simp [Builtin.zeroCells]
theorem zeroCells_one {z : Array Value} (h : ∀ v ∈ z.toList, v.oneCell' = true) (n : Nat) : ∀ v ∈ (Builtin.zeroCells z n).toList, v.oneCell' = true := by
 intro v hv
 obtain ⟨i, hi, rfl⟩ := List.mem_iff_getElem.1 hv
 rw [zeroCells_len] at hi
 have h0 : 0 < z.size := by
  rcases Nat.eq_zero_or_pos z.size with h | h
  ·rw [h] at hi; simp at hi
  ·exact h
 have hm : i % z.size < z.size := Nat.mod_lt _ h0
 simp only [Builtin.zeroCells, Array.getElem_toList, Array.getElem_ofFn]
 refine h _ ?_
 simp [Array.getD, hm]
theorem run_clear_rows {P : Program} (w : World) (t e ty : TypeId) (z : Value) (ht : P.underlying t = some (.slice e)) (hv : ∀ w, (zeroValue e).run P w = .ok z w) (h1 : ∀ v ∈ z.cells.toList, v.oneCell' = true) (g o n c : Nat) (hn : 0 < n)
  (cur : Array Value) (tt : TypeId) (hg : w.heap[g]? = some (.cells cur tt (0, 0))) (hfit : o + n * z.cells.size ≤ cur.size) :
  (Builtin.clear_ #[t] ty #[.slice (some ⟨g, o, none⟩) n c]).run P w = .ok (.tuple #[]) (w.setRow g (spl cur o (Builtin.zeroCells z.cells n).toList)) := by
 have hst := run_storeCells_at (P := P) g o tt (Builtin.zeroCells z.cells n).toList 0 cur w hg (by rw [zeroCells_len]; simpa using hfit) (zeroCells_one h1 n)
 simp only [Nat.add_zero] at hst
 obtain ⟨m, rfl⟩ : ∃ m, n = m + 1 := ⟨n - 1, by omega⟩
 simp [Builtin.clear_, run_underlying ht, hv, hst, spl]
theorem spl_lo {cur : Array Value} {o : Nat} {vs : List Value} (hf : o + vs.length ≤ cur.size) : (spl cur o vs).toList.take (o + vs.length) = cur.toList.take o ++ vs := by
 unfold spl
 have hl : (cur.toList.take o ++ vs).length = o + vs.length := by rw [List.length_append, List.length_take, Array.length_toList]; omega
 show (cur.toList.take o ++ vs ++ cur.toList.drop (o + vs.length)).take (o + vs.length) = _
 rw [← hl, List.take_left]
theorem spl_take_lo {cur : Array Value} {o k : Nat} {vs : List Value} (hk : k ≤ o) (ho : o ≤ cur.size) : (spl cur o vs).toList.take k = cur.toList.take k := by
 unfold spl
 show (cur.toList.take o ++ vs ++ cur.toList.drop (o + vs.length)).take k = _
 rw [List.append_assoc, List.take_append_of_le_length (by rw [List.length_take, Array.length_toList]; omega), List.take_take, Nat.min_eq_left hk]
@[irreducible] def VSl (x v : Value) (_ : World) : Prop := v = x
theorem VSl.stab {x : Value} {R : World → World → Prop} (v : Value) (W W' : World) (h : VSl x v W) (_ : R W W') : VSl x v W' := by unfold VSl at *; exact h
def dropL (m : List Sol) (i : Nat) : List Sol := m.take i ++ m.drop (i + 1)
theorem dropL_len {m : List Sol} {i : Nat} (h : i < m.length) : (dropL m i).length = m.length - 1 := by
 unfold dropL
 rw [List.length_append, List.length_take, List.length_drop]
 omega
structure OwnQ (W : World) (base : Nat) (m : List Sol) (g cap : Nat) (cur : Array Value) : Prop where
 base : base ≤ g
 blk : Blk W g cur 64
 le : m.length ≤ cap
 lim : cap ≤ maxLen
 size : cur.size = cap * 8
 rows : cur.toList.take (m.length * 8) = (m.map solL).flatten
theorem OwnS.opn {W : World} {base : Nat} {v : Value} {m : List Sol} (h : OwnS W base v m) (h0 : m ≠ []) : ∃ g cap cur, v = .slice (some ⟨g, 0, none⟩) m.length cap ∧ OwnQ W base m g cap cur := by
 obtain ⟨_, h | ⟨g, cap, cur, hv, hg, hh, hr⟩⟩ := h
 ·exact absurd (List.eq_nil_of_length_eq_zero h.2) h0
 ·exact ⟨g, cap, cur, hv, hg, hh, hr.1, hr.2.1, hr.2.2.1, hr.2.2.2⟩
theorem solL_len (a : Sol) : (solL a).length = 8 := rfl
section
variable {W : World} {base g cap : Nat} {m : List Sol} {cur : Array Value}
theorem OwnQ.own (h : OwnQ W base m g cap cur) : OwnS W base (.slice (some ⟨g, 0, none⟩) m.length cap) m :=
 ⟨flat_len10 solL solL_len m, .inr ⟨g, cap, cur, rfl, h.base, h.blk, h.le, h.lim, h.size, h.rows⟩⟩
end
theorem own_len {W : World} {base k cap : Nat} {q : Option Addr} {m : List Sol} (h : OwnS W base (.slice q m.length cap) m) (hk : m.length = k) : OwnS W base (.slice q k cap) m := by
 subst hk; exact h
theorem solFlat_len (l : List Sol) : ((l.map solL).flatten).length = l.length * 8 := flat_len10 solL solL_len l
def delC (cur : Array Value) (m : List Sol) (i : Nat) : Array Value := spl cur (i * 8) (((m.drop (i + 1)).map solL).flatten)
theorem OwnQ.del {W : World} {base g cap : Nat} {m : List Sol} {cur : Array Value} (h : OwnQ W base m g cap cur) {i : Nat} (hi : i < m.length) : OwnQ (W.setRow g (delC cur m i)) base (dropL m i) g cap (delC cur m i) := by
 have hle := h.le
 have hl : (((m.drop (i + 1)).map solL).flatten).length = (m.length - (i + 1)) * 8 := by rw [solFlat_len, List.length_drop]
 have hf : i * 8 + (((m.drop (i + 1)).map solL).flatten).length ≤ cur.size := by rw [hl, h.size]; omega
 have hdl := dropL_len hi
 refine ⟨h.base, h.blk.rowS _, by rw [hdl]; omega, h.lim, by unfold delC; rw [spl_size hf]; exact h.size, ?_⟩
 have hlo := spl_lo hf
 unfold delC
 rw [show (dropL m i).length * 8 = i * 8 + (((m.drop (i + 1)).map solL).flatten).length by rw [hdl, hl]; omega, hlo]
 unfold dropL
 rw [List.map_append, List.flatten_append]
 congr 1
 have h3 : (m.map solL).flatten = ((m.take i).map solL).flatten ++ ((m.drop i).map solL).flatten := by rw [← List.flatten_append, ← List.map_append, List.take_append_drop]
 have h4 : (((m.take i).map solL).flatten).length = i * 8 := by rw [solFlat_len, List.length_take]; omega
 have h5 : ((m.take i).map solL).flatten = ((m.map solL).flatten).take (i * 8) := by rw [h3, ← h4, List.take_left]
 rw [h5, ← h.rows, List.take_take, Nat.min_eq_left (by omega)]
theorem OwnQ.grw {W W' : World} {base g cap : Nat} {m : List Sol} {cur : Array Value} (h : OwnQ W base m g cap cur) (hb : Below W.heap.size W W') : OwnQ W' base m g cap cur := ⟨h.base, h.blk.grow hb, h.le, h.lim, h.size, h.rows⟩
theorem del_append {W : World} {base g cap n i : Nat} {m : List Sol} {cur : Array Value} (h : OwnQ W base m g cap cur) (hn : m.length = n) (hi : i < n) :
  (Builtin.append_ #[22, 22] 22 #[.slice (some ⟨g, 0, none⟩) i cap, sliced (some ⟨g, 0, none⟩) (i + 1) n cap 8]).run Tryz.prog W = .ok (.slice (some ⟨g, 0, none⟩) (i + (n - (i + 1))) cap) (W.setRow g (delC cur m i)) := by
 obtain ⟨i0, hi0, hz0, hz1, hz2⟩ := info_parts infoSolid
 have hle := h.le
 have hl : (((m.drop (i + 1)).map solL).flatten).length = (n - (i + 1)) * 8 := by rw [solFlat_len, List.length_drop, hn]
 have hfit : i * i0.size + (((m.drop (i + 1)).map solL).flatten).length ≤ cur.size := by rw [hl, h.size, hz1]; omega
 have key : ∃ a c', sliced (some ⟨g, 0, none⟩) (i + 1) n cap 8 = .slice (some a) (n - (i + 1)) c' ∧ ∀ j u, (((m.drop (i + 1)).map solL).flatten)[j]? = some u → W.cell? (a.add j) = some u := by
  unfold sliced
  by_cases hc : cap = i + 1
  ·have hz : n - (i + 1) = 0 := by omega
   have hd : m.drop (i + 1) = [] := List.drop_eq_nil_of_le (by omega)
   refine ⟨⟨g, 0, none⟩, cap - (i + 1), by simp [hc], fun j u hu => ?_⟩
   rw [hd] at hu; simp at hu
  ·refine ⟨⟨g, (i + 1) * 8, none⟩, cap - (i + 1), by simp [hc, Go.WideShapes.add_plain, show ¬ (cap - (i + 1) = 0) by omega], fun j u hu => ?_⟩
   rw [Go.WideShapes.add_plain, h.blk.cell]
   have h3 : (m.map solL).flatten = ((m.take (i + 1)).map solL).flatten ++ ((m.drop (i + 1)).map solL).flatten := by rw [← List.flatten_append, ← List.map_append, List.take_append_drop]
   have h4 : (((m.take (i + 1)).map solL).flatten).length = (i + 1) * 8 := by rw [solFlat_len, List.length_take]; omega
   have h5 : ((m.map solL).flatten)[(i + 1) * 8 + j]? = some u := by rw [h3, List.getElem?_append_right (by omega), h4, Nat.add_sub_cancel_left]; exact hu
   rw [← h.rows, List.getElem?_take] at h5
   split at h5
   ·simpa using h5
   ·cases h5
 obtain ⟨a, c', he, hcell⟩ := key
 rw [he]
 have hr := run_append_room (P := Tryz.prog) W 22 22 64 i0 Tryz.underlying22 hi0 g i cap cur h.blk a (n - (i + 1)) c' (((m.drop (i + 1)).map solL).flatten) (by rw [hl, hz1]) hcell one_sol (by omega) hfit
 rw [hr, hz1]
 rfl
theorem OwnQ.clear {W : World} {base g cap : Nat} {m : List Sol} {cur : Array Value} (h : OwnQ W base m g cap cur) {vs : List Value} (hf : m.length * 8 + vs.length ≤ cur.size) : OwnQ (W.setRow g (spl cur (m.length * 8) vs)) base m g cap (spl cur (m.length * 8) vs) :=
 ⟨h.base, h.blk.rowS _, h.le, h.lim, by rw [spl_size hf]; exact h.size, by rw [spl_take_lo (Nat.le_refl _) (by omega)]; exact h.rows⟩
def JD (base g cap : Nat) (m : List Sol) (i : Nat) (cur : Array Value) (a : Bool) (W : World) : Prop := (a = false → OwnQ W base m g cap cur) ∧ (a = true → OwnQ W base (dropL m i) g cap (delC cur m i))
set_option maxHeartbeats 16000000 in
theorem DeleteSol (base n cap g i : Nat) (m : List Sol) (cur : Array Value) (w : World) (OB : OwnQ w base m g cap cur) (hn : m.length = n) (hi : i < n) (h60 : n ≤ 1048576) :
  Calls Tryz.prog 108 #[.slice (some ⟨g, 0, none⟩) n cap, .int .i64 (i : Int), .int .i64 (i + 1 : Int)] w fun e w' => ∃ u, e = .returned u ∧ OwnS w' base u (dropL m i) ∧ Below base w w' := by
 have HOB := Lib.hid OB
 have HN := Lib.hid hn
 have hnc : n ≤ cap := by rw [← hn]; exact OB.le
 have hcM : cap ≤ 9223372036854775807 := by have := OB.lim; unfold maxLen at this; omega
 have hbg := OB.base
 clear OB hn
 have hik : (i : Int) + 1 ≤ (n : Int) := by omega
 have h0i : (0 : Int) ≤ (i : Int) + 1 := by omega
 have hne : ((i : Int) == (i : Int) + 1) = false := by simp; omega
 go_enter Tryz.func108, Tryz.ntmps108
 go_wp2_with fail
 refine wp_region_val (Below base) (fun L vs W => JD base g cap m i cur (L 6) W) [Is (.slice (some ⟨g, 0, none⟩) n cap), Is (.int .i64 (i : Int)), Is (.slice (some ⟨g, 0, none⟩) i cap), Is (.slice (some ⟨g, 0, none⟩) n cap), Is (.int .i64 (i + 1 : Int)), VSl (sliced (some ⟨g, 0, none⟩) (i + 1) n cap 8), Is (.slice (some ⟨g, 0, none⟩) (i + (n - (i + 1))) cap), Is (.slice (some ⟨g, 0, none⟩) (i + (n - (i + 1))) cap)] (by kernel_rfl) (by kernel_rfl) rfl (Below.refl base) (fun _ _ _ => Below.trans) (stable_mem ⟨fun _ _ _ h _ => h, fun _ _ _ h _ => h, fun _ _ _ h _ => h, fun _ _ _ h _ => h, fun _ _ _ h _ => h, VSl.stab, fun _ _ _ h _ => h, fun _ _ _ h _ => h, trivial⟩) w (Below.drew (Below.refl _ _)) (⟨(fun _ => HOB.out.grw (bel_drew (bel_refl _))), (fun e => by cases e)⟩) ?_
 iterate 2 (refine val_cons ?_ (fun _ => ?_); · intro L vs w1 hvs hat hb hI hF; (try simp [factsI, Region.binds, Is] at hF); go_simp; (first | exact Below.refl _ _ | exact ⟨Below.refl _ _, hI⟩))
 refine val_cons ?_ (fun v2 => ?_)
 ·intro L vs w1 hvs hat hb hI hF; try simp [factsI, Region.binds, Is] at hF
  have hic : i ≤ cap := by omega
  go_simp
  first | exact Below.refl _ _ | exact ⟨Below.refl _ _, hI⟩
 iterate 2 (refine val_cons ?_ (fun _ => ?_); · intro L vs w1 hvs hat hb hI hF; (try simp [factsI, Region.binds, Is] at hF); go_simp; (first | exact Below.refl _ _ | exact ⟨Below.refl _ _, hI⟩))
 refine val_cons ?_ (fun v5 => ?_)
 ·intro L vs w1 hvs hat hb hI hF; try simp [factsI, Region.binds, Is] at hF
  go_simp
  first | exact ⟨Below.refl _ _, hI, (by unfold VSl; rfl)⟩ | (refine ⟨Below.refl _ _, ?_⟩; unfold VSl; rfl)
 refine val_cons ?_ (fun v6 => ?_)
 ·intro L vs w1 hvs hat hb hI hF; try simp [factsI, Region.binds, Is] at hF
  have h6 := hat.self
  have hv5 : v5 = sliced (some ⟨g, 0, none⟩) (i + 1) n cap 8 := by have := hF.2; unfold VSl at this; exact this
  have OB := hI.1 h6
  have hr := del_append OB HN.out hi
  subst hv5
  refine step_append (v := .slice (some ⟨g, 0, none⟩) i cap) (v7 := sliced (some ⟨g, 0, none⟩) (i + 1) n cap 8) rfl rfl ?_ ?_ hr ?_
  ·have h2 := hF.1
   subst h2
   go_simp
  ·go_simp
  simp [upd]
  exact ⟨blw_row (Below.refl _ _) hbg _, (fun e => by cases e), fun _ => OB.del (by rw [HN.out]; exact hi)⟩
 refine val_cons ?_ (fun v7 => ?_)
 ·intro L vs w1 hvs hat hb hI hF; try simp [factsI, Region.binds, Is] at hF
  go_simp
  first | exact Below.refl _ _ | exact ⟨Below.refl _ _, hI⟩ | skip
 refine val_nil ?_
 intro vs w1 hvs hb hI hF
 simp [Is, Nat.forall_lt_succ_right] at hF
 have e0 := hF.1.1.1.1.1.1.1
 have e1 := hF.1.1.1.1.1.1.2
 have e2 := hF.1.1.1.1.1.2
 have e3 := hF.1.1.1.1.2
 have e4 := hF.1.1.1.2
 have e5 := hF.1.1.2
 have e6 := hF.1.2
 have e7 := hF.2
 clear hF
 simp only [Act.put, List.setIfInBounds_toArray, List.set_cons_succ, List.set_cons_zero, e0, e1, e2, e3, e4, e6, e7]
 clear e0 e1 e2 e3 e4 e6 e7
 have OB := Lib.hid (hI.2 rfl)
 clear hvs hI e5
 have hlen : (dropL m i).length = i + (n - (i + 1)) := by rw [dropL_len (by rw [HN.out]; exact hi), HN.out]; omega
 have hcs := OB.out.size
 have hzl : (Builtin.zeroCells (Value.agg #[.int .u64 0, .int .u64 0, .int .u64 0, .int .u64 0, .int .u64 0, .int .u64 0, .int .u64 0, .int .u64 0]).cells (n - (i + (n - (i + 1))))).toList.length = (n - (i + (n - (i + 1)))) * 8 := by rw [zeroCells_len]; rfl
 have hr := run_clear_rows (P := Tryz.prog) w1 22 64 0 (.agg #[.int .u64 0, .int .u64 0, .int .u64 0, .int .u64 0, .int .u64 0, .int .u64 0, .int .u64 0, .int .u64 0]) Tryz.underlying22 (fun _ => Tryz.zeroValue64 _) (by decide) g ((i + (n - (i + 1))) * 8) (n - (i + (n - (i + 1)))) (cap - (i + (n - (i + 1)))) (by omega) (delC cur m i) 64 OB.out.blk (by rw [hcs]; show _ + (n - (i + (n - (i + 1)))) * 8 ≤ _; omega)
 go_wp2_with fail
 refine bodyPost_ret (v := .slice (some ⟨g, 0, none⟩) (i + (n - (i + 1))) cap) (by simp [results, Tryz.results108, go_sem]) rfl ⟨_, rfl, ?_, hb.trans (blw_row (Below.refl _ _) hbg _)⟩
 have h2 := OB.out.clear (vs := (Builtin.zeroCells (Value.agg #[.int .u64 0, .int .u64 0, .int .u64 0, .int .u64 0, .int .u64 0, .int .u64 0, .int .u64 0, .int .u64 0]).cells (n - (i + (n - (i + 1))))).toList) (by rw [hzl, hlen, hcs]; omega)
 rw [hlen] at h2
 exact own_len h2.own hlen
end Go.Proofs.YtlbhjikkpbknnaaGreatDoor
end
section
namespace Go.Proofs.YtlbhjikkpbknnaaGreatDoor
open Go.RowKit Go.Rel Go.Draw
set_option maxRecDepth 100000
/-! Without -/
set_option maxHeartbeats 8000000 in
theorem Without_spec {w : World} {v : Value} {l : List Sol} {p : Int} (H : SlS w v l) : Calls Tryz.prog 53 #[v, .int .i64 p] w fun e w' => Below w.heap.size w w' ∧ ∃ u, e = .returned (.tuple #[u, .int .i64 (askE l [] [p])]) ∧ (askE l [] [p] = 0 → SlS w' u (l.eraseIdx p.toNat)) ∧ (askE l [] [p] ≠ 0 → u = .slice none 0 0) := by
 have HA := Lib.hid (asked_spec (gone := []) (of := [p]) (H.mono (bel_alloc (bel_refl w) (.cells #[.int .i64 p] 3))) sl_nil (sl_news (Blk.new w #[.int .i64 p] 3)))
 have HH := Lib.hid H
 clear H
 go_enter Tryz.func53, Tryz.ntmps53
 go_wp2_with fail
 refine HA.out.mono ?_
 rintro e w1 ⟨hb1, a, G, rfl, hx, hn⟩
 have hb : Below w.heap.size w w1 := bel_trans (bel_alloc (bel_refl w) (.cells #[.int .i64 p] 3)) hb1
 by_cases h0 : askE l [] [p] = 0
 ·obtain ⟨hl, hE, hs, ha, g, mb, rfl, -, -, -⟩ := hx h0
  obtain ⟨q, rfl, hq⟩ := askE_p ha
  have HC := Lib.hid (CloneSol_spec v l w1 (HH.out.mono hb) (by omega))
  have HB := Lib.hid (And.intro hb h0)
  rw [h0]
  clear hb hb1 hx hn h0 hE hs ha
  go_wp2_with fail
  refine HC.out.mono ?_
  rintro e w2 ⟨u, rfl, hO, hb2⟩
  obtain ⟨g2, cap, cur, rfl, hQ⟩ := hO.opn (fun h => by rw [h] at hq; cases hq)
  have HD := Lib.hid (DeleteSol w1.heap.size l.length cap g2 q l cur w2 hQ rfl hq (by omega))
  have H2 := Lib.hid (bel_trans HB.out.1 hb2)
  have hsz := hb2.size
  clear hO hb2 hQ
  go_wp2_with fail
  refine HD.out.mono ?_
  rintro e w3 ⟨u3, rfl, hO3, hb3⟩
  have h3 := Lib.hid (And.intro (OwnS.sl hO3) (H2.out.trans (hb3.mono HB.out.1.size)))
  clear hO3 hb3
  go_wp2_with fail
  go_ret2
  refine ⟨h3.out.2, _, by rw [HB.out.2]; rfl, (fun _ => ?_), fun h => absurd HB.out.2 h⟩
  have := h3.out.1
  rw [Int.toNat_natCast, List.eraseIdx_eq_take_drop_succ]
  exact this
 ·have e0 : (askE l [] [p] != 0) = true := by simpa using h0
  have HB := Lib.hid (And.intro hb h0)
  clear hb hb1 hx hn h0
  go_wp2_with fail
  go_ret2
  exact ⟨HB.out.1, _, by rfl, (fun h => absurd h HB.out.2), fun _ => rfl⟩
end Go.Proofs.YtlbhjikkpbknnaaGreatDoor
end
section
namespace Go.Draw
set_option maxRecDepth 10000
/-! the reference's Undercut: below, word by word -/
theorem ups_any (n : Nat) (hn : n < 512) : ∀ (m : Nat) (b : Sol), ((upsL m b).any fun y => y.1.getLsbD n) = true ↔ ∃ k, 1 ≤ k ∧ k ≤ m ∧ 64 * k ≤ n ∧ b.getLsbD (n - 64 * k) = true
 | 0, b => by
  simp only [upsL, List.any_nil]
  constructor
  ·intro h; cases h
  ·rintro ⟨k, h1, h2, _⟩; omega
 | m + 1, b => by
  unfold upsL
  split
  ·rename_i h
   simp only [List.any_nil]
   constructor
   ·intro h; cases h
   ·rintro ⟨k, h1, h2, h3, h4⟩
    have h5 := up_bit b (n - 64 * k + 64) (by omega)
    rw [h, show n - 64 * k + 64 - 64 = n - 64 * k by omega, h4] at h5
    simp at h5
  ·rw [List.any_cons, Bool.or_eq_true, ups_any n hn m (upS b)]
   constructor
   ·rintro (h | ⟨k, h1, h2, h3, h4⟩)
    ·rw [up_bit _ _ hn, Bool.and_eq_true, decide_eq_true_eq] at h
     exact ⟨1, by omega, by omega, by omega, h.2⟩
    ·rw [up_bit _ _ (by omega), Bool.and_eq_true, decide_eq_true_eq] at h4
     exact ⟨k + 1, by omega, by omega, by omega, by rw [show n - 64 * (k + 1) = n - 64 * k - 64 by omega]; exact h4.2⟩
   ·rintro ⟨k, h1, h2, h3, h4⟩
    by_cases e : k = 1
    ·subst e
     exact .inl (by rw [up_bit _ _ hn, Bool.and_eq_true, decide_eq_true_eq]; exact ⟨by omega, h4⟩)
    ·refine .inr ⟨k - 1, by omega, by omega, by omega, ?_⟩
     rw [up_bit _ _ (by omega), Bool.and_eq_true, decide_eq_true_eq]
     exact ⟨by omega, by rw [show n - 64 * (k - 1) - 64 = n - 64 * k by omega]; exact h4⟩
theorem underc_fold (s : Sol) (n : Nat) : ∀ (l : List (Sol × Bool)) (a : Sol), (l.foldl (fun out y => out ||| (y.1 &&& ~~~s)) a).getLsbD n = (a.getLsbD n || (decide (n < 512) && !s.getLsbD n && l.any fun y => y.1.getLsbD n))
 | [], a => by simp
 | y :: l, a => by
  rw [List.foldl_cons, underc_fold s n l, List.any_cons, BitVec.getLsbD_or, BitVec.getLsbD_and, BitVec.getLsbD_not]
  cases a.getLsbD n <;> cases y.1.getLsbD n <;> cases s.getLsbD n <;> cases decide (n < 512) <;> simp
/-- what lies below the plane z -/
def belowR (s : Sol) : Nat → U
 | 0 => 0
 | k + 1 => belowR s k ||| plv s k
theorem plv_at (s : Sol) (z i : Nat) (hi : i < 64) : (plv s z).getLsbD i = s.getLsbD (64 * z + i) := by
 unfold plv; rw [BitVec.getLsbD_extractLsb']; simp [hi]
theorem belowR_bit (s : Sol) (i : Nat) (hi : i < 64) : ∀ z, (belowR s z).getLsbD i = true ↔ ∃ k, k < z ∧ s.getLsbD (64 * k + i) = true
 | 0 => by simp [belowR]
 | z + 1 => by
  unfold belowR
  rw [BitVec.getLsbD_or, Bool.or_eq_true, belowR_bit s i hi z, plv_at _ _ _ hi]
  constructor
  ·rintro (⟨k, h1, h2⟩ | h)
   ·exact ⟨k, by omega, h2⟩
   ·exact ⟨z, by omega, h⟩
  ·rintro ⟨k, h1, h2⟩
   by_cases e : k = z
   ·subst e; exact .inr h2
   ·exact .inl ⟨k, by omega, h2⟩
/-- Undercut, as the reference has it -/
theorem under_words (s : Sol) {z : Nat} (hz : z < 8) : plv (undercutM s) z = belowR s z &&& ~~~(plv s z) := by
 apply BitVec.eq_of_getLsbD_eq
 intro i hi
 rw [plv_at _ _ _ hi, BitVec.getLsbD_and, BitVec.getLsbD_not, plv_at _ _ _ hi]
 unfold undercutM
 rw [underc_fold]
 simp only [BitVec.ofNat_eq_ofNat, BitVec.getLsbD_zero, Bool.false_or, show 64 * z + i < 512 by omega, hi, decide_true, Bool.true_and]
 rw [Bool.eq_iff_iff, Bool.and_eq_true, Bool.and_eq_true, ups_any _ (by omega), belowR_bit s i hi]
 constructor
 ·rintro ⟨h1, k, h2, h3, h4, h5⟩
  exact ⟨⟨z - k, by omega, by rw [show 64 * (z - k) + i = 64 * z + i - 64 * k by omega]; exact h5⟩, h1⟩
 ·rintro ⟨⟨k, h1, h2⟩, h3⟩
  exact ⟨h3, z - k, by omega, by omega, by omega, by rw [show 64 * z + i - 64 * (z - k) = 64 * k + i by omega]; exact h2⟩
end Go.Draw
end
section
namespace Go.Proofs.YtlbhjikkpbknnaaGreatDoor
open Go.RowKit Go.Rel Go.Draw
set_option maxRecDepth 100000
/-! the reference's cells: has, shift, IsMove -/
theorem wrapXY {x y : Nat} (hx : x ≤ 7) (hy : y ≤ 7) : IntKind.i64.wrap (IntKind.i64.wrap (8 * (y : Int)) + (x : Int)) = ((8 * y + x : Nat) : Int) := by
 have e1 : IntKind.i64.wrap (8 * (y : Int)) = 8 * (y : Int) := (Go.IntWalk.i64_left _).trans (Go.IntWalk.wrap64_in _ (by omega))
 have e2 : IntKind.i64.wrap (8 * (y : Int) + (x : Int)) = 8 * (y : Int) + (x : Int) := (Go.IntWalk.i64_left _).trans (Go.IntWalk.wrap64_in _ (by omega))
 rw [e1, e2]; omega
theorem has_at (s : Sol) {x y z : Nat} (hx : x ≤ 7) (hy : y ≤ 7) (hz : z ≤ 7) : has s x y z = s.getLsbD (64 * z + (8 * y + x)) := by
 unfold has
 rw [decide_eq_true (by omega), Bool.true_and]
 congr 1; omega
theorem has_off (s : Sol) {x y z : Int} (h : ¬ (0 ≤ x ∧ x ≤ 7 ∧ 0 ≤ y ∧ y ≤ 7 ∧ 0 ≤ z ∧ z ≤ 7)) : has s x y z = false := has_out s x y z h
set_option maxHeartbeats 8000000 in
theorem has_spec {w : World} {s : Sol} (x y z : Int) : Calls Tryz.prog 126 #[solV s, .int .i64 x, .int .i64 y, .int .i64 z] w fun e w' => e = .returned (.bool (has s x y z)) ∧ Below w.heap.size w w' := by
 by_cases h : 0 ≤ x ∧ x ≤ 7 ∧ 0 ≤ y ∧ y ≤ 7 ∧ 0 ≤ z ∧ z ≤ 7
 ·obtain ⟨h1, h2, h3, h4, h5, h6⟩ := h
  obtain ⟨x, rfl⟩ : ∃ n : Nat, x = n := ⟨x.toNat, by omega⟩
  obtain ⟨y, rfl⟩ : ∃ n : Nat, y = n := ⟨y.toNat, by omega⟩
  obtain ⟨z, rfl⟩ : ∃ n : Nat, z = n := ⟨z.toNat, by omega⟩
  have hx : x ≤ 7 := by omega
  have hy : y ≤ 7 := by omega
  have hz : z ≤ 7 := by omega
  have d1 : decide ((x : Int) < 0) = false := decide_eq_false (by omega)
  have d2 : decide ((7 : Int) < (x : Int)) = false := decide_eq_false (by omega)
  have d3 : decide ((y : Int) < 0) = false := decide_eq_false (by omega)
  have d4 : decide ((7 : Int) < (y : Int)) = false := decide_eq_false (by omega)
  have d5 : decide ((z : Int) < 0) = false := decide_eq_false (by omega)
  have d6 : decide ((7 : Int) < (z : Int)) = false := decide_eq_false (by omega)
  have hz8 : (z : Int) < 8 := by omega
  have hw := wrapXY hx hy
  have hT := bitAt1_u (plv s z) (8 * y + x)
  rw [plv_bit _ _ _ (by omega)] at hT
  have HT := Lib.hid hT
  have b1 : Blk (w.alloc (.cells #[.int .u64 (pl s 0), .int .u64 (pl s 1), .int .u64 (pl s 2), .int .u64 (pl s 3), .int .u64 (pl s 4), .int .u64 (pl s 5), .int .u64 (pl s 6), .int .u64 (pl s 7)] 64)) w.heap.size #[.int .u64 (pl s 0), .int .u64 (pl s 1), .int .u64 (pl s 2), .int .u64 (pl s 3), .int .u64 (pl s 4), .int .u64 (pl s 5), .int .u64 (pl s 6), .int .u64 (pl s 7)] 64 := Blk.new _ _ _
  have c1 := (b1.cell z).trans (arr8 s (by omega : z < 8))
  have em : min (8 * y + x) 64 = 8 * y + x := Nat.min_eq_left (by omega)
  have HR := Lib.hid (has_at s hx hy hz)
  clear hT b1 h1 h2 h3 h4 h5 h6 
  go_enter Tryz.func126, Tryz.ntmps126
  go_wp2_with fail
  go_ret
  exact ⟨ret_bool (by rw [HR.out, HT.out]), (by repeat (first | with_reducible exact bel_refl _ | with_reducible assumption | with_reducible refine bel_drewN ?_ _ | with_reducible refine bel_drew ?_ | with_reducible refine bel_alloc ?_ _ | with_reducible refine bel_row ?_ ?_ _ | with_reducible refine bel_set ?_ ?_ _ | refine bel_trans ?_ (by with_reducible assumption) | (simp; done) | (simp; omega)))⟩
 ·have HR := Lib.hid (has_off s h)
  go_enter Tryz.func126, Tryz.ntmps126
  go_wp2_with fail
  all_goals first
   | (exfalso; exact h (by omega))
   | (go_ret; exact ⟨ret_bool HR.out.symm, (by repeat (first | with_reducible exact bel_refl _ | with_reducible assumption | with_reducible refine bel_drewN ?_ _ | with_reducible refine bel_drew ?_ | with_reducible refine bel_alloc ?_ _ | with_reducible refine bel_row ?_ ?_ _ | with_reducible refine bel_set ?_ ?_ _ | refine bel_trans ?_ (by with_reducible assumption) | (simp; done) | (simp; omega)))⟩)
set_option maxHeartbeats 8000000 in
theorem IsMove_spec {w : World} (n : Nat) (a b c : Int) : Calls Tryz.prog 71 #[.int .i64 n, .agg #[.int .i64 a, .int .i64 b, .int .i64 c]] w fun e w' => e = .returned (.bool (decide (0 ≤ a) && decide (a < n) && isMoveI b c)) ∧ Below w.heap.size w w' := by
 go_enter Tryz.func71, Tryz.ntmps71
 go_wp2_with fail
 all_goals (go_ret; refine ⟨ret_bool ?_, (by repeat (first | with_reducible exact bel_refl _ | with_reducible assumption | with_reducible refine bel_drewN ?_ _ | with_reducible refine bel_drew ?_ | with_reducible refine bel_alloc ?_ _ | with_reducible refine bel_row ?_ ?_ _ | with_reducible refine bel_set ?_ ?_ _ | refine bel_trans ?_ (by with_reducible assumption) | (simp; done) | (simp; omega)))⟩; unfold isMoveI; rw [Bool.eq_iff_iff]; simp; first | omega | (simp only [beq_iff_eq, beq_eq_false_iff_ne] at *; first | omega | (intros; omega)))
end Go.Proofs.YtlbhjikkpbknnaaGreatDoor
end
section
namespace Go.Proofs.YtlbhjikkpbknnaaGreatDoor
open Go.RowKit Go.Rel Go.Draw
set_option maxRecDepth 100000
/-! the reference's lists: others, all, left -/
def othersI (n : Nat) (p : Int) : List Nat := (List.range n).filter fun i => decide ((i : Int) ≠ p)
theorem othersI_succ (n : Nat) (p : Int) : othersI (n + 1) p = othersI n p ++ (if (n : Int) = p then [] else [n]) := by
 unfold othersI
 rw [List.range_succ, List.filter_append]
 congr 1
 by_cases h : (n : Int) = p <;> simp [h]
theorem othersI_len (n : Nat) (p : Int) : (othersI n p).length ≤ n := by
 unfold othersI
 have := List.length_filter_le (fun i : Nat => decide ((i : Int) ≠ p)) (List.range n)
 simpa using this
theorem othersI_nat (n p : Nat) : othersI n p = othersL n p := by
 unfold othersI othersL
 congr 1; funext i
 by_cases h : i = p
 ·subst h; simp
 ·have : ¬ ((i : Int) = (p : Int)) := by omega
  simp [h, this]
theorem othersI_all (n : Nat) : othersI n (-1) = List.range n := by
 unfold othersI
 rw [List.filter_eq_self]
 intro i _; simp
set_option maxHeartbeats 4000000 in
theorem others_spec {w : World} (a : Option Addr) (n c : Nat) (p : Int) (hn : n ≤ 1000) : Calls Tryz.prog 85 #[.slice a n c, .int .i64 p] w fun e w' => Below w.heap.size w w' ∧ ∃ o, e = .returned o ∧ OwnI w' w.heap.size o (intsL (othersI n p)) := by
 obtain ⟨i0, hi, hz0, hz1, hz2⟩ := info_parts infoInt
 have HI0 := Lib.hid (And.intro hi (And.intro hz0 (And.intro hz1 hz2))); clear hi hz0 hz1 hz2
 go_enter Tryz.func85, Tryz.ntmps85
 go_wp2_with fail
 go_loopw [5, 6] (fun ov iv wx => ∃ (k : Nat), k ≤ n ∧ iv = .int .i64 k ∧ Hid (OwnI wx w.heap.size ov (intsL (othersI k p)) ∧ Below w.heap.size w wx)) (fun _ iv _ => n - (intOf iv).toNat)
 case atStart => exact ⟨0, by omega, rfl, Lib.hid ⟨World.ownsRow_nil _ _ _ _, Below.refl _ _⟩⟩
 case round =>
  obtain ⟨k, hk, rfl, HI⟩ := hrel
  by_cases hlt : k < n
  ·have hx := HI.out.1
   have hbs : w.heap.size ≤ wr.heap.size := HI.out.2.size
   obtain ⟨p6, n6, c6, hu6⟩ := own_shapeN hx
   subst hu6
   unfold OwnI at hx
   rw [intsL_length] at hx
   have hlen := othersI_len k p
   have HX := Lib.hid hx; clear hx
   by_cases hp : (k : Int) = p
   ·subst hp
    have HP := Lib.hid (rfl : (k : Int) = (k : Int))
    go_wp2_with fail
    refine ⟨⟨k + 1, by omega, by simp, Lib.hid ⟨?_, HI.out.2⟩⟩, by simp [intOf]; omega⟩
    rw [othersI_succ, if_pos HP.out, List.append_nil]
    exact HI.out.1
   ·have HP := Lib.hid hp
    go_wp2_with (first
     | (at_builtin; refine wpList_append_own _ rfl _ _ 23 rfl w.heap.size 3 i0 (.int .i64 0) 1 8 Tryz.underlying23 HI0.out.1 HI0.out.2.1 HI0.out.2.2.1 HI0.out.2.2.2 rfl (by decide) _ _ _ rfl (HX.out.alloc _) ⟨wr.heap.size, 0, none⟩ 1 1 [.int .i64 (k : Int)] rfl rfl (cell_one_new _ _ _) (fun x hx => by simp at hx; subst hx; rfl) (by unfold maxLen; omega) (by omega) (by simp; omega) ?_; intro v' w7 hown' hgrow7 hnil7))
    have hb7 : Below w.heap.size wr w7 := ((bel_alloc (bel_refl wr) (.cells #[.int .i64 (k : Int)] 3)).mono hbs).grown hgrow7 (by simp; omega) (fun j hj => ((HX.out.alloc (.cells #[.int .i64 (k : Int)] 3)).lt j hj).1)
    refine ⟨⟨k + 1, by omega, by simp, Lib.hid ⟨?_, HI.out.2.trans hb7⟩⟩, by simp [intOf]; omega⟩
    rw [othersI_succ, if_neg HP.out]
    unfold OwnI
    rw [intsL_length, List.length_append]
    unfold intsL at *
    rw [List.map_append, List.map_append]
    exact hown'
  ·obtain rfl : k = n := by omega
   go_wp2_with fail
   go_ret
   exact ⟨HI.out.2, _, rfl, HI.out.1⟩
theorem all_ref {w : World} (a : Option Addr) (n c : Nat) (hn : n ≤ 1000) : Calls Tryz.prog 83 #[.slice a n c] w fun e w' => Below w.heap.size w w' ∧ ∃ o, e = .returned o ∧ OwnI w' w.heap.size o (intsL (List.range n)) := by
 have HO := Lib.hid (others_spec (w := w) a n c (-1) hn)
 go_enter Tryz.func83, Tryz.ntmps83
 go_wp2_with fail
 refine HO.out.mono ?_
 rintro e w2 ⟨hb, o, rfl, ho⟩
 rw [othersI_all] at ho
 have HB := Lib.hid (And.intro hb ho); clear hb ho
 go_wp2_with fail
 go_ret
 exact ⟨HB.out.1, _, rfl, HB.out.2⟩
def leftI (n : Nat) (l : List Int) : List Nat := (List.range n).filter fun i => !l.contains (i : Int)
theorem leftI_succ (n : Nat) (l : List Int) : leftI (n + 1) l = leftI n l ++ (if l.contains (n : Int) then [] else [n]) := by
 unfold leftI
 rw [List.range_succ, List.filter_append]
 congr 1
 cases h : l.contains (n : Int) <;> simp only [List.filter_cons, List.filter_nil, h] <;> rfl
theorem leftI_len (n : Nat) (l : List Int) : (leftI n l).length ≤ n := by
 unfold leftI
 have := List.length_filter_le (fun i : Nat => !l.contains (i : Int)) (List.range n)
 simpa using this
set_option maxHeartbeats 4000000 in
theorem left_spec {w : World} (a : Option Addr) (n c : Nat) {v : Value} {l : List Int} (HL : SlI w v l) (hn : n ≤ 1000) : Calls Tryz.prog 98 #[.slice a n c, v] w fun e w' => Below w.heap.size w w' ∧ ∃ o, e = .returned o ∧ OwnI w' w.heap.size o (intsL (leftI n l)) := by
 obtain ⟨i0, hi, hz0, hz1, hz2⟩ := info_parts infoInt
 have HI0 := Lib.hid (And.intro hi (And.intro hz0 (And.intro hz1 hz2))); clear hi hz0 hz1 hz2
 have HH := Lib.hid HL
 clear HL
 go_enter Tryz.func98, Tryz.ntmps98
 go_wp2_with fail
 go_loopw [5, 6] (fun ov iv wx => ∃ (k : Nat), k ≤ n ∧ iv = .int .i64 k ∧ Hid (OwnI wx w.heap.size ov (intsL (leftI k l)) ∧ Below w.heap.size w wx)) (fun _ iv _ => n - (intOf iv).toNat)
 case atStart => exact ⟨0, by omega, rfl, Lib.hid ⟨World.ownsRow_nil _ _ _ _, Below.refl _ _⟩⟩
 case round =>
  obtain ⟨k, hk, rfl, HI⟩ := hrel
  by_cases hlt : k < n
  ·have H1 := Lib.hid (In_spec (k : Int) (HH.out.mono HI.out.2))
   have hx := HI.out.1
   have hbs : w.heap.size ≤ wr.heap.size := HI.out.2.size
   obtain ⟨p6, n6, c6, hu6⟩ := own_shapeN hx
   subst hu6
   unfold OwnI at hx
   rw [intsL_length] at hx
   have hlen := leftI_len k l
   have HX := Lib.hid hx; clear hx
   go_wp2_with fail
   refine H1.out.mono ?_
   rintro e w2 ⟨rfl, hw2⟩
   have hw3 := hw2.symm
   subst hw3
   clear hw2
   cases ha : l.contains (k : Int)
   ·have HA := Lib.hid ha; clear ha
    go_wp2_with (first
     | (at_builtin; refine wpList_append_own _ rfl _ _ 23 rfl w.heap.size 3 i0 (.int .i64 0) 1 8 Tryz.underlying23 HI0.out.1 HI0.out.2.1 HI0.out.2.2.1 HI0.out.2.2.2 rfl (by decide) _ _ _ rfl (HX.out.alloc _) ⟨wr.heap.size, 0, none⟩ 1 1 [.int .i64 (k : Int)] rfl rfl (cell_one_new _ _ _) (fun x hx => by simp at hx; subst hx; rfl) (by unfold maxLen; omega) (by omega) (by simp; omega) ?_; intro v' w7 hown' hgrow7 hnil7))
    have hb7 : Below w.heap.size wr w7 := ((bel_alloc (bel_refl wr) (.cells #[.int .i64 (k : Int)] 3)).mono hbs).grown hgrow7 (by simp; omega) (fun j hj => ((HX.out.alloc (.cells #[.int .i64 (k : Int)] 3)).lt j hj).1)
    refine ⟨⟨k + 1, by omega, by simp, Lib.hid ⟨?_, HI.out.2.trans hb7⟩⟩, by simp [intOf]; omega⟩
    rw [leftI_succ, HA.out, if_neg (by simp)]
    unfold OwnI
    rw [intsL_length, List.length_append]
    unfold intsL at *
    rw [List.map_append, List.map_append]
    exact hown'
   ·have HA := Lib.hid ha; clear ha
    go_wp2_with fail
    refine ⟨⟨k + 1, by omega, by simp, Lib.hid ⟨?_, HI.out.2⟩⟩, by simp [intOf]; omega⟩
    rw [leftI_succ, HA.out, if_pos rfl, List.append_nil]
    exact HI.out.1
  ·obtain rfl : k = n := by omega
   go_wp2_with fail
   go_ret
   exact ⟨HI.out.2, _, rfl, HI.out.1⟩
end Go.Proofs.YtlbhjikkpbknnaaGreatDoor
end
