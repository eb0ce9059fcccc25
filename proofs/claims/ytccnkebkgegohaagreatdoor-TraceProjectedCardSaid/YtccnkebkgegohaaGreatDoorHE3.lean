import Derived.Test.YtccnkebkgegohaaGreatDoorHE5
/-
  Given contracts of functions of the program, and laws for them, one behind the other.
-/
set_option linter.unusedVariables false
set_option linter.unusedSimpArgs false
set_option linter.unusedSectionVars false
section
namespace Go.Proofs.YtccnkebkgegohaaGreatDoor
open Go
theorem zeroCells_len (z : Array Value) (n : Nat) : (Builtin.zeroCells z n).toList.length = n * z.size := by simp [Builtin.zeroCells]
theorem zeroCells_one {z : Array Value} (h : ∀ v ∈ z.toList, v.oneCell' = true) (n : Nat) : ∀ v ∈ (Builtin.zeroCells z n).toList, v.oneCell' = true := by
  intro v hv
  obtain ⟨i, hi, rfl⟩ := List.mem_iff_getElem.1 hv
  rw [zeroCells_len] at hi
  have h0 : 0 < z.size := by
    rcases Nat.eq_zero_or_pos z.size with h | h
    · rw [h] at hi; simp at hi
    · exact h
  have hm : i % z.size < z.size := Nat.mod_lt _ h0
  simp only [Builtin.zeroCells, Array.getElem_toList, Array.getElem_ofFn]
  refine h _ ?_
  simp [Array.getD, hm]
theorem run_clear_rows {P : Program} (w : World) (t e ty : TypeId) (z : Value) (ht : P.underlying t = some (.slice e)) (hv : ∀ w, (zeroValue e).run P w = .ok z w) (h1 : ∀ v ∈ z.cells.toList, v.oneCell' = true) (g o n c : Nat) (hn : 0 < n)
    (cur : Array Value) (tt : TypeId) (hg : w.heap[g]? = some (.cells cur tt (0, 0))) (hfit : o + n * z.cells.size ≤ cur.size) :
    (Builtin.clear_ #[t] ty #[.slice (some ⟨g, o, none⟩) n c]).run P w = .ok (.tuple #[]) (w.setRow g (spl cur o (Builtin.zeroCells z.cells n).toList)) := by
  have hst := run_storeCells_at (P := P) g o tt (Builtin.zeroCells z.cells n).toList 0 cur w hg (by rw [zeroCells_len]; simpa using hfit) (zeroCells_one h1 n)
  simp only [Nat.add_zero] at hst
  obtain ⟨m, rfl⟩ : ∃ m, n = m + 1 := ⟨n - 1, by omega⟩
  simp [Builtin.clear_, run_underlying ht, hv, hst, spl]
theorem spl_hi {cur : Array Value} {o k : Nat} {vs : List Value} (hf : o + vs.length ≤ cur.size) (h : o + vs.length ≤ k) : (spl cur o vs)[k]? = cur[k]? := by
  unfold spl
  rw [List.getElem?_toArray, List.getElem?_append_right (by rw [List.length_append, List.length_take, Array.length_toList]; omega), List.getElem?_drop, List.length_append, List.length_take, Array.length_toList, Array.getElem?_toList]
  congr 1
  have e : cur.toList.length = cur.size := Array.length_toList
  have e2 : ({ toList := vs } : Array Value).size = vs.length := rfl
  omega
theorem spl_lo {cur : Array Value} {o : Nat} {vs : List Value} (hf : o + vs.length ≤ cur.size) : (spl cur o vs).toList.take (o + vs.length) = cur.toList.take o ++ vs := by
  unfold spl
  have hl : (cur.toList.take o ++ vs).length = o + vs.length := by rw [List.length_append, List.length_take, Array.length_toList]; omega
  show (cur.toList.take o ++ vs ++ cur.toList.drop (o + vs.length)).take (o + vs.length) = _
  rw [← hl, List.take_left]
theorem spl_take_lo {cur : Array Value} {o k : Nat} {vs : List Value} (hk : k ≤ o) (ho : o ≤ cur.size) : (spl cur o vs).toList.take k = cur.toList.take k := by
  unfold spl
  show (cur.toList.take o ++ vs ++ cur.toList.drop (o + vs.length)).take k = _
  rw [List.append_assoc, List.take_append_of_le_length (by rw [List.length_take, Array.length_toList]; omega), List.take_take, Nat.min_eq_left hk]
end Go.Proofs.YtccnkebkgegohaaGreatDoor
end
section
namespace Go.Proofs.YtccnkebkgegohaaGreatDoor
open Go.RowKit Go.Rel
set_option maxRecDepth 100000
/-! a list of acts: the first one of a kind, and the list without those of a kind -/
set_option maxHeartbeats 2000000 in
theorem pair109 (x a b : Ac) (ga gb : Nat) (w : World) (Ga : Blk w ga #[.int .u8 a.1, .int .i64 a.2.1, .int .u64 (pl a.2.2 0), .int .u64 (pl a.2.2 1), .int .u64 (pl a.2.2 2), .int .u64 (pl a.2.2 3), .int .u64 (pl a.2.2 4), .int .u64 (pl a.2.2 5), .int .u64 (pl a.2.2 6), .int .u64 (pl a.2.2 7)] 46) (Gb : Blk w gb #[.int .u8 b.1, .int .i64 b.2.1, .int .u64 (pl b.2.2 0), .int .u64 (pl b.2.2 1), .int .u64 (pl b.2.2 2), .int .u64 (pl b.2.2 3), .int .u64 (pl b.2.2 4), .int .u64 (pl b.2.2 5), .int .u64 (pl b.2.2 6), .int .u64 (pl b.2.2 7)] 46) :
    Calls Tryz.prog 109 #[.agg #[.int .u8 x.1, .int .i64 x.2.1, .int .u64 (pl x.2.2 0), .int .u64 (pl x.2.2 1), .int .u64 (pl x.2.2 2), .int .u64 (pl x.2.2 3), .int .u64 (pl x.2.2 4), .int .u64 (pl x.2.2 5), .int .u64 (pl x.2.2 6), .int .u64 (pl x.2.2 7)], .pointer (some ⟨ga, 0, none⟩), .pointer (some ⟨gb, 0, none⟩)] w fun e w' => e = .returned (.bool (!(x == a) && !(x == b))) ∧ Below w.heap.size w w' := by
  have ca := Ga.cell
  have la := Ga.lt
  have cb := Gb.cell
  have lb := Gb.lt
  clear Ga Gb
  go_enter Tryz.func109, Tryz.ntmps109
  go_wp2_with fail
  · rename_i h
    subst h
    refine bodyPost_ret (v := .bool false) (by simp [results, Tryz.results109, go_sem]) rfl ⟨by simp, bel_by⟩
  · refine bodyPost_ret (v := .bool (!(x == a) && !(x == b))) (by simp [results, Tryz.results109, go_sem]) rfl ⟨rfl, bel_by⟩
set_option maxHeartbeats 2000000 in
theorem IndexFunc131 (v : Value) (l : List Ac) (c0 c1 : Value) (p : Ac → Bool) (w : World) (h : SlA w v l)
    (hf : ∀ w', Below w.heap.size w w' → ∀ x ∈ l, Calls Tryz.prog 109 #[.agg #[.int .u8 x.1, .int .i64 x.2.1, .int .u64 (pl x.2.2 0), .int .u64 (pl x.2.2 1), .int .u64 (pl x.2.2 2), .int .u64 (pl x.2.2 3), .int .u64 (pl x.2.2 4), .int .u64 (pl x.2.2 5), .int .u64 (pl x.2.2 6), .int .u64 (pl x.2.2 7)], c0, c1] w' fun e w'' => e = .returned (.bool (p x)) ∧ Below w'.heap.size w' w'') :
    Calls Tryz.prog 131 #[v, .func (.func 109) #[] #[c0, c1]] w fun e w' => e = .returned (.int .i64 (idx p l)) ∧ Below w.heap.size w w' := by
  rcases h.cases with ⟨hl, a, c, rfl, hm⟩ | ⟨b, off, c, rfl, hc, hm, hpos, hcs⟩
  · have hl' : l = [] := by simpa using hl
    subst hl'
    clear hl
    go_enter Tryz.func131, Tryz.ntmps131
    go_wp2
    refine wp_loop_rounds 1 ?_
    rw [rounds_succ]
    go_wp2
    go_ret
    exact ⟨rfl, Below.refl _ _⟩
  · rw [List.length_map] at hc hpos ⊢
    have H := Lib.hid hcs; clear hcs h
    have HF := Lib.hid hf; clear hf
    generalize hn : l.length = n at hc hpos ⊢
    have HN := Lib.hid hn; clear hn
    go_enter Tryz.func131, Tryz.ntmps131
    go_wp2_with fail
    go_loopw [8] (fun i wr => ∃ k : Nat, k ≤ n ∧ i = .int .i64 k ∧ Hid (∀ (j : Nat) (y : Ac), j < k → l[j]? = some y → p y = false) ∧ Below w.heap.size w wr) (fun i _ => n - (intOf i).toNat)
    case atStart => exact ⟨0, Nat.zero_le _, rfl, fun j y hj => by omega, Below.refl _ _⟩
    case round =>
      obtain ⟨k, hk, rfl, HP, hbel⟩ := hrel
      by_cases hlt : k < n
      · have hx : l[k]? = some (l[k]'(by rw [HN.out]; exact hlt)) := by simp
        have hmem := List.mem_of_getElem? hx
        generalize l[k]'(by rw [HN.out]; exact hlt) = x at hx hmem
        obtain ⟨a0, a1, a2, a3, a4, a5, a6, a7, a8, a9⟩ := ac_cells (H.out.mono hbel H.out.1) hx
        have HX := Lib.hid hx; clear hx
        have HM := Lib.hid hmem; clear hmem
        have hsz := hbel.size
        go_wp2_with fail
        clear a0 a1 a2 a3 a4 a5 a6 a7 a8 a9
        refine (HF.out _ hbel x HM.out).mono ?_
        rintro e w2 ⟨rfl, hb2⟩
        have hB : Below w.heap.size w w2 := bel_trans hbel hb2
        clear hb2
        cases hp : p x with
        | true =>
          go_wp2_with fail
          go_ret
          exact ⟨ret_int (idx_found HX.out hp HP.out).symm, hB⟩
        | false =>
          go_wp2_with fail
          go_roundw
          case rel => exact ⟨k + 1, by omega, by go_num, fun j y hj hy => (by
            rcases Nat.lt_or_eq_of_le (Nat.le_of_lt_succ hj) with h | h
            · exact HP.out j y h hy
            · subst h; rw [HX.out] at hy; cases hy; exact hp), hB⟩
          case measure => simp [intOf]; omega
      · go_wp2_with fail
        go_ret
        exact ⟨ret_int (idx_none (fun j y hy => HP.out j y (by have := (List.getElem?_eq_some_iff.1 hy).1; rw [HN.out] at this; omega) hy)).symm, hbel⟩
/-- what a round of DeleteFunc knows: i are kept of the first j -/
structure InvDA (base g cap n : Nat) (l : List Ac) (p : Ac → Bool) (i j : Nat) (w W : World) : Prop where
  mk ::
  blk : ∃ cur : Array Value, Blk W g cur 46 ∧ cur.size = cap * 10 ∧ cur.toList.take (i * 10) = (((l.take j).filter fun x => !p x).map acL).flatten ∧ ∀ (t : Nat) (x : Ac) (u : Nat), j ≤ t → l[t]? = some x → u < 10 → cur[t * 10 + u]? = (acL x)[u]?
  len : ((l.take j).filter fun x => !p x).length = i
  bel : Below base w W
section
variable {base g cap n : Nat} {l : List Ac} {p : Ac → Bool} {i j : Nat} {w W W' : World}
theorem InvDA.grow (H : InvDA base g cap n l p i j w W) (hb : Below W.heap.size W W') (hbase : base ≤ W.heap.size) : InvDA base g cap n l p i j w W' :=
  ⟨let ⟨cur, h1, h2, h3, h4⟩ := H.blk; ⟨cur, h1.grow hb, h2, h3, h4⟩, H.len, H.bel.trans (hb.mono hbase)⟩
theorem InvDA.gone (H : InvDA base g cap n l p i j w W) {x : Ac} (hx : l[j]? = some x) (hp : p x = true) : InvDA base g cap n l p i (j + 1) w W := by
  have e : (l.take (j + 1)).filter (fun x => !p x) = (l.take j).filter fun x => !p x := by
    rw [List.take_add_one, hx]; simp [hp]
  obtain ⟨cur, h1, h2, h3, h4⟩ := H.blk
  exact ⟨⟨cur, h1, h2, by rw [e]; exact h3, fun t y u ht => h4 t y u (by omega)⟩, by rw [e]; exact H.len, H.bel⟩
theorem InvDA.le (H : InvDA base g cap n l p i j w W) {x : Ac} (hx : l[j]? = some x) : i ≤ j := by
  have hj : j < l.length := (List.getElem?_eq_some_iff.1 hx).1
  rw [← H.len]; exact Nat.le_trans (List.length_filter_le _ _) (by rw [List.length_take]; omega)
theorem InvDA.kept (H : InvDA base g cap n l p i j w W) {x : Ac} (hx : l[j]? = some x) (hp : p x = false) (hg : base ≤ g) (hcap : l.length ≤ cap) {cur : Array Value} (h1 : Blk W g cur 46) (h2 : cur.size = cap * 10) (h3 : cur.toList.take (i * 10) = (((l.take j).filter fun x => !p x).map acL).flatten)
    (h4 : ∀ (t : Nat) (x : Ac) (u : Nat), j ≤ t → l[t]? = some x → u < 10 → cur[t * 10 + u]? = (acL x)[u]?) : InvDA base g cap n l p (i + 1) (j + 1) w (W.setRow g (spl cur (i * 10) (acL x))) := by
  have e : (l.take (j + 1)).filter (fun x => !p x) = ((l.take j).filter fun x => !p x) ++ [x] := by
    rw [List.take_add_one, hx]; simp [hp]
  have hj : j < l.length := (List.getElem?_eq_some_iff.1 hx).1
  have hij := H.le hx
  have hf : i * 10 + (acL x).length ≤ cur.size := by rw [h2, acL_len]; omega
  refine ⟨⟨spl cur (i * 10) (acL x), h1.rowS _, by rw [spl_size hf]; exact h2, ?_, fun t y u ht hy hu => ?_⟩, by rw [e]; simp [H.len], blw_row H.bel hg _⟩
  · have hlo := spl_lo hf
    rw [acL_len] at hlo
    rw [show (i + 1) * 10 = i * 10 + 10 by omega, hlo, e, List.map_append, List.flatten_append, ← h3]
    simp
  · rw [spl_hi hf (by rw [acL_len]; omega)]
    exact h4 t y u (by omega) hy hu
theorem row_cells {x : Ac} {cur : Array Value} (h1 : Blk W g cur 46) (h4 : ∀ u, u < 10 → cur[j * 10 + u]? = (acL x)[u]?) : Cells W g (j * 10) 10 ([x].map acL) := by
  refine ⟨h1.lt, fun a b u hu => ?_⟩
  obtain ⟨r, hr, hj⟩ := Option.bind_eq_some_iff.1 hu
  match a, hr with
  | 0, hr =>
    have hr' : acL x = r := by simpa using hr
    subst hr'
    have hb : b < 10 := (List.getElem?_eq_some_iff.1 hj).1
    rw [h1.cell, Nat.zero_mul, Nat.add_zero, h4 b hb]
    exact hj
  | a + 1, hr => simp at hr
end
end Go.Proofs.YtccnkebkgegohaaGreatDoor
end
section
namespace Go.Proofs.YtccnkebkgegohaaGreatDoor
open Go.RowKit Go.Rel
set_option maxRecDepth 100000
theorem zero46 : (Value.agg #[.int .u8 0, .int .i64 0, .int .u64 0, .int .u64 0, .int .u64 0, .int .u64 0, .int .u64 0, .int .u64 0, .int .u64 0, .int .u64 0]).cells.size = 10 := rfl
set_option maxHeartbeats 8000000 in
theorem DeleteFunc108 (v c0 c1 : Value) (l : List Ac) (p : Ac → Bool) (base : Nat) (W0 w : World) (h : OwnA W0 base v l) (hW : W0 = w) (hbase : base ≤ w.heap.size)
    (hf : ∀ w', Below base w w' → ∀ x ∈ l, Calls Tryz.prog 109 #[.agg #[.int .u8 x.1, .int .i64 x.2.1, .int .u64 (pl x.2.2 0), .int .u64 (pl x.2.2 1), .int .u64 (pl x.2.2 2), .int .u64 (pl x.2.2 3), .int .u64 (pl x.2.2 4), .int .u64 (pl x.2.2 5), .int .u64 (pl x.2.2 6), .int .u64 (pl x.2.2 7)], c0, c1] w' fun e w'' => e = .returned (.bool (p x)) ∧ Below w'.heap.size w' w'') :
    Calls Tryz.prog 108 #[v, .func (.func 109) #[] #[c0, c1]] w fun e w' => ∃ u, e = .returned u ∧ OwnA w' base u (l.filter fun x => !p x) ∧ Below base w w' := by
  subst hW
  have hidx := Lib.hid (IndexFunc131 v l c0 c1 p W0 (OwnA.sl h) (fun w' hw => hf w' (hw.mono hbase)))
  rcases idx_cases p l with ⟨hi, hno⟩ | ⟨k0, x0, hi, hx0, hp0, hbefore⟩
  · rw [hi] at hidx
    obtain ⟨vp, vc, rfl, _, _⟩ := own_shape' h
    have HO := Lib.hid (And.intro h hno); clear h hf hno
    go_enter Tryz.func108, Tryz.ntmps108
    go_wp2_with fail
    refine hidx.out.mono ?_
    rintro e w1 ⟨rfl, hb⟩
    go_wp2_with fail
    go_ret
    refine ⟨_, rfl, ?_, hb.mono hbase⟩
    rw [List.filter_eq_self.2 (fun x hx => by simp [HO.out.2 x hx])]
    exact own_grow HO.out.1 hb
  · rw [hi] at hidx
    have hk0 : k0 < l.length := (List.getElem?_eq_some_iff.1 hx0).1
    obtain ⟨g, cap, cur, rfl, hOB⟩ := OwnA.opn h (fun e => by rw [e] at hk0; simp at hk0)
    have HF := Lib.hid hf; clear hf
    have hbg := hOB.base
    have hnc := hOB.le
    have hcm := hOB.lim
    have hcm' : cap ≤ 9223372036854775807 := by unfold maxLen at hcm; omega
    have hkey : ∀ (t : Nat) (x : Ac) (u : Nat), l[t]? = some x → u < 10 → cur[t * 10 + u]? = (acL x)[u]? := by
      intro t x u ht hu
      have hc := (hOB.cells (fun e => by rw [e] at hk0; simp at hk0)).2 t u
      obtain ⟨z, hz⟩ : ∃ z, (acL x)[u]? = some z := ⟨(acL x)[u]'(by rw [acL_len]; exact hu), by simp [acL_len, hu]⟩
      have h1 := hc z (by simp [ht, hz])
      rw [hOB.blk.cell, Nat.zero_add] at h1
      rw [h1, hz]
    have hstart : InvDA base g cap l.length l p k0 k0 W0 W0 := by
      have e : (l.take k0).filter (fun x => !p x) = l.take k0 := List.filter_eq_self.2 (fun x hx => by
        obtain ⟨t, ht⟩ := List.mem_iff_getElem?.1 hx
        rw [List.getElem?_take] at ht
        split at ht
        · rename_i htk; simp [hbefore t x htk ht]
        · cases ht)
      refine ⟨⟨cur, hOB.blk, hOB.size, ?_, fun t x u _ ht hu => hkey t x u ht hu⟩, by rw [e, List.length_take]; omega, Below.refl _ _⟩
      rw [e]
      have h1 := hOB.rows
      have h2 : ((l.take k0).map acL).flatten = ((l.map acL).flatten).take (k0 * 10) := by
        have h3 : (l.map acL).flatten = ((l.take k0).map acL).flatten ++ ((l.drop k0).map acL).flatten := by rw [← List.flatten_append, ← List.map_append, List.take_append_drop]
        have h4 : (((l.take k0).map acL).flatten).length = k0 * 10 := by rw [acFlat_len, List.length_take]; omega
        rw [h3, ← h4, List.take_left]
      rw [h2, ← h1, List.take_take]
      congr 1
      omega
    have hstart2 := hstart.gone hx0 hp0
    have HS := Lib.hid hstart2
    have hlg : g < W0.heap.size := hOB.blk.lt
    clear hstart hstart2 h hbefore hx0 hp0 hOB hkey
    generalize hn : l.length = n at *
    have HN := Lib.hid hn; clear hn
    go_enter Tryz.func108, Tryz.ntmps108
    go_wp2_with fail
    refine hidx.out.mono ?_
    rintro e w1 ⟨rfl, hb1⟩
    have hlg1 : g < w1.heap.size := Nat.lt_of_lt_of_le hlg hb1.size
    have HS1 := Lib.hid (HS.out.grow hb1 hbase)
    clear HS hidx
    have hb1' := hb1.mono hbase
    clear hb1
    go_wp2_with fail
    have hk1 : ((k0 : Int) == -1) = false := by simp
    simp only [hk1]
    clear hk1
    go_loopw [5, 6] (fun iv jv wr => ∃ i j : Nat, j ≤ n ∧ iv = .int .i64 i ∧ jv = .int .i64 j ∧ i < j ∧ base ≤ wr.heap.size ∧ InvDA base g cap n l p i j W0 wr) (fun _ jv _ => n - (intOf jv).toNat)
    case atStart => exact ⟨k0, k0 + 1, by omega, rfl, by go_num, by omega, by have := hb1'.size; omega, HS1.out⟩
    case round =>
      obtain ⟨i, j, hj, rfl, rfl, hij, hbw, hinv⟩ := hrel
      have HI := Lib.hid hinv; clear hinv HS1
      by_cases hlt : j < n
      · have hx : l[j]? = some (l[j]'(by rw [HN.out]; exact hlt)) := by simp
        generalize l[j]'(by rw [HN.out]; exact hlt) = x at hx
        have hcl : Cells wr g (j * 10) 10 ([x].map acL) := Exists.elim HI.out.blk (fun cur h => row_cells h.1 (fun u hu => h.2.2.2 j x u (Nat.le_refl _) hx hu))
        obtain ⟨a0, a1, a2, a3, a4, a5, a6, a7, a8, a9⟩ := ac_cells hcl (show [x][0]? = some x from rfl)
        simp only [Nat.zero_mul, Nat.add_zero] at a0 a1 a2 a3 a4 a5 a6 a7 a8 a9
        have lg := hcl.1
        clear hcl
        have HX := Lib.hid (And.intro hx (List.mem_of_getElem? hx)); clear hx
        go_wp2_with fail
        clear a0 a1 a2 a3 a4 a5 a6 a7 a8 a9
        have hbe : Below wr.heap.size wr (wr.alloc (.cells (#[.int .u8 x.1, .int .i64 x.2.1, .int .u64 (pl x.2.2 0), .int .u64 (pl x.2.2 1), .int .u64 (pl x.2.2 2), .int .u64 (pl x.2.2 3), .int .u64 (pl x.2.2 4), .int .u64 (pl x.2.2 5), .int .u64 (pl x.2.2 6), .int .u64 (pl x.2.2 7)] : Array Value) 46)) := bel_alloc (bel_refl _) _
        have g7 : Blk (wr.alloc (.cells (#[.int .u8 x.1, .int .i64 x.2.1, .int .u64 (pl x.2.2 0), .int .u64 (pl x.2.2 1), .int .u64 (pl x.2.2 2), .int .u64 (pl x.2.2 3), .int .u64 (pl x.2.2 4), .int .u64 (pl x.2.2 5), .int .u64 (pl x.2.2 6), .int .u64 (pl x.2.2 7)] : Array Value) 46)) wr.heap.size #[.int .u8 x.1, .int .i64 x.2.1, .int .u64 (pl x.2.2 0), .int .u64 (pl x.2.2 1), .int .u64 (pl x.2.2 2), .int .u64 (pl x.2.2 3), .int .u64 (pl x.2.2 4), .int .u64 (pl x.2.2 5), .int .u64 (pl x.2.2 6), .int .u64 (pl x.2.2 7)] 46 := Blk.new _ _ _
        generalize hwv : (wr.alloc (.cells (#[.int .u8 x.1, .int .i64 x.2.1, .int .u64 (pl x.2.2 0), .int .u64 (pl x.2.2 1), .int .u64 (pl x.2.2 2), .int .u64 (pl x.2.2 3), .int .u64 (pl x.2.2 4), .int .u64 (pl x.2.2 5), .int .u64 (pl x.2.2 6), .int .u64 (pl x.2.2 7)] : Array Value) 46)) = wv at *
        have hsv := hbe.size
        have HIv := Lib.hid (HI.out.grow hbe hbw)
        have hlr : wr.heap.size < wv.heap.size := g7.lt
        refine (HF.out _ HIv.out.bel x HX.out.2).mono ?_
        rintro e w2 ⟨rfl, hb2⟩
        have HI2 := Lib.hid (HIv.out.grow hb2 (by omega))
        have G7 := g7.grow hb2
        have hs2 := hb2.size
        have hbw2 : base ≤ w2.heap.size := by omega
        clear hb2 g7 hbe hwv HIv
        cases hp : p x with
        | true =>
          go_wp2_with fail
          go_roundw
          case rel => exact ⟨i, j + 1, by omega, rfl, by go_num, by omega, hbw2, HI2.out.gone HX.out.1 hp⟩
          case measure => simp [intOf]; omega
        | false =>
          have c7 := G7.cell
          have l7 := G7.lt
          refine Veil.out ?_
          obtain ⟨cur2, q1, q2, q3, q4⟩ := HI2.out.blk
          refine Veil.on ?_
          have HK := Lib.hid (HI2.out.kept HX.out.1 hp hbg (by rw [HN.out]; exact hnc) q1 q2 q3 q4)
          have hfit : i * 10 + (acA x).size ≤ cur2.size := by rw [q2]; show i * 10 + 10 ≤ cap * 10; omega
          have hin : i < n := by omega
          have hSz : (Tryz.prog.info? 46).map (·.size) = some (acA x).size := act_size
          have hOne : (acA x).all (·.oneCell') = true := ac_one x
          have Q1 := Lib.hid q1
          clear q1 q2 q3 q4 G7
          go_wp2_with (refine wpList_store_at rfl 46 (.tmp 33) (.tmp 32) rfl g (i * 10) (acA x) rfl rfl 46 cur2 Q1.out hSz hfit hOne ?_)
          go_roundw
          case rel => exact ⟨i + 1, j + 1, by omega, by go_num, by go_num, by omega, by rw [setRow_size]; exact hbw2, HK.out⟩
          case measure => simp [intOf]; omega
      · have hjn : j = n := by omega
        subst hjn
        have hblk := HI.out.blk
        refine Veil.out ?_
        obtain ⟨cur2, q1, q2, q3, q4⟩ := hblk
        refine Veil.on ?_
        have HQ := Lib.hid (And.intro q1 (And.intro q2 q3)); clear q1 q2 q3 q4
        have hr := run_clear_rows (P := Tryz.prog) wr 28 46 0 (.agg #[.int .u8 0, .int .i64 0, .int .u64 0, .int .u64 0, .int .u64 0, .int .u64 0, .int .u64 0, .int .u64 0, .int .u64 0, .int .u64 0]) Tryz.underlying28 (fun _ => Tryz.zeroValue46 _) (by decide) g (i * 10) (j - i) (cap - i) (by omega) cur2 46 HQ.out.1 (by rw [zero46, HQ.out.2.1]; omega)
        go_wp2_with fail
        go_ret
        refine ⟨_, rfl, ?_, HI.out.bel.trans (blw_row (Below.refl _ _) hbg _)⟩
        have hlen := HI.out.len
        have hq := HQ.out.2.2
        have htl : l.take j = l := List.take_of_length_le (by rw [HN.out]; exact Nat.le_refl _)
        rw [htl] at hlen hq
        have hzl : (Builtin.zeroCells (Value.agg #[.int .u8 0, .int .i64 0, .int .u64 0, .int .u64 0, .int .u64 0, .int .u64 0, .int .u64 0, .int .u64 0, .int .u64 0, .int .u64 0]).cells (j - i)).toList.length = (j - i) * 10 := by rw [zeroCells_len, zero46]
        have hcs : cur2.size = cap * 10 := HQ.out.2.1
        refine own_len (OwnB.own (cur := spl cur2 (i * 10) (Builtin.zeroCells (Value.agg #[.int .u8 0, .int .i64 0, .int .u64 0, .int .u64 0, .int .u64 0, .int .u64 0, .int .u64 0, .int .u64 0, .int .u64 0, .int .u64 0]).cells (j - i)).toList) ⟨hbg, HQ.out.1.rowS _, by omega, hcm, ?_, ?_⟩) hlen
        · rw [spl_size (by rw [hzl, hcs]; omega)]; exact hcs
        · rw [hlen, spl_take_lo (Nat.le_refl _) (by rw [hcs]; omega)]; exact hq
end Go.Proofs.YtccnkebkgegohaaGreatDoor
end
section
namespace Go.Proofs.YtccnkebkgegohaaGreatDoor
open Go.RowKit Go.Rel
set_option maxRecDepth 100000
/-! of a list only two acts -/
set_option maxHeartbeats 4000000 in
theorem pair_spec (v : Value) (l : List Ac) (a b : Ac) (w : World) (h : SlA w v l) (hm : l.length ≤ 1048576) :
    Calls Tryz.prog 44 #[v, .agg #[.int .u8 a.1, .int .i64 a.2.1, .int .u64 (pl a.2.2 0), .int .u64 (pl a.2.2 1), .int .u64 (pl a.2.2 2), .int .u64 (pl a.2.2 3), .int .u64 (pl a.2.2 4), .int .u64 (pl a.2.2 5), .int .u64 (pl a.2.2 6), .int .u64 (pl a.2.2 7)], .agg #[.int .u8 b.1, .int .i64 b.2.1, .int .u64 (pl b.2.2 0), .int .u64 (pl b.2.2 1), .int .u64 (pl b.2.2 2), .int .u64 (pl b.2.2 3), .int .u64 (pl b.2.2 4), .int .u64 (pl b.2.2 5), .int .u64 (pl b.2.2 6), .int .u64 (pl b.2.2 7)]] w fun e w' => ∃ u, e = .returned u ∧ OwnA w' w.heap.size u (prj a b l) ∧ Below w.heap.size w w' := by
  have H75 := Lib.hid fun w' (hb : Below w.heap.size w w') => CloneAc_spec v l w' (h.mono hb) hm
  clear h
  go_enter Tryz.func44, Tryz.ntmps44
  go_wp2_with fail
  refine (H75.out _ bel_by).mono ?_
  rintro e w1 ⟨u, rfl, hO, hb⟩
  have ga : Blk w1 w.heap.size #[.int .u8 a.1, .int .i64 a.2.1, .int .u64 (pl a.2.2 0), .int .u64 (pl a.2.2 1), .int .u64 (pl a.2.2 2), .int .u64 (pl a.2.2 3), .int .u64 (pl a.2.2 4), .int .u64 (pl a.2.2 5), .int .u64 (pl a.2.2 6), .int .u64 (pl a.2.2 7)] 46 := Blk.grow blk_by hb
  have gb : Blk w1 (w.heap.size + 1) #[.int .u8 b.1, .int .i64 b.2.1, .int .u64 (pl b.2.2 0), .int .u64 (pl b.2.2 1), .int .u64 (pl b.2.2 2), .int .u64 (pl b.2.2 3), .int .u64 (pl b.2.2 4), .int .u64 (pl b.2.2 5), .int .u64 (pl b.2.2 6), .int .u64 (pl b.2.2 7)] 46 := Blk.grow blk_by hb
  have hsz := hb.size
  have hB1 : Below w.heap.size w w1 := bel_trans bel_by hb
  have HO := Lib.hid hO
  simp only [World.size_alloc] at hO hsz
  have HF : Hid (∀ w', Below (w.heap.size + 1 + 1) w1 w' → ∀ x ∈ l, Calls Tryz.prog 109 #[.agg #[.int .u8 x.1, .int .i64 x.2.1, .int .u64 (pl x.2.2 0), .int .u64 (pl x.2.2 1), .int .u64 (pl x.2.2 2), .int .u64 (pl x.2.2 3), .int .u64 (pl x.2.2 4), .int .u64 (pl x.2.2 5), .int .u64 (pl x.2.2 6), .int .u64 (pl x.2.2 7)], .pointer (some ⟨w.heap.size, 0, none⟩), .pointer (some ⟨w.heap.size + 1, 0, none⟩)] w' fun e w'' => e = .returned (.bool (!(x == a) && !(x == b))) ∧ Below w'.heap.size w' w'') :=
    Lib.hid fun w' hw x _ => pair109 x a b _ _ w' (ga.below hw (by omega)) (gb.below hw (by omega))
  have HO2 : Hid (OwnA w1 (w.heap.size + 1 + 1) u l) := Lib.hid hO
  clear hO HO hb ga gb H75
  go_wp2_with fail
  refine (DeleteFunc108 u _ _ l (fun x => !(x == a) && !(x == b)) (w.heap.size + 1 + 1) w1 w1 HO2.out rfl (by omega) HF.out).mono ?_
  rintro e w2 ⟨u2, rfl, hO, hb⟩
  have hB2 : Below w.heap.size w w2 := hB1.trans (hb.mono (by omega))
  have HR : Hid (OwnA w2 w.heap.size u2 (prj a b l)) := Lib.hid (own_weak hO (by omega))
  clear hO
  go_wp2_with fail
  refine bodyPost_ret (v := u2) (by simp [results, Tryz.results44, go_sem]) rfl ⟨u2, rfl, HR.out, hB2⟩
theorem sl_at {W : World} {q : Option Addr} {n c : Nat} {l : List Ac} {j : Nat} {x : Ac} (h : SlA W (.slice q n c) l) (hx : l[j]? = some x) : ∃ b o, q = some ⟨b, o, none⟩ ∧ Cells W b o 10 (l.map acL) := by
  rcases Sl.cases h with ⟨hl, _⟩ | ⟨b, o, c', he, _, _, _, hc⟩
  · have : l = [] := by simpa using hl
    subst this; cases hx
  · injection he with h1 _ _
    exact ⟨b, o, h1, hc⟩
end Go.Proofs.YtccnkebkgegohaaGreatDoor
end
