import Derived.Test.YtccnkebkgegohaaGreatDoorG09
import Derived.Test.YtccnkebkgegohaaGreatDoorG12
/-
  Given contracts of functions of the program, and laws for them, one behind the other.
-/
set_option linter.unusedVariables false
set_option linter.unusedSimpArgs false
set_option linter.unusedSectionVars false
section
namespace Go.Proofs.YtccnkebkgegohaaGreatDoor
open Go.RowKit Go.Rel
set_option maxRecDepth 100000
theorem idx_cases {α : Type} (p : α → Bool) (l : List α) : (idx p l = -1 ∧ ∀ x ∈ l, p x = false) ∨ ∃ (k : Nat) (x : α), idx p l = (k : Int) ∧ l[k]? = some x ∧ p x = true ∧ ∀ (j : Nat) (y : α), j < k → l[j]? = some y → p y = false := by
  unfold idx
  cases h : l.findIdx? p with
  | none => exact .inl ⟨rfl, fun x hx => by simpa using List.findIdx?_eq_none_iff.1 h x hx⟩
  | some i =>
    obtain ⟨hi, hp, hb⟩ := List.findIdx?_eq_some_iff_getElem.1 h
    refine .inr ⟨i, l[i], rfl, by simp, hp, fun j y hj hy => ?_⟩
    have := hb j hj
    rw [(List.getElem?_eq_some_iff.1 hy).2] at this
    simpa using this
set_option maxHeartbeats 4000000 in
theorem DeleteFunc149 (v c0 : Value) (l : List Int) (p : Int → Bool) (base : Nat) (w : World) (h : OwnI w base v l) (hbase : base ≤ w.heap.size)
    (hf : ∀ w', Below base w w' → ∀ x ∈ l, Calls Tryz.prog 149 #[.int .i64 x, c0] w' fun e w'' => e = .returned (.bool (p x)) ∧ Below w'.heap.size w' w'') :
    Calls Tryz.prog 113 #[v, .func (.func 149) #[] #[c0]] w fun e w' => ∃ u, e = .returned u ∧ OwnI w' base u (l.filter fun x => !p x) ∧ Below base w w' := by
  have hidx := Lib.hid (IndexFunc149 v l c0 p w h.sl (fun w' hw => hf w' (hw.mono hbase)))
  rcases idx_cases p l with ⟨hi, hno⟩ | ⟨k0, x0, hi, hx0, hp0, hbefore⟩
  · rw [hi] at hidx
    obtain ⟨vp, vc, rfl, _, _⟩ := own_shape' h
    have HO := Lib.hid (And.intro h hno); clear h hf hno
    go_enter Tryz.func113, Tryz.ntmps113
    go_wp2_with fail
    refine hidx.out.mono ?_
    rintro e w1 ⟨rfl, hb⟩
    go_wp2_with fail
    go_ret
    refine ⟨_, rfl, ?_, hb.mono hbase⟩
    rw [List.filter_eq_self.2 (fun x hx => by simp [HO.out.2 x hx])]
    exact own_grow HO.out.1 hb
  · rw [hi] at hidx
    have hk0 : k0 < l.length := (List.getElem?_eq_some_iff.1 hx0).1
    rcases h.2 with ⟨_, h0⟩ | ⟨g, cap, cur, rfl, hbg, hg, hnc, hcm, hcs, htake⟩
    · omega
    have HF := Lib.hid hf; clear hf
    have hcm' : cap ≤ 9223372036854775807 := by unfold maxLen at hcm; omega
    have hstart : InvDel base g cap l.length l p k0 k0 w w := by
      have e : (l.take k0).filter (fun x => !p x) = l.take k0 := List.filter_eq_self.2 (fun x hx => by
        obtain ⟨t, ht⟩ := List.mem_iff_getElem?.1 hx
        rw [List.getElem?_take] at ht
        split at ht
        · rename_i htk; simp [hbefore t x htk ht]
        · cases ht)
      have key : ∀ (t : Nat) (x : Int), l[t]? = some x → cur[t]? = some (.int .i64 x) := by
        intro t x ht
        have h1 : (l.map (Value.int .i64))[t]? = some (.int .i64 x) := by simp [ht]
        rw [← htake, List.getElem?_take] at h1
        split at h1
        · simpa using h1
        · cases h1
      refine ⟨⟨cur, hg, by omega, ?_, fun t x _ ht => key t x ht⟩, by rw [e, List.length_take]; omega, Below.refl _ _⟩
      rw [e, List.map_take, ← htake, List.take_take]
      congr 1
      omega
    have hstart2 := hstart.gone hx0 hp0
    have HS := Lib.hid hstart2; clear hstart hstart2 htake hcs hg h hbefore hx0 hp0
    have hlg : g < w.heap.size := (Classical.choose_spec HS.out.blk).1.lt
    generalize hn : l.length = n at *
    have HN := Lib.hid hn; clear hn
    go_enter Tryz.func113, Tryz.ntmps113
    go_wp2_with fail
    refine hidx.out.mono ?_
    rintro e w1 ⟨rfl, hb1⟩
    have hlg1 : g < w1.heap.size := Nat.lt_of_lt_of_le hlg hb1.size
    have HS1 := Lib.hid (HS.out.grow hb1 hbase)
    clear HS hidx
    have hb1' := hb1.mono hbase
    clear hb1
    go_wp2_with fail
    have hk1 : ((k0 : Int) == -1) = false := by simp
    simp only [hk1]
    clear hk1
    go_loopw [5, 6] (fun iv jv wr => ∃ i j : Nat, j ≤ n ∧ iv = .int .i64 i ∧ jv = .int .i64 j ∧ i < j ∧ base ≤ wr.heap.size ∧ InvDel base g cap n l p i j w wr) (fun _ jv _ => n - (intOf jv).toNat)
    case atStart => exact ⟨k0, k0 + 1, by omega, rfl, by go_num, by omega, by have := hb1'.size; omega, HS1.out⟩
    case round =>
      obtain ⟨i, j, hj, rfl, rfl, hij, hbw, hinv⟩ := hrel
      have HI := Lib.hid hinv; clear hinv HS1
      by_cases hlt : j < n
      · have hx : l[j]? = some (l[j]'(by rw [HN.out]; exact hlt)) := by simp
        generalize l[j]'(by rw [HN.out]; exact hlt) = x at hx
        have hcells := HI.out.cells hx (by rw [HN.out]; exact hnc)
        have c1 := hcells.1
        have lg := hcells.2.2.2.1
        clear hcells
        have HX := Lib.hid (And.intro hx (List.mem_of_getElem? hx)); clear hx
        go_wp2_with fail
        refine (HF.out _ HI.out.bel x HX.out.2).mono ?_
        rintro e w2 ⟨rfl, hb2⟩
        have HI2 := Lib.hid (HI.out.grow hb2 hbw)
        have hs2 := hb2.size
        have hbw2 : base ≤ w2.heap.size := by omega
        clear hb2
        cases hp : p x with
        | true =>
          go_wp2_with fail
          go_roundw
          case rel => exact ⟨i, j + 1, by omega, rfl, by go_num, by omega, hbw2, HI2.out.gone HX.out.1 hp⟩
          case measure => simp [intOf]; omega
        | false =>
          have hcells := HI2.out.cells HX.out.1 (by rw [HN.out]; exact hnc)
          have f1 := hcells.2.1
          have cz := Classical.choose_spec hcells.2.2.1
          generalize Classical.choose hcells.2.2.1 = z at cz
          clear hcells
          have HK := Lib.hid (HI2.out.kept HX.out.1 hp hbg (by rw [HN.out]; exact hnc))
          go_wp2_with fail
          go_roundw
          case rel => exact ⟨i + 1, j + 1, by omega, by go_num, by go_num, by omega, by simpa using hbw2, HK.out⟩
          case measure => simp [intOf]; omega
      · have hjn : j = n := by omega
        subst hjn
        have hblk := HI.out.blk
        refine Veil.out ?_
        obtain ⟨cur2, q1, q2, q3, q4⟩ := hblk
        refine Veil.on ?_
        have HQ := Lib.hid (And.intro q1 q3); clear q1 q3 q4
        have hr := run_clear_row (P := Tryz.prog) wr 104 3 0 (.int .i64 0) Tryz.underlying104 (fun _ => Tryz.zeroValue3 _) rfl rfl g i (j - i) (cap - i) (by omega) cur2 3 HQ.out.1 (by omega)
        go_wp2_with fail
        go_ret
        refine ⟨_, rfl, ?_, HI.out.bel.trans (blw_row (Below.refl _ _) hbg _)⟩
        have hlen := HI.out.len
        have hq := HQ.out.2
        have htl : l.take j = l := List.take_of_length_le (by rw [HN.out]; exact Nat.le_refl _)
        rw [htl] at hlen hq
        unfold OwnI
        rw [hlen]
        refine ⟨by simp [hlen], .inr ⟨g, cap, _, rfl, hbg, HQ.out.1.rowS _, by omega, hcm, ?_, ?_⟩⟩
        · simp only [List.size_toArray, List.length_append, List.length_take, List.length_drop, List.length_replicate, Array.length_toList]
          omega
        · rw [← hq, Nat.mul_one]
          simp only [List.append_assoc]
          rw [List.take_append_of_le_length (by simp; omega), List.take_take, Nat.min_self]
end Go.Proofs.YtccnkebkgegohaaGreatDoor
end
section
namespace Go.Proofs.YtccnkebkgegohaaGreatDoor
open Go.RowKit Go.Rel
set_option maxRecDepth 100000
set_option maxHeartbeats 2000000 in
theorem without1 (bt : Nat) (g : Value) (gl : List Int) (w : World) (hbt : w.cell? ⟨bt, 0, none⟩ = some g) (hg : SlI w g gl) (x : Int) :
    Calls Tryz.prog 149 #[.int .i64 x, .pointer (some ⟨bt, 0, none⟩)] w fun e w' => e = .returned (.bool (gl.contains x)) ∧ Below w.heap.size w w' := by
  have lbt := block_lt_of_cell hbt
  have HC := Lib.hid (ContainsInt_spec g gl x w hg)
  obtain ⟨a, c, rfl, _, _, _⟩ := hg
  simp only [List.length_map] at HC hbt
  go_enter Tryz.func149, Tryz.ntmps149
  go_wp2_with fail
  refine HC.out.mono ?_
  rintro e w1 ⟨rfl, rfl⟩
  go_wp2_with fail
  go_ret
  exact ⟨ret_bool (by simp), Below.refl _ _⟩
set_option maxHeartbeats 2000000 in
theorem without_spec (v g : Value) (l gl : List Int) (w : World) (hv : SlI w v l) (hg : SlI w g gl) (hm : l.length ≤ 1048576) :
    Calls Tryz.prog 94 #[v, g] w fun e w' => ∃ u, e = .returned u ∧ OwnI w' w.heap.size u (l.filter fun x => !gl.contains x) ∧ Below w.heap.size w w' := by
  have H1 := Lib.hid fun w' (hb : Below w.heap.size w w') => CloneInt_spec v l w' (hv.mono hb) hm
  have HG := Lib.hid hg
  obtain ⟨a, c, rfl, _, _, _⟩ := hg
  have hmf' := hmf
  go_enter Tryz.func94, Tryz.ntmps94
  go_wp2_with fail
  refine (H1.out _ (by repeat (first | with_reducible exact bel_refl _ | with_reducible assumption | with_reducible refine bel_drewN ?_ _ | with_reducible refine bel_drew ?_ | with_reducible refine bel_alloc ?_ _ | with_reducible refine bel_row ?_ ?_ _ | with_reducible refine bel_set ?_ ?_ _ | refine bel_trans ?_ (by with_reducible assumption) | (simp; done) | (simp; omega)))).mono ?_
  rintro e w1 ⟨u, rfl, hO, hb⟩
  have hB : Below w.heap.size w w1 := bel_trans (by repeat (first | with_reducible exact bel_refl _ | with_reducible assumption | with_reducible refine bel_drewN ?_ _ | with_reducible refine bel_drew ?_ | with_reducible refine bel_alloc ?_ _ | with_reducible refine bel_row ?_ ?_ _ | with_reducible refine bel_set ?_ ?_ _ | refine bel_trans ?_ (by with_reducible assumption) | (simp; done) | (simp; omega))) hb
  have hbox : w1.cell? ⟨w.heap.size, 0, none⟩ = some (.slice a (gl.map intL).length c) := by
    refine (hb.cell (p := ⟨w.heap.size, 0, none⟩) (by simp)).trans ?_
    simp [go_sem]
  have hsz := hb.size
  simp only [World.size_alloc] at hsz
  have hd := DeleteFunc149 u (.pointer (some ⟨w.heap.size, 0, none⟩)) l (fun x => gl.contains x) (w.heap.size + 1) w1 (own_weak hO (by simp)) hsz (fun w' hw' x _ => without1 w.heap.size _ gl w' ((hw'.cell (p := ⟨w.heap.size, 0, none⟩) (by simp)).trans hbox) (HG.out.mono (hB.trans (hw'.mono (by omega)))) x)
  have HD := Lib.hid hd; clear hd hO hbox hb
  go_wp2_with fail
  refine HD.out.mono ?_
  rintro e w2 ⟨u2, rfl, hO2, hB2⟩
  have HO := Lib.hid (And.intro hO2 hB2); clear hO2 hB2
  go_wp2_with fail
  go_ret
  exact ⟨_, rfl, own_weak HO.out.1 (by omega), hB.trans (HO.out.2.mono (by omega))⟩
end Go.Proofs.YtccnkebkgegohaaGreatDoor
end
section
namespace Go.Proofs.YtccnkebkgegohaaGreatDoor
open Go.RowKit Go.Rel
set_option maxRecDepth 100000
/-- the acts of a row in the order of the least list: again and again the least that can be first -/
def leastI (dep : Int → Int → Bool) (f : Int → Int → Int) : Nat → List Int → List Int
  | 0, _ => []
  | n + 1, left => match freeUpto dep left left.length with
    | [] => []
    | x :: xs => minF f x xs :: leastI dep f n (left.filter fun y => !([minF f x xs].contains y))
theorem minF_mem (f : Int → Int → Int) : ∀ (xs : List Int) (m : Int), minF f m xs = m ∨ minF f m xs ∈ xs
  | [], m => .inl rfl
  | x :: xs, m => by
    unfold minF
    rcases minF_mem f xs (if f x m < 0 then x else m) with h | h
    · rw [h]
      split
      · exact .inr (by simp)
      · exact .inl rfl
    · exact .inr (by simp [h])
theorem freeUpto_mem (dep : Int → Int → Bool) (left : List Int) : ∀ (k : Nat), k ≤ left.length → ∀ x ∈ freeUpto dep left k, x ∈ left
  | 0, _, x, h => by simp [freeUpto] at h
  | k + 1, hk, x, h => by
    unfold freeUpto at h
    have hget : left.getD k 0 ∈ left := by
      have : left[k]? = some (left[k]'(by omega)) := by simp
      rw [List.getD_eq_getElem?_getD, this]; exact List.getElem_mem _
    split at h
    · rcases List.mem_append.1 h with h | h
      · exact freeUpto_mem dep left k (by omega) x h
      · simp at h; rw [h]; simpa [List.getD_eq_getElem?_getD] using hget
    · exact freeUpto_mem dep left k (by omega) x h
theorem freeUpto_ne (dep : Int → Int → Bool) (left : List Int) : ∀ (k : Nat), 0 < k → freeUpto dep left k ≠ []
  | 0, h => by omega
  | k + 1, _ => by
    unfold freeUpto
    rcases Nat.eq_zero_or_pos k with rfl | hk
    · simp [freeAt]
    · split
      · simp
      · exact freeUpto_ne dep left k hk
theorem filter_lt {left : List Int} {i : Int} (h : i ∈ left) : (left.filter fun y => !([i].contains y)).length < left.length := by
  induction left with
  | nil => cases h
  | cons a l ih =>
    by_cases e : a = i
    · subst e
      simp
      exact Nat.lt_succ_of_le (List.length_filter_le _ _)
    · have h' : i ∈ l := by
        rcases List.mem_cons.1 h with h | h
        · exact absurd h.symm e
        · exact h
      have := ih h'
      simp [e] at this ⊢
      exact this
def sliceLen : Value → Nat
  | .slice _ n _ => n
  | _ => 0
/-- the order of acts by their numbers -/
def cmpN (acts : List Ac) (i j : Int) : Int := cmpA (acts.getD i.toNat (0, 0, 0)) (acts.getD j.toNat (0, 0, 0))
abbrev actsAt (acts : List Ac) (is : List Int) : List Ac := is.map fun i => acts.getD i.toNat (0, 0, 0)
end Go.Proofs.YtccnkebkgegohaaGreatDoor
end
section
namespace Go.Proofs.YtccnkebkgegohaaGreatDoor
open Go.RowKit Go.Rel
set_option maxRecDepth 100000
theorem least1' {bp : Nat} {blank : Sol} {v av : Value} {l : List Sol} {acts : List Ac} {s : Stn} (w : World) (HP : PastAt bp blank v av l acts s w) (Ha : SlA w av acts) (bt : Nat) (hbt : w.cell? ⟨bt, 0, none⟩ = some (.pointer (some ⟨bp, 0, none⟩))) (x y : Int) (hx : 0 ≤ x ∧ x < acts.length) (hy : 0 ≤ y ∧ y < acts.length) :
    Calls Tryz.prog 147 #[.int .i64 x, .int .i64 y, .pointer (some ⟨bt, 0, none⟩)] w fun e w' => e = .returned (.int .i64 (cmpN acts x y)) ∧ Below w.heap.size w w' := by
  have e1 : ((x.toNat : Nat) : Int) = x := by omega
  have e2 : ((y.toNat : Nat) : Int) = y := by omega
  have h1 : x.toNat < acts.length := by omega
  have h2 : y.toNat < acts.length := by omega
  have := least1 w HP Ha bt hbt x.toNat y.toNat (acts[x.toNat]'h1) (acts[y.toNat]'h2) (by simp) (by simp)
  rw [e1, e2] at this
  unfold cmpN
  simpa [h1, h2] using this
theorem leastI_succ {dep : Int → Int → Bool} {f : Int → Int → Int} (n : Nat) (left : List Int) : leastI dep f (n + 1) left = match freeUpto dep left left.length with
    | [] => []
    | x :: xs => minF f x xs :: leastI dep f n (left.filter fun y => !([minF f x xs].contains y)) := rfl
theorem minF_left {dep : Int → Int → Bool} {f : Int → Int → Int} {left : List Int} {x : Int} {xs : List Int} (hf : freeUpto dep left left.length = x :: xs) : minF f x xs ∈ left := by
  refine freeUpto_mem dep left left.length (Nat.le_refl _) _ ?_
  rw [hf]
  rcases minF_mem f xs x with h | h
  · rw [h]; simp
  · simp [h]
/-- more fuel than the row is long changes nothing -/
theorem leastI_fuel {dep : Int → Int → Bool} {f : Int → Int → Int} : ∀ (n : Nat) (left : List Int), left.length ≤ n → leastI dep f n left = leastI dep f left.length left
  | 0, left, h => by
    have : left = [] := List.eq_nil_of_length_eq_zero (by omega)
    subst this; rfl
  | n + 1, left, h => by
    by_cases h0 : left.length = 0
    · have : left = [] := List.eq_nil_of_length_eq_zero h0
      subst this; rfl
    · obtain ⟨k, hk⟩ : ∃ k, left.length = k + 1 := ⟨left.length - 1, by omega⟩
      have e : leastI dep f left.length left = leastI dep f (k + 1) left := by rw [hk]
      rw [e, leastI_succ, leastI_succ]
      cases hf : freeUpto dep left left.length with
      | nil => rfl
      | cons x xs =>
        have hlt := filter_lt (minF_left (f := f) hf)
        show _ :: _ = _ :: _
        rw [leastI_fuel n _ (by omega), leastI_fuel k _ (by omega)]
theorem leastI_step {dep : Int → Int → Bool} {f : Int → Int → Int} {left : List Int} {x : Int} {xs : List Int} (hf : freeUpto dep left left.length = x :: xs) (hpos : 0 < left.length) :
    leastI dep f left.length left = minF f x xs :: leastI dep f (left.filter fun y => !([minF f x xs].contains y)).length (left.filter fun y => !([minF f x xs].contains y)) := by
  obtain ⟨k, hk⟩ : ∃ k, left.length = k + 1 := ⟨left.length - 1, by omega⟩
  have hlt := filter_lt (minF_left (f := f) hf)
  have e2 := leastI_fuel (dep := dep) (f := f) k (left.filter fun y => !([minF f x xs].contains y)) (by omega)
  have e : leastI dep f left.length left = leastI dep f (k + 1) left := by rw [hk]
  rw [← e2, e, leastI_succ, hf]
/-- a row of numbers that an append to a row of acts (from B on) leaves alone -/
def Aside (W : World) (B : Nat) (u : Value) : Prop := ∀ p n c, u = .slice (some p) n c → p.block < B ∨ ∃ cur, Blk W p.block cur 3
theorem Aside.grow {W W' : World} {B : Nat} {u : Value} (h : Aside W B u) (hb : Below W.heap.size W W') : Aside W' B u := fun p n c e => by
  rcases h p n c e with h | ⟨cur, h⟩
  · exact .inl h
  · exact .inr ⟨cur, h.grow hb⟩
theorem OwnI.aside {W : World} {base B : Nat} {u : Value} {l : List Int} (h : OwnI W base u l) : Aside W B u := fun p n c e => by
  rcases h.2 with ⟨h1, _⟩ | ⟨g, cap, cur, h1, _, hg, _⟩
  · rw [h1] at e; cases e
  · rw [h1] at e; cases e; exact .inr ⟨cur, hg⟩
theorem SlI.app {W W' : World} {B : Nat} {u o : Value} {lf : List Int} {n : Nat} {xs : List Value} (h : SlI W u lf) (hap : Aside W B u) (hO : W.ownsRow B 46 10 o n xs) (hg : W.grownBy W' o.ownBlock) : SlI W' u lf ∧ Aside W' B u := by
  have key : ∀ p m c, u = .slice (some p) m c → p.block < W.heap.size → W'.heap[p.block]? = W.heap[p.block]? := by
    intro p m c e hp
    refine hg.block _ hp (fun e2 => ?_)
    rcases hO.2 with ⟨h1, _⟩ | ⟨g, cap, cur, h1, hbg, hgg, _⟩
    · rw [h1] at e2; cases e2
    · rw [h1] at e2
      have e3 : p.block = g := by simpa [Value.ownBlock] using e2
      rcases hap p m c e with h2 | ⟨cur2, h2⟩
      · omega
      · unfold Blk at h2; rw [e3, hgg] at h2; cases h2
  obtain ⟨a, c, hv, hc, hcm, hcells⟩ := h
  refine ⟨⟨a, c, hv, hc, hcm, ?_⟩, fun p m c' e => ?_⟩
  · rcases hcells with h | ⟨b, off, ha, hcs⟩
    · exact .inl h
    · subst ha
      refine .inr ⟨b, off, rfl, Nat.lt_of_lt_of_le hcs.1 hg.size, fun i j z hz => ?_⟩
      have := key ⟨b, off, none⟩ _ _ hv hcs.1
      rw [← hcs.2 i j z hz]
      simp only [World.cell?]
      rw [this]
  · rcases hap p m c' e with h | ⟨cur, h⟩
    · exact .inl h
    · exact .inr ⟨cur, (key p m c' e h.lt).trans h⟩
theorem OwnI.len {W : World} {base : Nat} {u : Value} {l : List Int} (h : OwnI W base u l) : sliceLen u = l.length := by
  obtain ⟨p, c, rfl, _, _⟩ := own_shape' h; rfl
theorem cells_new (w : World) (xs : List Value) (t : TypeId) : ∀ j u, xs[j]? = some u → (w.alloc (.cells xs.toArray t)).cell? ((⟨w.heap.size, 0, none⟩ : Addr).add j) = some u := by
  intro j u h
  rw [Addr.add_lit, Nat.zero_add, World.cell?_alloc_at _ _ _ _ rfl]
  simpa using h
set_option maxHeartbeats 8000000 in
theorem least_spec {bp : Nat} {blank : Sol} {v av : Value} {l : List Sol} {acts : List Ac} {s : Stn} (w : World) (HP : PastAt bp blank v av l acts s w) (Ha : SlA w av acts) (hn : acts.length ≤ 60) (u : Value) (left : List Int) (Hl : SlI w u left) (hleft : ∀ x ∈ left, 0 ≤ x ∧ x < acts.length) (hlen : left.length ≤ 60) :
    Calls Tryz.prog 93 #[.pointer (some ⟨bp, 0, none⟩), u] w fun e w' => ∃ o, e = .returned o ∧ OwnA w' w.heap.size o (actsAt acts (leastI (depI (cellsOf l acts)) (cmpN acts) left.length left)) ∧ Below w.heap.size w w' := by
  obtain ⟨dv, hpast, _⟩ := HP.past
  have cp := hpast.cell
  have lp := hpast.lt
  clear hpast
  obtain ⟨p, c, rfl, _, _, _⟩ : ∃ p c, u = .slice p left.length c ∧ True ∧ True ∧ True := by
    obtain ⟨a, c, h, _⟩ := Hl; exact ⟨a, c, by rw [h, List.length_map], trivial, trivial, trivial⟩
  obtain ⟨i0, hi, hz0, hz1, hz2⟩ := info_parts info46
  have HI0 := Lib.hid (And.intro hi (And.intro hz0 (And.intro hz1 hz2))); clear hi hz0 hz1 hz2
  have HH := Lib.hid (And.intro HP (And.intro Ha (And.intro Hl hleft))); clear HP Hl hleft
  have Ha2 := Ha.cases
  rw [List.length_map] at Ha2
  have ha : ∃ b off ca, 0 < acts.length → av = .slice (some ⟨b, off, none⟩) acts.length ca ∧ acts.length ≤ ca ∧ ca ≤ 9223372036854775807 ∧ Cells w b off 10 (acts.map acL) := by
    rcases Ha2 with ⟨h, _⟩ | ⟨b, off, ca, h1, h2, h3, _, h5⟩
    · exact ⟨0, 0, 0, fun hp => by have := congrArg List.length h; simp at this; rw [this] at hp; simp at hp⟩
    · exact ⟨b, off, ca, fun _ => ⟨h1, h2, h3, h5⟩⟩
  obtain ⟨ab, aoff, ac, ha⟩ := ha
  have HA := Lib.hid ha; clear ha Ha Ha2
  have HN := Lib.hid hn
  generalize hres : leastI (depI (cellsOf l acts)) (cmpN acts) left.length left = res
  have HR := Lib.hid hres; clear hres
  have hmf' := hmf
  have HASD : Hid (0 < left.length → Aside (w.alloc (.cells #[.pointer (some ⟨bp, 0, none⟩)] 101)) (w.heap.size + 1) (.slice p left.length c)) := fun hpos q n c' e => by
    obtain ⟨a, c2, hv, _, _, hcells⟩ := HH.out.2.2.1
    have e1 : p = some q := by injection e
    have e2 : p = a := by injection hv
    rcases hcells with h | ⟨b, off, ha, hcs⟩
    · have : left = [] := by simpa using h
      rw [this] at hpos; cases hpos
    · have e3 : some q = some ⟨b, off, none⟩ := by rw [← e1, e2, ha]
      cases e3
      exact .inl (Nat.lt_succ_of_lt hcs.1)
  go_enter Tryz.func93, Tryz.ntmps93
  go_wp2_with fail
  go_loopw [1, 5] (fun u o wr => ∃ lf out : List Int, SlI wr u lf ∧ (0 < lf.length → Aside wr (w.heap.size + 1) u) ∧ lf.length ≤ 60 ∧ out.length + lf.length ≤ left.length ∧ (∀ x ∈ lf, 0 ≤ x ∧ x < acts.length) ∧ Hid (OwnA wr (w.heap.size + 1) o (actsAt acts out)) ∧ Hid (out ++ leastI (depI (cellsOf l acts)) (cmpN acts) lf.length lf = res) ∧ Below w.heap.size w wr ∧ Blk wr w.heap.size #[.pointer (some ⟨bp, 0, none⟩)] 101) (fun u _ _ => sliceLen u)
  case atStart => exact ⟨left, [], HH.out.2.2.1.mono (by exact bel_alloc (bel_refl w) _), HASD.out, hlen, by simp, HH.out.2.2.2, Lib.hid (World.ownsRow_nil _ _ _ _), Lib.hid (by simpa using HR.out), bel_alloc (bel_refl w) _, Blk.new _ _ _⟩
  case round =>
    obtain ⟨lf, out, hsl, hasd, hl60, hlo, hlr, hO, hrun, hbel, hbox⟩ := hrel
    have HSL := Lib.hid hsl
    have hr0 := hbox.row
    have c0 := hbox.cell
    have l0 := hbox.lt
    refine Veil.out ?_
    obtain ⟨p2, c2, rfl, hc2, hcm2, _⟩ := hsl
    refine Veil.on ?_
    rw [List.length_map] at *
    by_cases hlt : 0 < lf.length
    · go_wp2_with fail
      refine (free_spec wr (HH.out.1.grow hbel) _ lf HSL.out hlr).mono ?_
      rintro e w1 ⟨bl, bt, rfl, hF, hb1⟩
      have HF := Lib.hid hF; clear hF
      go_wp2_with fail
      refine (Collect_spec HF.out (by omega)).mono ?_
      rintro e w2 ⟨u2, rfl, hO2, hb2⟩
      have hB2 : Below w.heap.size w w2 := bel_trans (bel_trans hbel hb1) hb2
      have hbx2 := (hbox.grow hb1).grow hb2
      have hb12 := bel_trans hb1 hb2
      have HO2 := Lib.hid hO2; clear hO2 hb2
      have hne := freeUpto_ne (depI (cellsOf l acts)) lf lf.length hlt
      generalize hfr : freeUpto (depI (cellsOf l acts)) lf lf.length = fr at hne HO2
      refine Veil.out ?_
      obtain ⟨x0, xs, rfl⟩ : ∃ x0 xs, fr = x0 :: xs := by
        cases fr with
        | nil => exact absurd rfl hne
        | cons a b => exact ⟨a, b, rfl⟩
      refine Veil.on ?_
      have hmemf : ∀ x ∈ x0 :: xs, 0 ≤ x ∧ x < acts.length := fun x hx => hlr x (freeUpto_mem (depI (cellsOf l acts)) lf lf.length (Nat.le_refl _) x (by rw [hfr]; exact hx))
      have hil := minF_left (f := cmpN acts) hfr
      have hstep := leastI_step (f := cmpN acts) hfr hlt
      have hmin := MinFunc147 u2 (x0 :: xs) (.pointer (some ⟨w.heap.size, 0, none⟩)) (cmpN acts) x0 w2 HO2.out.sl rfl (fun w' hw' x hx y hy => least1' w' (HH.out.1.grow (bel_trans hB2 hw')) (HH.out.2.1.mono (bel_trans hB2 hw')) w.heap.size ((hbx2.grow hw').cell 0) x y (hmemf x hx) (hmemf y hy))
      have e1 : (x0 :: xs).drop 1 = xs := rfl
      rw [e1] at hmin
      have hir := hlr _ hil
      have hflt := filter_lt hil
      generalize minF (cmpN acts) x0 xs = i at hmin hil hstep hir hflt
      have HM := Lib.hid hmin; clear hmin hmemf e1 hfr
      have HIL := Lib.hid (And.intro hil hstep); clear hil hstep
      go_wp2_with fail
      refine HM.out.mono ?_
      rintro e w3 ⟨rfl, hb3⟩
      have hB3 : Below w.heap.size w w3 := bel_trans hB2 hb3
      have hbx3 := hbx2.grow hb3
      have hbr := bel_trans hb12 hb3
      have HO3 := Lib.hid (own_grow hO.out hbr)
      have HSL3 := Lib.hid (HSL.out.mono hbr)
      refine Veil.out ?_
      obtain ⟨k, rfl⟩ : ∃ k : Nat, i = (k : Int) := ⟨i.toNat, by omega⟩
      refine Veil.on ?_
      have hkl : k < acts.length := by omega
      have hk : acts[k]? = some (acts[k]'hkl) := by simp
      have hA3 := HA.out (by omega)
      have hcs := ac_cells (hA3.2.2.2.mono hB3 hA3.2.2.2.1) hk
      have hav := hA3.1
      subst hav
      have cp3 : ∀ o, w3.cell? ⟨bp, o, none⟩ = (pastC blank v (.slice (some ⟨ab, aoff, none⟩) acts.length ac) dv s.1 s.2)[o]? := fun o => (hB3.cell (p := ⟨bp, o, none⟩) lp).trans (cp o)
      have lp3 : bp < w3.heap.size := Nat.lt_of_lt_of_le lp hB3.size
      have cb3 := hbx3.cell
      have lb3 := hbx3.lt
      generalize hx : acts[k]'hkl = x at hcs
      have a0 := hcs.1
      have a1 := hcs.2.1
      have a2 := hcs.2.2.1
      have a3 := hcs.2.2.2.1
      have a4 := hcs.2.2.2.2.1
      have a5 := hcs.2.2.2.2.2.1
      have a6 := hcs.2.2.2.2.2.2.1
      have a7 := hcs.2.2.2.2.2.2.2.1
      have a8 := hcs.2.2.2.2.2.2.2.2.1
      have a9 := hcs.2.2.2.2.2.2.2.2.2
      clear hcs HM c0 l0 cp hr0
      have lab : ab < w3.heap.size := Nat.lt_of_lt_of_le hA3.2.2.2.1 hB3.size
      have hac := hA3.2.1
      have hacm := hA3.2.2.1
      clear hA3
      have HX := Lib.hid hx; clear hx hk
      have hzz := hB3.size
      have HO4 := HO3
      go_wp2_with (first
        | (at_builtin; refine wpList_append_own _ rfl _ _ 28 rfl (w.heap.size + 1) 46 i0 (.agg #[.int .u8 0, .int .i64 0, .int .u64 0, .int .u64 0, .int .u64 0, .int .u64 0, .int .u64 0, .int .u64 0, .int .u64 0, .int .u64 0]) 10 80 Tryz.underlying28 HI0.out.1 HI0.out.2.1 HI0.out.2.2.1 HI0.out.2.2.2 rfl (by decide) _ _ _ rfl (HO3.out.alloc _) ⟨w3.heap.size, 0, none⟩ 1 1 (acL x) rfl rfl (cells_new _ _ _) (fun z hz => by simp at hz; rcases hz with rfl | rfl | rfl | rfl | rfl | rfl | rfl | rfl | rfl | rfl <;> rfl) (by unfold maxLen; simp; omega) (by simp; omega) (by simp; omega) ?_; intro v' w4 hown' hgrow4 hnil4))
      have hB4 : Below w.heap.size w w4 := (bel_alloc hB3 _).grown hgrow4 (by simp; omega) (fun j hj => by have := (HO3.out.lt j hj).1; omega)
      have hsa := SlI.app (HSL3.out.mono (bel_alloc (bel_refl w3) _)) (((hasd hlt).grow hbr).grow (bel_alloc (bel_refl w3) _)) (HO3.out.alloc _) hgrow4
      have hbx4 : Blk w4 w.heap.size #[.pointer (some ⟨bp, 0, none⟩)] 101 := (hgrow4.block w.heap.size (by simp; omega) (fun e => by have := (HO3.out.lt w.heap.size e.symm).1; omega)).trans (hbx3.alloc _)
      have hgn : SlI (w4.alloc (.cells #[.int .i64 k] 3)) (.slice (some ⟨w4.heap.size, 0, none⟩) 1 1) [(k : Int)] := OwnI.sl (base := w4.heap.size) (World.ownsRow_lit (e := 3) (size := 1) (base := w4.heap.size) w4 #[.int .i64 k] 1 (Nat.le_refl _) (by unfold maxLen; omega) rfl)
      have hwo := without_spec _ _ lf [(k : Int)] _ (hsa.1.mono (bel_alloc (bel_refl w4) _)) hgn (by omega)
      have HW := Lib.hid hwo; clear hwo hgn
      have HO5 := Lib.hid hown'
      clear hown' hgrow4 hnil4
      have hsz4 := hB4.size
      refine HW.out.mono ?_
      rintro e w5 ⟨u5, rfl, hO5, hb5⟩
      have hb45 : Below w4.heap.size w4 w5 := bel_trans (bel_alloc (bel_refl w4) _) hb5
      have HN5 := Lib.hid (And.intro hO5 (And.intro (own_grow HO5.out hb45) (And.intro (bel_trans hB4 hb45) (hbx4.grow hb45))))
      clear hO5 hb5 hb45 hsa hbx4
      have hown5 : OwnA w5 (w.heap.size + 1) v' (actsAt acts (out ++ [(k : Int)])) := by
        have e : actsAt acts (out ++ [(k : Int)]) = actsAt acts out ++ [x] := by simp [actsAt, ← HX.out, hkl]
        rw [e]
        have := HN5.out.2.1
        unfold OwnA
        rw [List.length_append, List.map_append, List.flatten_append]
        simpa using this
      have hrun5 : (out ++ [(k : Int)]) ++ leastI (depI (cellsOf l acts)) (cmpN acts) (lf.filter fun y => !([(k : Int)].contains y)).length (lf.filter fun y => !([(k : Int)].contains y)) = res := by
        rw [← hrun.out, HIL.out.2, List.append_assoc]; rfl
      have hlen5 := HN5.out.1.len
      have H5 := Lib.hid (And.intro hown5 (And.intro hrun5 (And.intro hlen5 hflt))); clear hown5 hrun5 hlen5 hflt
      go_wp2_with fail
      go_roundw
      case rel => exact ⟨_, out ++ [(k : Int)], HN5.out.1.sl, fun _ => HN5.out.1.aside, Nat.le_trans (Nat.le_of_lt H5.out.2.2.2) hl60, by have := H5.out.2.2.2; rw [List.length_append, List.length_singleton]; omega, fun y hy => hlr y (List.mem_filter.1 hy).1, H5.out.1, H5.out.2.1, HN5.out.2.2.1, HN5.out.2.2.2⟩
      case measure =>
        have h1 := H5.out.2.2.1
        have h2 := H5.out.2.2.2
        show sliceLen u5 < lf.length
        omega
    · have hz : lf = [] := List.eq_nil_of_length_eq_zero (by omega)
      subst hz
      have hr := hrun.out
      have e0 : leastI (depI (cellsOf l acts)) (cmpN acts) ([] : List Int).length [] = [] := rfl
      rw [e0, List.append_nil] at hr
      have HE := Lib.hid hr; clear hr e0
      go_wp2_with fail
      go_ret
      refine ⟨_, rfl, ?_, hbel⟩
      rw [← HE.out]
      exact own_weak hO.out (by omega)
end Go.Proofs.YtccnkebkgegohaaGreatDoor
end
section
namespace Go.Proofs.YtccnkebkgegohaaGreatDoor
open Go.RowKit Go.Rel
set_option maxRecDepth 100000
/-- the least list of all acts -/
def normalM (l : List Sol) (acts : List Ac) : List Ac := actsAt acts (leastI (depI (cellsOf l acts)) (cmpN acts) (upto acts.length).length (upto acts.length))
theorem upto_range {n : Nat} : ∀ x ∈ upto n, 0 ≤ x ∧ x < n := by
  intro x hx
  obtain ⟨i, hi, rfl⟩ := List.mem_map.1 hx
  have := List.mem_range.1 hi
  omega
theorem leastI_len {dep : Int → Int → Bool} {f : Int → Int → Int} : ∀ (n : Nat) (left : List Int), (leastI dep f n left).length ≤ n
  | 0, _ => Nat.le_refl _
  | n + 1, left => by
    rw [leastI_succ]
    cases freeUpto dep left left.length with
    | nil => exact Nat.zero_le _
    | cons x xs => simp only [List.length_cons]; exact Nat.succ_le_succ (leastI_len n _)
set_option maxHeartbeats 2000000 in
theorem Normal_bad {blank : Sol} {v av : Value} {l : List Sol} {acts : List Ac} {x : Nat × Int} (h : begunM blank l acts = .inl x) (w : World) (Hv : SlS w v l) (Hav : SlA w av acts) :
    Calls Tryz.prog 55 #[.agg #[.int .u64 (pl blank 0), .int .u64 (pl blank 1), .int .u64 (pl blank 2), .int .u64 (pl blank 3), .int .u64 (pl blank 4), .int .u64 (pl blank 5), .int .u64 (pl blank 6), .int .u64 (pl blank 7), v, av]] w fun e w' => e = .returned (.tuple #[.agg #[.int .u64 0, .int .u64 0, .int .u64 0, .int .u64 0, .int .u64 0, .int .u64 0, .int .u64 0, .int .u64 0, .slice none 0 0, .slice none 0 0], .int .i64 x.2]) ∧ Below w.heap.size w w' := by
  have H := Lib.hid fun w' (hb : Below w.heap.size w w') => begun_bad h w' (Hv.mono hb) (Hav.mono hb)
  have hne := begunM_bad h
  clear h Hv Hav
  go_enter Tryz.func55, Tryz.ntmps55
  go_wp2_with fail
  refine (H.out _ (by repeat (first | with_reducible exact bel_refl _ | with_reducible assumption | with_reducible refine bel_drewN ?_ _ | with_reducible refine bel_drew ?_ | with_reducible refine bel_alloc ?_ _ | with_reducible refine bel_row ?_ ?_ _ | with_reducible refine bel_set ?_ ?_ _ | refine bel_trans ?_ (by with_reducible assumption) | (simp; done) | (simp; omega)))).mono ?_
  rintro e w1 ⟨rfl, hb⟩
  have b1 : Blk w1 (w.heap.size + 1) #[.int .u64 0, .int .u64 0, .int .u64 0, .int .u64 0, .int .u64 0, .int .u64 0, .int .u64 0, .int .u64 0, .slice none 0 0, .slice none 0 0] 30 := Blk.grow (by repeat (first | with_reducible assumption | (refine Blk.at _ _ ?_; (simp; done)) | with_reducible refine Blk.alloc ?_ _ | with_reducible refine Blk.drew ?_ | with_reducible refine Blk.rowS ?_ _ | with_reducible refine Blk.rowO ?_ _ (by simp))) hb
  have r1 := b1.row
  rw [← b1.rw]
  clear b1
  go_wp2_with fail
  refine bodyPost_ret (by simp [results, Tryz.results55, go_sem, *]) rfl ⟨rfl, (by repeat (first | with_reducible exact bel_refl _ | with_reducible assumption | with_reducible refine bel_drewN ?_ _ | with_reducible refine bel_drew ?_ | with_reducible refine bel_alloc ?_ _ | with_reducible refine bel_row ?_ ?_ _ | with_reducible refine bel_set ?_ ?_ _ | refine bel_trans ?_ (by with_reducible assumption) | (simp; done) | (simp; omega)))⟩
end Go.Proofs.YtccnkebkgegohaaGreatDoor
end
section
namespace Go.Proofs.YtccnkebkgegohaaGreatDoor
open Go.RowKit Go.Rel
set_option maxRecDepth 100000
set_option maxHeartbeats 4000000 in
theorem Normal_good {blank : Sol} {v av : Value} {l : List Sol} {acts : List Ac} {s : Stn} (h : begunM blank l acts = .inr s) (w : World) (Hv : SlS w v l) (Hav : SlA w av acts) :
    Calls Tryz.prog 55 #[.agg #[.int .u64 (pl blank 0), .int .u64 (pl blank 1), .int .u64 (pl blank 2), .int .u64 (pl blank 3), .int .u64 (pl blank 4), .int .u64 (pl blank 5), .int .u64 (pl blank 6), .int .u64 (pl blank 7), v, av]] w fun e w' => ∃ pv bv, e = .returned (.tuple #[.agg #[.int .u64 (pl blank 0), .int .u64 (pl blank 1), .int .u64 (pl blank 2), .int .u64 (pl blank 3), .int .u64 (pl blank 4), .int .u64 (pl blank 5), .int .u64 (pl blank 6), .int .u64 (pl blank 7), pv, bv], .int .i64 0]) ∧ OwnS w' w.heap.size pv l ∧ OwnA w' w.heap.size bv (normalM l acts) ∧ Below w.heap.size w w' := by
  have H := Lib.hid fun w' (hb : Below w.heap.size w w') => begun_good h w' (Hv.mono hb) (Hav.mono hb)
  have hg := begunM_good h
  have h8 := chkPat_ok hg.1
  have hn := hg.2.1
  have HV := Lib.hid (And.intro Hv Hav)
  clear h Hv Hav hg
  go_enter Tryz.func55, Tryz.ntmps55
  go_wp2_with fail
  refine (H.out _ (by repeat (first | with_reducible exact bel_refl _ | with_reducible assumption | with_reducible refine bel_drewN ?_ _ | with_reducible refine bel_drew ?_ | with_reducible refine bel_alloc ?_ _ | with_reducible refine bel_row ?_ ?_ _ | with_reducible refine bel_set ?_ ?_ _ | refine bel_trans ?_ (by with_reducible assumption) | (simp; done) | (simp; omega)))).mono ?_
  rintro e w1 ⟨bp, rfl, hbp, hP, hb⟩
  have b1 : Blk w1 (w.heap.size + 1) #[.int .u64 0, .int .u64 0, .int .u64 0, .int .u64 0, .int .u64 0, .int .u64 0, .int .u64 0, .int .u64 0, .slice none 0 0, .slice none 0 0] 30 := Blk.grow (by repeat (first | with_reducible assumption | (refine Blk.at _ _ ?_; (simp; done)) | with_reducible refine Blk.alloc ?_ _ | with_reducible refine Blk.drew ?_ | with_reducible refine Blk.rowS ?_ _ | with_reducible refine Blk.rowO ?_ _ (by simp))) hb
  have hB1 : Below w.heap.size w w1 := bel_trans (by repeat (first | with_reducible exact bel_refl _ | with_reducible assumption | with_reducible refine bel_drewN ?_ _ | with_reducible refine bel_drew ?_ | with_reducible refine bel_alloc ?_ _ | with_reducible refine bel_row ?_ ?_ _ | with_reducible refine bel_set ?_ ?_ _ | refine bel_trans ?_ (by with_reducible assumption) | (simp; done) | (simp; omega))) hb
  have HP1 := Lib.hid hP; clear hP
  have hs1 := hb.size
  simp only [World.size_alloc] at hs1
  clear hb hbp
  go_wp2_with fail
  refine (indices_spec w1 HP1.out hn).mono ?_
  rintro e w2 ⟨u2, rfl, hO2, hb2⟩
  have HO2 := Lib.hid hO2; clear hO2
  have hB2 : Below w.heap.size w w2 := bel_trans hB1 hb2
  have HP2 := Lib.hid (HP1.out.grow hb2)
  have b2 := b1.grow hb2
  have hs2 := hb2.size
  clear hb2 b1
  go_wp2_with fail
  refine (least_spec w2 HP2.out (HV.out.2.mono hB2) hn u2 (upto acts.length) HO2.out.sl upto_range (by rw [upto_length]; exact hn)).mono ?_
  rintro e w3 ⟨o3, rfl, hO3, hb3⟩
  have HO3 := Lib.hid hO3; clear hO3
  have hB3 : Below w.heap.size w w3 := bel_trans hB2 hb3
  have HP3 := Lib.hid (HP2.out.grow hb3)
  have b3 := b2.grow hb3
  have hs3 := hb3.size
  clear hb3 b2
  go_wp2_with fail
  refine (with_spec w3 HP3.out (HV.out.1.mono hB3) h8 o3 (normalM l acts) HO3.out.sl (by unfold normalM; rw [List.length_map]; exact Nat.le_trans (leastI_len _ _) (by rw [upto_length]; omega))).mono ?_
  rintro e w4 ⟨pv, bv, rfl, hS, hA, hb4⟩
  have hB4 : Below w.heap.size w w4 := bel_trans hB3 hb4
  have b4 := b3.grow hb4
  have HS := Lib.hid (And.intro hS hA)
  refine Veil.out ?_
  obtain ⟨p, c, hp, _, _⟩ := own_shape' hS
  obtain ⟨p', c', hp', _, _⟩ := own_shape' hA
  subst hp
  subst hp'
  refine Veil.on ?_
  clear hS hA hb4 b3
  have r1 := b4.row
  rw [← b4.rw]
  clear b4
  go_wp2_with fail
  refine bodyPost_ret (by simp [results, Tryz.results55, go_sem, *]) rfl ⟨_, _, rfl, own_weak (own_row (bp := w.heap.size + 1) HS.out.1 (by omega) _) (by omega), own_weak (own_row (bp := w.heap.size + 1) HS.out.2 (by omega) _) (by omega), (by repeat (first | with_reducible exact bel_refl _ | with_reducible assumption | with_reducible refine bel_drewN ?_ _ | with_reducible refine bel_drew ?_ | with_reducible refine bel_alloc ?_ _ | with_reducible refine bel_row ?_ ?_ _ | with_reducible refine bel_set ?_ ?_ _ | refine bel_trans ?_ (by with_reducible assumption) | (simp; done) | (simp; omega)))⟩
end Go.Proofs.YtccnkebkgegohaaGreatDoor
end
