import Derived.Test.YtccnkebkgegohaaGreatDoorG15
import Derived.Laws.AppendOwnNone
/-
  Given contracts of functions of the program, and laws for them, one behind the other.
-/
set_option linter.unusedVariables false
set_option linter.unusedSimpArgs false
set_option linter.unusedSectionVars false
section
namespace Go.Proofs.YtccnkebkgegohaaGreatDoor
open Go.RowKit Go.Rel
set_option maxRecDepth 100000
/-- a list of acts in memory whose nil is the plain nil -/
def SlN (w : World) (v : Value) (l : List Ac) : Prop := SlA w v l ∧ ∀ n c, v = .slice none n c → c = 0
theorem OwnA.sln {W : World} {base : Nat} {v : Value} {l : List Ac} (h : OwnA W base v l) : SlN W v l :=
 ⟨h.sl, fun n c e => by
  rcases h.2 with ⟨h1, _⟩ | ⟨g, cap, cur, h1, _⟩
  ·rw [h1] at e; cases e; rfl
  ·rw [h1] at e; cases e⟩
theorem SlN.mono {w w' : World} {v : Value} {l : List Ac} (h : SlN w v l) (hb : Below w.heap.size w w') : SlN w' v l := ⟨h.1.mono hb, h.2⟩
/-- what an append reads of such a list -/
theorem SlN.opn {w : World} {v : Value} {l : List Ac} (h : SlN w v l) : (v = .slice none 0 0 ∧ l = []) ∨ ∃ p c, v = .slice (some p) l.length c ∧ ∀ W', Below w.heap.size w W' → ∀ j u, ((l.map acL).flatten)[j]? = some u → W'.cell? (p.add j) = some u := by
 obtain ⟨⟨a, c, hv, hc, hcm, hcells⟩, hn⟩ := h
 rw [List.length_map] at hv
 rcases hcells with h | ⟨b, off, ha, hcs⟩
 ·have hl : l = [] := by simpa using h
  subst hl
  cases a with
  | none =>
   have := hn _ _ hv
   subst this
   exact .inl ⟨hv, rfl⟩
  | some p => exact .inr ⟨p, c, hv, fun W' _ j u hu => by simp at hu⟩
 ·subst ha
  exact .inr ⟨_, c, hv, fun W' hb => (hcs.mono hb hcs.1).flat (fun r hr => by obtain ⟨i, _, rfl⟩ := List.mem_map.1 hr; rfl)⟩
theorem acFlat_len (l : List Ac) : ((l.map acL).flatten).length = l.length * 10 := by
 have := flat_len (size := 10) (l.map acL) (fun r hr => by obtain ⟨i, _, rfl⟩ := List.mem_map.1 hr; rfl)
 rwa [List.length_map] at this
/-- lists of acts, one behind the other -/
def catM (ps : List (Value × List Ac)) : List Ac := (ps.map (·.2)).flatten
theorem catM_succ {ps : List (Value × List Ac)} {k : Nat} {p : Value × List Ac} (h : ps[k]? = some p) : catM (ps.take (k + 1)) = catM (ps.take k) ++ p.2 := by
 obtain ⟨hk, rfl⟩ := List.getElem?_eq_some_iff.1 h
 unfold catM
 rw [List.take_succ_eq_append_getElem hk, List.map_append, List.flatten_append]
 simp only [List.map_cons, List.map_nil, List.flatten_cons, List.flatten_nil, List.append_nil]
theorem catM_le {ps : List (Value × List Ac)} (k : Nat) : (catM (ps.take k)).length ≤ (catM ps).length := by
 have : catM ps = catM (ps.take k) ++ catM (ps.drop k) := by
  unfold catM
  rw [← List.flatten_append, ← List.map_append, List.take_append_drop]
 rw [this, List.length_append]; omega
set_option maxHeartbeats 8000000 in
theorem Concat_spec (v : Value) (ps : List (Value × List Ac)) (w : World) (hv : Sl w 1 v (ps.map fun p => [p.1])) (hp : ∀ p ∈ ps, SlN w p.1 p.2) (hm : (catM ps).length ≤ 1048576) :
  Calls Tryz.prog 24 #[v] w fun e w' => ∃ u, e = .returned u ∧ OwnA w' w.heap.size u (catM ps) ∧ Below w.heap.size w w' := by
 obtain ⟨i0, hi, hz0, hz1, hz2⟩ := info_parts info46
 have HI0 := Lib.hid (And.intro hi (And.intro hz0 (And.intro hz1 hz2))); clear hi hz0 hz1 hz2
 have hmf' := hmf
 rcases hv.cases with ⟨hl, a, c, rfl, hcm⟩ | ⟨b, off, c, rfl, hc, hcm, hpos, hcs⟩
 ·have hl' : ps = [] := by simpa using hl
  subst hl'
  have HG := Lib.hid (GrowAc_nil 0 w (by omega))
  clear hl hv hp hm
  go_enter Tryz.func24, Tryz.ntmps24
  go_wp2_with fail
  refine wp_loop_rounds 1 ?_
  rw [rounds_succ]
  go_wp2_with fail
  refine HG.out.mono ?_
  rintro e w1 ⟨u, rfl, hO, hb⟩
  have HO := Lib.hid (And.intro hO hb); clear hO hb
  go_wp2_with fail
  refine wp_loop_rounds 1 ?_
  rw [rounds_succ]
  go_wp2_with fail
  go_ret
  exact ⟨_, rfl, HO.out.1, HO.out.2⟩
 ·rw [List.length_map] at hc hpos ⊢
  have HCS : Hid (∀ (k : Nat) (p : Value × List Ac), ps[k]? = some p → ∀ W', Below w.heap.size w W' → W'.cell? ⟨b, off + k, none⟩ = some p.1) := Lib.hid fun k p hk W' hb => by
   have := (hcs.mono hb hcs.1).2 k 0 p.1 (by simp [hk])
   simpa using this
  have lb := hcs.1
  have HP := Lib.hid hp
  have HLE := Lib.hid (catM_le (ps := ps))
  have HM := Lib.hid hm
  clear hcs hv hp hm
  generalize hn : ps.length = n at *
  have HN := Lib.hid hn; clear hn
  go_enter Tryz.func24, Tryz.ntmps24
  go_wp2_with fail
  go_loopw [3, 11] (fun z y wr => ∃ k : Nat, k ≤ n ∧ y = .int .i64 k ∧ z = .int .i64 ((catM (ps.take k)).length : Nat) ∧ wr = w) (fun _ y _ => n - (intOf y).toNat)
  case atStart => exact ⟨0, Nat.zero_le _, rfl, by simp [catM], rfl⟩
  case round =>
   obtain ⟨k, hk, rfl, rfl, rfl⟩ := hrel
   by_cases hlt : k < n
   ·have hkl : k < ps.length := by rw [HN.out]; exact hlt
    have hx : ps[k]? = some (ps[k]'hkl) := by simp
    have c0 := HCS.out k _ hx _ (Below.refl _ _)
    have hsl := HP.out _ (List.getElem_mem hkl)
    have hs := catM_succ hx
    have hle1 := HLE.out (k + 1)
    have hle0 := HLE.out k
    have hmm := HM.out
    generalize ps[k]'hkl = p at c0 hsl hs
    have hlen := congrArg List.length hs
    rw [List.length_append] at hlen
    obtain ⟨pa, pc, hpv⟩ : ∃ a c, p.1 = .slice a p.2.length c := by obtain ⟨⟨a, c, h, _⟩, _⟩ := hsl; exact ⟨a, c, by rw [h, List.length_map]⟩
    rw [hpv] at c0
    have HS := Lib.hid (And.intro hs hlen)
    have hb1 : (catM (ps.take k)).length + p.2.length ≤ 1048576 := by omega
    clear hx hsl hs hlen hpv hle1 hle0 hmm hkl
    generalize (catM (ps.take k)).length = q at *
    generalize p.2.length = r at *
    go_wp2_with fail
    go_roundw
    case rel => exact ⟨k + 1, by omega, by go_num, by rw [HS.out.2]; go_num, trivial⟩
    case measure => simp [intOf]; omega
   ·have hkn : k = n := by omega
    subst hkn
    have hall : ps.take k = ps := List.take_of_length_le (by rw [HN.out]; exact Nat.le_refl _)
    rw [hall]
    have HALL := Lib.hid hall; clear hall
    have hmm := HM.out
    have HG := Lib.hid (GrowAc_nil (catM ps).length wr hmm)
    generalize (catM ps).length = tot at *
    go_wp2_with fail
    refine HG.out.mono ?_
    rintro e w1 ⟨u0, rfl, hO, hb⟩
    have HO := Lib.hid (And.intro hO hb); clear hO hb
    go_wp2_with fail
    have HB1 : Hid (Below wr.heap.size wr w1) := Lib.hid HO.out.2
    have HO1 : Hid (OwnA w1 wr.heap.size u0 []) := Lib.hid HO.out.1
    clear HO HG
    obtain ⟨w, rfl⟩ : ∃ w : World, w = wr := ⟨_, rfl⟩
    have hsz1 := HB1.out.size
    go_loopw [6, 27] (fun z y wr => ∃ j : Nat, j ≤ k ∧ y = .int .i64 j ∧ Hid (OwnA wr w.heap.size z (catM (ps.take j))) ∧ Below w.heap.size w wr) (fun _ y _ => k - (intOf y).toNat)
    case atStart => exact ⟨0, Nat.zero_le _, rfl, HO1, HB1.out⟩
    case round =>
     obtain ⟨j, hj, rfl, hO, hbel⟩ := hrel
     by_cases hjt : j < k
     ·have hkl : j < ps.length := by rw [HN.out]; exact hjt
      have hx : ps[j]? = some (ps[j]'hkl) := by simp
      have c0 := HCS.out j _ hx _ hbel
      have lb' : b < wr.heap.size := Nat.lt_of_lt_of_le lb hbel.size
      have hsl := (HP.out _ (List.getElem_mem hkl)).mono hbel
      have hs := catM_succ hx
      have hle1 := HLE.out (j + 1)
      have hmm := HM.out
      generalize ps[j]'hkl = p at c0 hsl hs
      have hlen := congrArg List.length hs
      rw [List.length_append] at hlen
      have hb1 : (catM (ps.take j)).length + p.2.length ≤ 1048576 := by omega
      have HS := Lib.hid hs
      have hszr := hbel.size
      clear hx hs hle1 hmm hkl hlen
      generalize hC : catM (ps.take j) = C at hO hb1 HS
      clear hC
      rcases hsl.opn with ⟨hv0, hl0⟩ | ⟨q, pc, hv0, hcells⟩
      ·rw [hv0] at c0
       have HS2 : Hid (catM (ps.take (j + 1)) = C) := Lib.hid (by rw [HS.out, hl0, List.append_nil])
       clear hsl hv0 hl0 HS hb1
       go_wp2_with (at_builtin; refine wpList_append_own_none rfl _ _ 28 rfl w.heap.size 46 i0 10 Tryz.underlying28 HI0.out.1 _ _ _ rfl hO.out rfl ?_)
       go_roundw
       case rel => exact ⟨j + 1, by omega, by go_num, Lib.hid (by rw [HS2.out]; exact hO.out), hbel⟩
       case measure => simp [intOf]; omega
      ·rw [hv0] at c0
       have hfl := acFlat_len p.2
       have HC := Lib.hid (And.intro hcells hfl)
       have HON := Lib.hid (one_ac (l := p.2))
       clear hsl hv0 hcells hfl
       go_wp2_with (at_builtin; refine wpList_append_own _ rfl _ _ 28 rfl w.heap.size 46 i0 (.agg #[.int .u8 0, .int .i64 0, .int .u64 0, .int .u64 0, .int .u64 0, .int .u64 0, .int .u64 0, .int .u64 0, .int .u64 0, .int .u64 0]) 10 80 Tryz.underlying28 HI0.out.1 HI0.out.2.1 HI0.out.2.2.1 HI0.out.2.2.2 rfl (by decide) _ _ _ rfl hO.out q p.2.length pc ((p.2.map acL).flatten) rfl HC.out.2 (HC.out.1 _ (Below.refl _ _)) HON.out (by unfold maxLen; omega) (by omega) (by omega) ?_; intro v' w3 hown' hgrow3 hnil3)
       have hB3 : Below w.heap.size w w3 := hbel.grown hgrow3 (by omega) (fun i hi => (hO.out.lt i hi).1)
       have HO3 := Lib.hid (And.intro hown' hB3); clear hown' hB3 hgrow3 hnil3
       go_wp2_with fail
       go_roundw
       case rel => exact ⟨j + 1, by omega, by go_num, Lib.hid (by rw [HS.out]; unfold OwnA; rw [List.length_append, List.map_append, List.flatten_append]; exact HO3.out.1), HO3.out.2⟩
       case measure => simp [intOf]; omega
     ·have hjk : j = k := by omega
      subst hjk
      go_wp2_with fail
      go_ret
      exact ⟨_, rfl, by rw [← HALL.out]; exact hO.out, hbel⟩
end Go.Proofs.YtccnkebkgegohaaGreatDoor
end
section
namespace Go.Proofs.YtccnkebkgegohaaGreatDoor
open Go.RowKit Go.Rel
set_option maxRecDepth 100000
/-! the greatest common beginning, by numbers -/
def pairM (p : Int → Int → Bool) (fa fb : List Int) : Option (Int × Int) := fa.findSome? fun i => (fb.find? (p i)).map fun j => (i, j)
theorem pairM_none {p : Int → Int → Bool} {fa fb : List Int} (h : ∀ i ∈ fa, ∀ j ∈ fb, p i j = false) : pairM p fa fb = none := by
 unfold pairM
 rw [List.findSome?_eq_none_iff]
 intro i hi
 rw [Option.map_eq_none_iff, List.find?_eq_none]
 intro j hj
 rw [h i hi j hj]; decide
theorem find_at {p : Int → Bool} : ∀ {qre : List Int} {y : Int} {r : List Int}, (∀ j ∈ qre, p j = false) → p y = true → (qre ++ y :: r).find? p = some y
 | [], y, r, _, h => by simp [h]
 | j :: qre, y, r, hq, h => by
  rw [List.cons_append, List.find?_cons, hq j (List.mem_cons_self ..)]
  exact find_at (fun k hk => hq k (List.mem_cons_of_mem _ hk)) h
theorem pairM_at {p : Int → Int → Bool} {fb : List Int} {x y : Int} {qre r2 : List Int} (hfb : fb = qre ++ y :: r2) (hq : ∀ j ∈ qre, p x j = false) (hxy : p x y = true) : ∀ {pre r : List Int}, (∀ i ∈ pre, ∀ j ∈ fb, p i j = false) → pairM p (pre ++ x :: r) fb = some (x, y)
 | [], r, _ => by
  unfold pairM
  rw [List.nil_append, List.findSome?_cons, hfb, find_at hq hxy]; rfl
 | i :: pre, r, hp => by
  have h1 : fb.find? (p i) = none := by
   rw [List.find?_eq_none]; intro j hj; rw [hp i (List.mem_cons_self ..) j hj]; decide
  have ih := pairM_at hfb hq hxy (pre := pre) (r := r) (fun k hk => hp k (List.mem_cons_of_mem _ hk))
  unfold pairM at ih ⊢
  rw [List.cons_append, List.findSome?_cons, h1]
  exact ih
theorem freeUpto_prefix {dep : Int → Int → Bool} {left : List Int} {k : Nat} : ∀ {m : Nat}, k ≤ m → ∃ r, freeUpto dep left m = freeUpto dep left k ++ r
  | 0, h => ⟨[], by obtain rfl : k = 0 := by omega
                    simp⟩
  | m + 1, h => by
    by_cases e : k = m + 1
    · subst e; exact ⟨[], by simp⟩
    · obtain ⟨r, hr⟩ := freeUpto_prefix (dep := dep) (left := left) (show k ≤ m by omega)
      rw [freeUpto]
      split
      · exact ⟨r ++ [left.getD m 0], by rw [hr, List.append_assoc]⟩
      · exact ⟨r, hr⟩
def drop1 (la : List Int) (i : Int) : List Int := la.filter fun y => !([i].contains y)
def beyondI (p dS dT : Int → Int → Bool) (act : Int → Ac) : Nat → List Ac → List Int → List Int → List Ac × List Int × List Int
 | 0, cs, la, lb => (cs, la, lb)
 | n + 1, cs, la, lb => match pairM p (freeUpto dS la la.length) (freeUpto dT lb lb.length) with
  | none => (cs, la, lb)
  | some (i, j) => beyondI p dS dT act n (cs ++ [act i]) (drop1 la i) (drop1 lb j)
theorem pairM_mem {p : Int → Int → Bool} {fa fb : List Int} {i j : Int} (h : pairM p fa fb = some (i, j)) : i ∈ fa ∧ j ∈ fb ∧ p i j = true := by
 unfold pairM at h
 obtain ⟨x, hx, h2⟩ := List.exists_of_findSome?_eq_some h
 obtain ⟨y, hy, h3⟩ := Option.map_eq_some_iff.1 h2
 cases h3
 exact ⟨hx, List.mem_of_find?_eq_some hy, List.find?_some hy⟩
theorem beyondI_none {p dS dT : Int → Int → Bool} {act : Int → Ac} {la lb : List Int} (h : pairM p (freeUpto dS la la.length) (freeUpto dT lb lb.length) = none) (n : Nat) (cs : List Ac) : beyondI p dS dT act n cs la lb = (cs, la, lb) := by
 cases n with
 | zero => rfl
 | succ n => rw [beyondI, h]
theorem drop1_lt {la : List Int} {i : Int} (h : i ∈ la) : (drop1 la i).length < la.length := filter_lt h
theorem beyondI_fuel {p dS dT : Int → Int → Bool} {act : Int → Ac} : ∀ (n : Nat) (cs : List Ac) (la lb : List Int), la.length ≤ n → beyondI p dS dT act n cs la lb = beyondI p dS dT act la.length cs la lb
 | 0, cs, la, lb, h => by
  have : la = [] := List.eq_nil_of_length_eq_zero (by omega)
  subst this; rfl
 | n + 1, cs, la, lb, h => by
  cases ht : pairM p (freeUpto dS la la.length) (freeUpto dT lb lb.length) with
  | none => rw [beyondI_none ht, beyondI_none ht]
  | some ij =>
   obtain ⟨i, j⟩ := ij
   have hm := freeUpto_mem dS la la.length (Nat.le_refl _) _ (pairM_mem ht).1
   have hlt := drop1_lt hm
   obtain ⟨k, hk⟩ : ∃ k, la.length = k + 1 := ⟨la.length - 1, by omega⟩
   have e1 : beyondI p dS dT act (n + 1) cs la lb = beyondI p dS dT act n (cs ++ [act i]) (drop1 la i) (drop1 lb j) := by rw [beyondI, ht]
   have e2 : beyondI p dS dT act la.length cs la lb = beyondI p dS dT act k (cs ++ [act i]) (drop1 la i) (drop1 lb j) := by
    have : beyondI p dS dT act la.length cs la lb = beyondI p dS dT act (k + 1) cs la lb := by rw [hk]
    rw [this, beyondI, ht]
   rw [e1, e2, beyondI_fuel n _ _ _ (by omega), beyondI_fuel k _ _ _ (by omega)]
theorem beyondI_step {p dS dT : Int → Int → Bool} {act : Int → Ac} {cs : List Ac} {la lb : List Int} {i j : Int} (h : pairM p (freeUpto dS la la.length) (freeUpto dT lb lb.length) = some (i, j)) :
  beyondI p dS dT act la.length cs la lb = beyondI p dS dT act (drop1 la i).length (cs ++ [act i]) (drop1 la i) (drop1 lb j) := by
 have hm := freeUpto_mem dS la la.length (Nat.le_refl _) _ (pairM_mem h).1
 have hlt := drop1_lt hm
 obtain ⟨k, hk⟩ : ∃ k, la.length = k + 1 := ⟨la.length - 1, by omega⟩
 have e2 : beyondI p dS dT act la.length cs la lb = beyondI p dS dT act k (cs ++ [act i]) (drop1 la i) (drop1 lb j) := by
  have : beyondI p dS dT act la.length cs la lb = beyondI p dS dT act (k + 1) cs la lb := by rw [hk]
  rw [this, beyondI, h]
 rw [e2, beyondI_fuel k _ _ _ (by omega)]
/-! what beyond has in memory -/
structure BySt (w : World) (h bp bq : Nat) (cs : List Ac) (la lb : List Int) (W : World) : Prop where
 mk ::
 b0 : Blk W h #[.pointer (some ⟨bp, 0, none⟩)] 101
 b1 : Blk W (h + 1) #[.pointer (some ⟨bq, 0, none⟩)] 101
 b2 : ∃ u, Blk W (h + 1 + 1) #[u] 28 ∧ OwnA W (h + 1 + 1 + 1 + 1 + 1) u cs
 b3 : ∃ u, Blk W (h + 1 + 1 + 1) #[u] 104 ∧ OwnI W (h + 1 + 1 + 1 + 1 + 1) u la
 b4 : ∃ u, Blk W (h + 1 + 1 + 1 + 1) #[u] 104 ∧ OwnI W (h + 1 + 1 + 1 + 1 + 1) u lb
 bel : Below h w W
section
variable {w : World} {h bp bq : Nat} {cs : List Ac} {la lb : List Int} {W W' : World}
theorem BySt.grow (H : BySt w h bp bq cs la lb W) (hb : Below W.heap.size W W') : BySt w h bp bq cs la lb W' :=
 ⟨H.b0.grow hb, H.b1.grow hb, let ⟨u, h1, h2⟩ := H.b2; ⟨u, h1.grow hb, own_grow h2 hb⟩, let ⟨u, h1, h2⟩ := H.b3; ⟨u, h1.grow hb, own_grow h2 hb⟩, let ⟨u, h1, h2⟩ := H.b4; ⟨u, h1.grow hb, own_grow h2 hb⟩, H.bel.trans (hb.mono (Nat.le_of_lt H.b0.lt))⟩
theorem Blk.row' {b : Nat} {c : Array Value} {t : TypeId} (H : Blk W b c t) {row : Option Nat} (hg : W.grownBy W' row) (hr : ∀ r, row = some r → ∃ o : Obj, W.heap[r]? = some o ∧ o.isCells = false) : Blk W' b c t := by
 refine (hg.block b H.lt (fun e => ?_)).trans H
 obtain ⟨o, ho, hc⟩ := hr b e.symm
 unfold Blk at H
 rw [H] at ho; cases ho; cases hc
theorem own_row' {base : Nat} {e : TypeId} {size : Nat} {v : Value} {n : Nat} {xs : List Value} (H : W.ownsRow base e size v n xs) {row : Option Nat} (hg : W.grownBy W' row) (hr : ∀ r, row = some r → ∃ o : Obj, W.heap[r]? = some o ∧ o.isCells = false) : W'.ownsRow base e size v n xs := by
 refine ⟨H.1, ?_⟩
 rcases H.2 with h | ⟨g, cap, cur, e1, hb, hgg, rest⟩
 ·exact .inl h
 ·exact .inr ⟨g, cap, cur, e1, hb, Blk.row' (c := cur) (t := e) hgg hg hr, rest⟩
theorem BySt.kept (H : BySt w h bp bq cs la lb W) {row : Option Nat} (hg : W.grownBy W' row) (hr : ∀ r, row = some r → h ≤ r ∧ ∃ o : Obj, W.heap[r]? = some o ∧ o.isCells = false) : BySt w h bp bq cs la lb W' :=
  have hr' : ∀ r, row = some r → ∃ o : Obj, W.heap[r]? = some o ∧ o.isCells = false := fun r e => (hr r e).2
  ⟨H.b0.row' hg hr', H.b1.row' hg hr', let ⟨u, h1, h2⟩ := H.b2; ⟨u, h1.row' hg hr', own_row' h2 hg hr'⟩, let ⟨u, h1, h2⟩ := H.b3; ⟨u, h1.row' hg hr', own_row' h2 hg hr'⟩, let ⟨u, h1, h2⟩ := H.b4; ⟨u, h1.row' hg hr', own_row' h2 hg hr'⟩,
   H.bel.grown hg (Nat.le_of_lt H.b0.lt) (fun k e => (hr k e).1)⟩
theorem bySt_own {β : Type} {B : Nat} (hB : h ≤ B) (f : β → List Ac) (g k : β → List Int) : OwnFrom B (fun (s : β) W => BySt w h bp bq (f s) (g s) (k s) W) := fun _ _ _ _ hs hg hr => hs.kept hg (fun r e => ⟨Nat.le_trans hB (hr r e).1, (hr r e).2⟩)
end
theorem keeps_of_below {B : Nat} {W W' : World} (hb : Below W.heap.size W W') : KeepsFrom B W W' := ⟨hb.size, fun k o _ hk _ => (hb.block k (Array.getElem?_eq_some_iff.1 hk).1).trans hk⟩
theorem keeps_zero {B : Nat} {W W' : World} (h : KeepsFrom 0 W W') : KeepsFrom B W W' := ⟨h.size, fun k o _ => h.same k o (Nat.zero_le _)⟩
end Go.Proofs.YtccnkebkgegohaaGreatDoor
end
section
namespace Go.Proofs.YtccnkebkgegohaaGreatDoor
open Go.RowKit Go.Rel
set_option maxRecDepth 100000
/-- what a step of the region that takes a letter from both may turn -/
structure RBy (h : Nat) (uB : Value) (cs : List Ac) (W W' : World) : Prop where
 mk ::
 bel : Below h W W'
 kept : ∀ j, j < W.heap.size → j ≠ h + 1 + 1 → j ≠ h + 1 + 1 + 1 → j ≠ h + 1 + 1 + 1 + 1 → some j ≠ uB.ownBlock → W'.heap[j]? = W.heap[j]?
 own : ∀ u, OwnA W (h + 1 + 1 + 1 + 1 + 1) u cs → OwnA W' (h + 1 + 1 + 1 + 1 + 1) u cs
 oth : KeepsFrom 0 W W'
section
variable {h : Nat} {uB : Value} {cs : List Ac} {W W' W'' : World}
theorem RBy.refl (W : World) : RBy h uB cs W W := ⟨Below.refl _ _, fun _ _ _ _ _ _ => rfl, fun _ hu => hu, KeepsFrom.refl _ _⟩
theorem RBy.trans (x : RBy h uB cs W W') (y : RBy h uB cs W' W'') : RBy h uB cs W W'' :=
 ⟨x.bel.trans y.bel, fun j hj h1 h2 h3 h4 => (y.kept j (Nat.lt_of_lt_of_le hj x.bel.size) h1 h2 h3 h4).trans (x.kept j hj h1 h2 h3 h4), fun u hu => y.own u (x.own u hu), x.oth.trans y.oth⟩
theorem RBy.grow (hh : h ≤ W.heap.size) (hb : Below W.heap.size W W') : RBy h uB cs W W' :=
 ⟨hb.mono hh, fun j hj _ _ _ _ => hb.block j hj, fun _ hu => own_grow hu hb, keeps_of_below hb⟩
theorem keeps_rows {g : Nat} (hr : Row W g) (a b : Array Value) : KeepsFrom 0 (W.setRow g a) (W.setRow g b) :=
 ⟨by rw [setRow_size, setRow_size]; exact Nat.le_refl _, fun k o _ hk ho => by
  by_cases e : k = g
  ·subst e
   obtain ⟨c, t, hb⟩ := hr
   have := setRow_heap W k c a t (0, 0) hb
   rw [this] at hk; cases hk; cases ho
  ·rw [setRow_other W g k b e, ← setRow_other W g k a e]; exact hk⟩
theorem RBy.rows {g : Nat} (hg : g = h + 1 + 1 ∨ g = h + 1 + 1 + 1 ∨ g = h + 1 + 1 + 1 + 1) (hr : Row W g) (a b : Array Value) : RBy h uB cs (W.setRow g a) (W.setRow g b) :=
  ⟨blw_rows (by omega) a b, fun j _ h1 h2 h3 _ => by
    have hne : j ≠ g := by omega
    exact (setRow_other W g j b hne).trans (setRow_other W g j a hne).symm,
   fun u hu => hu.kept (row := some g) ⟨rfl, rfl, rfl, by rw [setRow_size, setRow_size]; exact Nat.le_refl _, fun j _ hj => (setRow_other W g j b (fun e => hj (by rw [e]))).trans (setRow_other W g j a (fun e => hj (by rw [e]))).symm⟩ (by
     cases e : u.ownBlock with
     | none => exact .inl rfl
     | some k => refine .inr fun hgk => ?_; cases hgk; have := (hu.lt _ e).1; omega), keeps_rows hr a b⟩
end
/-- a list of numbers of one's own, apart from the letters' row -/
def OwnIX (h : Nat) (uB : Value) (la : List Int) (v : Value) (W : World) : Prop := OwnI W (h + 1 + 1 + 1 + 1 + 1) v la ∧ (∀ g, v.ownBlock = some g → uB.ownBlock ≠ some g)
@[irreducible] def VIX (h : Nat) (uB : Value) (la : List Int) (v : Value) (W : World) : Prop := OwnIX h uB la v W
@[irreducible] def New8 (h : Nat) (uB : Value) (x : Ac) (v : Value) (W : World) : Prop := ∃ g, v = .slice (some ⟨g, 0, none⟩) 1 1 ∧ Blk W g (#[.int .u8 x.1, .int .i64 x.2.1, .int .u64 (pl x.2.2 0), .int .u64 (pl x.2.2 1), .int .u64 (pl x.2.2 2), .int .u64 (pl x.2.2 3), .int .u64 (pl x.2.2 4), .int .u64 (pl x.2.2 5), .int .u64 (pl x.2.2 6), .int .u64 (pl x.2.2 7)]) 46 ∧ h + 1 + 1 + 1 + 1 < g ∧ uB.ownBlock ≠ some g
@[irreducible] def NewI (h : Nat) (uB : Value) (i : Int) (v : Value) (W : World) : Prop := ∃ g, v = .slice (some ⟨g, 0, none⟩) 1 1 ∧ Blk W g #[.int .i64 i] 3 ∧ h + 1 + 1 + 1 + 1 < g ∧ uB.ownBlock ≠ some g
@[irreducible] def OwnAX (h : Nat) (cs : List Ac) (v : Value) (W : World) : Prop := OwnA W (h + 1 + 1 + 1 + 1 + 1) v cs
theorem OwnIX.stable {h : Nat} {uB : Value} {cs : List Ac} {la : List Int} (v : Value) (W W' : World) (H : OwnIX h uB la v W) (r : RBy h uB cs W W') : OwnIX h uB la v W' := by
 refine ⟨⟨H.1.1, ?_⟩, H.2⟩
 rcases H.1.2 with h1 | ⟨g, cap, cur, e, hb, hg, rest⟩
 ·exact .inl h1
 ·refine .inr ⟨g, cap, cur, e, hb, ?_, rest⟩
  rw [r.kept g (Array.getElem?_eq_some_iff.1 hg).1 (by omega) (by omega) (by omega) (fun e2 => H.2 g (by rw [e]; rfl) e2.symm)]
  exact hg
theorem VIX.stable {h : Nat} {uB : Value} {cs : List Ac} {la : List Int} (v : Value) (W W' : World) (H : VIX h uB la v W) (r : RBy h uB cs W W') : VIX h uB la v W' := by unfold VIX at *; exact H.stable v W W' r
theorem New8.stable {h : Nat} {uB : Value} {cs : List Ac} {x : Ac} (v : Value) (W W' : World) (H : New8 h uB x v W) (r : RBy h uB cs W W') : New8 h uB x v W' := by
 unfold New8 at *
 obtain ⟨g, e, hb, hg, hu⟩ := H
 exact ⟨g, e, (r.kept g hb.lt (by omega) (by omega) (by omega) (fun e2 => hu e2.symm)).trans hb, hg, hu⟩
theorem NewI.stable {h : Nat} {uB : Value} {cs : List Ac} {i : Int} (v : Value) (W W' : World) (H : NewI h uB i v W) (r : RBy h uB cs W W') : NewI h uB i v W' := by
 unfold NewI at *
 obtain ⟨g, e, hb, hg, hu⟩ := H
 exact ⟨g, e, (r.kept g hb.lt (by omega) (by omega) (by omega) (fun e2 => hu e2.symm)).trans hb, hg, hu⟩
theorem OwnAX.stable {h : Nat} {uB : Value} {cs : List Ac} (v : Value) (W W' : World) (H : OwnAX h cs v W) (r : RBy h uB cs W W') : OwnAX h cs v W' := by unfold OwnAX at *; exact r.own v H
/-- what is known within that region -/
structure InvBy (w : World) (h bp bq : Nat) (uB uA uC : Value) (cs : List Ac) (x : Ac) (la lb la' lb' : List Int) (Bx : Nat) (i : Int) (f9 f18 f19 f20 : Bool) (W : World) : Prop where
 mk ::
 b0 : Blk W h #[.pointer (some ⟨bp, 0, none⟩)] 101
 b1 : Blk W (h + 1) #[.pointer (some ⟨bq, 0, none⟩)] 101
 b2 : ∃ c, Blk W (h + 1 + 1) #[c] 28 ∧ (f18 = false → c = uB) ∧ (f18 = true → OwnAX h (cs ++ [x]) c W)
 b3 : ∃ c, Blk W (h + 1 + 1 + 1) #[c] 104 ∧ (f19 = false → c = uA) ∧ (f19 = true → VIX h uB la' c W)
 b4 : ∃ c, Blk W (h + 1 + 1 + 1 + 1) #[c] 104 ∧ (f20 = false → c = uC) ∧ (f20 = true → VIX h uB lb' c W)
 own : f9 = false → OwnA W (h + 1 + 1 + 1 + 1 + 1) uB cs
 oA : OwnIX h uB la uA W
 oC : OwnIX h uB lb uC W
 bx : Blk W Bx #[.int .i64 i] 3
 hBx : h + 1 + 1 + 1 + 1 < Bx
 uBx : uB.ownBlock ≠ some Bx
 uB5 : ∀ g, uB.ownBlock = some g → h + 1 + 1 + 1 + 1 + 1 ≤ g ∧ g < W.heap.size
 bel : Below h w W
section
variable {w : World} {h bp bq : Nat} {uB uA uC : Value} {cs : List Ac} {x : Ac} {la lb la' lb' : List Int} {Bx : Nat} {i : Int} {f9 f18 f19 f20 : Bool} {W W' : World}
theorem InvBy.grow (H : InvBy w h bp bq uB uA uC cs x la lb la' lb' Bx i f9 f18 f19 f20 W) (hb : Below W.heap.size W W') : InvBy w h bp bq uB uA uC cs x la lb la' lb' Bx i f9 f18 f19 f20 W' :=
  have hh : h ≤ W.heap.size := Nat.le_of_lt H.b0.lt
  have r : RBy h uB (cs ++ [x]) W W' := RBy.grow hh hb
  ⟨H.b0.grow hb, H.b1.grow hb, let ⟨c, h1, h2, h3⟩ := H.b2; ⟨c, h1.grow hb, h2, fun e => (h3 e).stable _ _ _ r⟩, let ⟨c, h1, h2, h3⟩ := H.b3; ⟨c, h1.grow hb, h2, fun e => (h3 e).stable _ _ _ r⟩, let ⟨c, h1, h2, h3⟩ := H.b4; ⟨c, h1.grow hb, h2, fun e => (h3 e).stable _ _ _ r⟩,
   fun e => own_grow (H.own e) hb, H.oA.stable _ _ _ r, H.oC.stable _ _ _ r, H.bx.grow hb, H.hBx, H.uBx, fun g e => ⟨(H.uB5 g e).1, Nat.lt_of_lt_of_le (H.uB5 g e).2 hb.size⟩, H.bel.trans (hb.mono hh)⟩
theorem InvBy.app (H : InvBy w h bp bq uB uA uC cs x la lb la' lb' Bx i false false f19 f20 W) (hg : W.grownBy W' uB.ownBlock) (r : RBy h uB (cs ++ [x]) W W') : InvBy w h bp bq uB uA uC cs x la lb la' lb' Bx i true false f19 f20 W' := by
 have kp : ∀ j, j ≤ h + 1 + 1 + 1 + 1 → j < W.heap.size → W'.heap[j]? = W.heap[j]? := fun j h1 h2 => hg.block j h2 (fun e => by have := (H.uB5 j e.symm).1; omega)
 obtain ⟨c2, p2, q2, _⟩ := H.b2
 obtain ⟨c3, p3, q3, s3⟩ := H.b3
 obtain ⟨c4, p4, q4, s4⟩ := H.b4
 exact ⟨H.b0.kept (kp _ (by omega) H.b0.lt), H.b1.kept (kp _ (by omega) H.b1.lt), ⟨c2, p2.kept (kp _ (by omega) p2.lt), q2, fun e => (by cases e)⟩, ⟨c3, p3.kept (kp _ (by omega) p3.lt), q3, fun e => (s3 e).stable _ _ _ r⟩, ⟨c4, p4.kept (kp _ (by omega) p4.lt), q4, fun e => (s4 e).stable _ _ _ r⟩,
  fun e => (by cases e), H.oA.stable _ _ _ r, H.oC.stable _ _ _ r, H.bx.kept (hg.block _ H.bx.lt (fun e => H.uBx e.symm)), H.hBx, H.uBx, fun g e => ⟨(H.uB5 g e).1, Nat.lt_of_lt_of_le (H.uB5 g e).2 hg.size⟩, H.bel.trans r.bel⟩
theorem InvBy.set18 (H : InvBy w h bp bq uB uA uC cs x la lb la' lb' Bx i true f18 f19 f20 W) {u : Value} (hu : OwnAX h (cs ++ [x]) u W) {c : Value} (hc : Blk W (h + 1 + 1) #[c] 28) : InvBy w h bp bq uB uA uC cs x la lb la' lb' Bx i true true f19 f20 (W.setRow (h + 1 + 1) #[u]) := by
 have r : RBy h uB (cs ++ [x]) W (W.setRow (h + 1 + 1) #[u]) := by
  have := RBy.rows (h := h) (uB := uB) (cs := cs ++ [x]) (W := W) (.inl rfl) hc.row #[c] #[u]
  rwa [hc.rw] at this
 obtain ⟨c3, p3, q3, s3⟩ := H.b3
 obtain ⟨c4, p4, q4, s4⟩ := H.b4
 have hB := H.hBx
 exact ⟨H.b0.rowO _ (by omega), H.b1.rowO _ (by omega), ⟨u, hc.rowS _, fun e => (by cases e), fun _ => hu.stable _ _ _ r⟩, ⟨c3, p3.rowO _ (by omega), q3, fun e => (s3 e).stable _ _ _ r⟩, ⟨c4, p4.rowO _ (by omega), q4, fun e => (s4 e).stable _ _ _ r⟩,
  fun e => (by cases e), H.oA.stable _ _ _ r, H.oC.stable _ _ _ r, H.bx.rowO _ (by omega), H.hBx, H.uBx, fun g e => ⟨(H.uB5 g e).1, by rw [setRow_size]; exact (H.uB5 g e).2⟩, H.bel.trans r.bel⟩
theorem InvBy.set19 (H : InvBy w h bp bq uB uA uC cs x la lb la' lb' Bx i true f18 f19 f20 W) {u : Value} (hu : VIX h uB la' u W) {c : Value} (hc : Blk W (h + 1 + 1 + 1) #[c] 104) : InvBy w h bp bq uB uA uC cs x la lb la' lb' Bx i true f18 true f20 (W.setRow (h + 1 + 1 + 1) #[u]) := by
 have r : RBy h uB (cs ++ [x]) W (W.setRow (h + 1 + 1 + 1) #[u]) := by
  have := RBy.rows (h := h) (uB := uB) (cs := cs ++ [x]) (W := W) (.inr (.inl rfl)) hc.row #[c] #[u]
  rwa [hc.rw] at this
 obtain ⟨c2, p2, q2, s2⟩ := H.b2
 obtain ⟨c4, p4, q4, s4⟩ := H.b4
 have hB := H.hBx
 exact ⟨H.b0.rowO _ (by omega), H.b1.rowO _ (by omega), ⟨c2, p2.rowO _ (by omega), q2, fun e => (s2 e).stable _ _ _ r⟩, ⟨u, hc.rowS _, fun e => (by cases e), fun _ => hu.stable _ _ _ r⟩, ⟨c4, p4.rowO _ (by omega), q4, fun e => (s4 e).stable _ _ _ r⟩,
  fun e => (by cases e), H.oA.stable _ _ _ r, H.oC.stable _ _ _ r, H.bx.rowO _ (by omega), H.hBx, H.uBx, fun g e => ⟨(H.uB5 g e).1, by rw [setRow_size]; exact (H.uB5 g e).2⟩, H.bel.trans r.bel⟩
theorem InvBy.set20 (H : InvBy w h bp bq uB uA uC cs x la lb la' lb' Bx i true f18 f19 f20 W) {u : Value} (hu : VIX h uB lb' u W) {c : Value} (hc : Blk W (h + 1 + 1 + 1 + 1) #[c] 104) : InvBy w h bp bq uB uA uC cs x la lb la' lb' Bx i true f18 f19 true (W.setRow (h + 1 + 1 + 1 + 1) #[u]) := by
 have r : RBy h uB (cs ++ [x]) W (W.setRow (h + 1 + 1 + 1 + 1) #[u]) := by
  have := RBy.rows (h := h) (uB := uB) (cs := cs ++ [x]) (W := W) (.inr (.inr rfl)) hc.row #[c] #[u]
  rwa [hc.rw] at this
 obtain ⟨c2, p2, q2, s2⟩ := H.b2
 obtain ⟨c3, p3, q3, s3⟩ := H.b3
 have hB := H.hBx
 exact ⟨H.b0.rowO _ (by omega), H.b1.rowO _ (by omega), ⟨c2, p2.rowO _ (by omega), q2, fun e => (s2 e).stable _ _ _ r⟩, ⟨c3, p3.rowO _ (by omega), q3, fun e => (s3 e).stable _ _ _ r⟩, ⟨u, hc.rowS _, fun e => (by cases e), fun _ => hu.stable _ _ _ r⟩,
  fun e => (by cases e), H.oA.stable _ _ _ r, H.oC.stable _ _ _ r, H.bx.rowO _ (by omega), H.hBx, H.uBx, fun g e => ⟨(H.uB5 g e).1, by rw [setRow_size]; exact (H.uB5 g e).2⟩, H.bel.trans r.bel⟩
theorem InvBy.fin (H : InvBy w h bp bq uB uA uC cs x la lb la' lb' Bx i true true true true W) : BySt w h bp bq (cs ++ [x]) la' lb' W := by
 obtain ⟨c2, p2, _, s2⟩ := H.b2
 obtain ⟨c3, p3, _, s3⟩ := H.b3
 obtain ⟨c4, p4, _, s4⟩ := H.b4
 have s2 := s2 rfl; have s3 := s3 rfl; have s4 := s4 rfl
 unfold OwnAX at s2; unfold VIX at s3 s4
 exact ⟨H.b0, H.b1, ⟨c2, p2, s2⟩, ⟨c3, p3, s3.1⟩, ⟨c4, p4, s4.1⟩, H.bel⟩
end
/-- the letter appended -/
theorem append_act {h : Nat} {uB v8 : Value} {cs : List Ac} {x : Ac} {W : World} (hown : OwnA W (h + 1 + 1 + 1 + 1 + 1) uB cs) (hn : New8 h uB x v8 W) (hk : cs.length ≤ 60) (hh : h + 1 + 1 + 1 + 1 < W.heap.size) :
  ∃ v' w', (Builtin.append_ #[28, 28] 28 #[uB, v8]).run Tryz.prog W = .ok v' w' ∧ OwnAX h (cs ++ [x]) v' w' ∧ W.grownBy w' uB.ownBlock ∧ RBy h uB (cs ++ [x]) W w' := by
 unfold New8 at hn
 obtain ⟨g, rfl, hb, hg, hu⟩ := hn
 obtain ⟨i0, hi, hz0, hz1, hz2⟩ := info_parts info46
 obtain ⟨v', w', hr, ho, hgr, hkp⟩ := run_append_keep W (h + 1 + 1 + 1 + 1 + 1) 28 28 46 i0 (.agg #[.int .u8 0, .int .i64 0, .int .u64 0, .int .u64 0, .int .u64 0, .int .u64 0, .int .u64 0, .int .u64 0, .int .u64 0, .int .u64 0]) 10 80 Tryz.underlying28 hi hz0 hz1 hz2 rfl (by decide) uB cs.length _ hown ⟨g, 0, none⟩ 1 1 (acL x) rfl (fun j u hu => by
   rw [Addr.add_lit, Nat.zero_add, hb.cell]
   simpa using hu) (fun z hz => by simp at hz; rcases hz with rfl | rfl | rfl | rfl | rfl | rfl | rfl | rfl | rfl | rfl <;> rfl) (by unfold maxLen; omega) (by omega) (by omega)
 have e : ((cs ++ [x]).map acL).flatten = (cs.map acL).flatten ++ acL x := by simp
 refine ⟨v', w', hr, ?_, hgr, ⟨(Below.refl h W).grown hgr (by omega) (fun k hk => by have := (hown.lt k hk).1; omega), fun j hj _ _ _ h4 => hgr.block j hj h4, ?_, (KeepsOthers.of_grownBy hgr ?_).from 0⟩⟩
 ·unfold OwnAX OwnA
  rw [List.length_append, e]; exact ho
 ·intro u hu
  unfold OwnA at *
  rw [List.length_append, e] at *
  exact hkp u hu
 ·intro j o e2 hj
  rcases hown.2 with ⟨h1, _⟩ | ⟨g', cap, cur, h1, _, hg', _⟩
  ·rw [h1] at e2; cases e2
  ·rw [h1] at e2
   have e3 : g' = j := by simpa [Value.ownBlock] using e2
   subst e3
   rw [hg'] at hj; cases hj; rfl
end Go.Proofs.YtccnkebkgegohaaGreatDoor
end
