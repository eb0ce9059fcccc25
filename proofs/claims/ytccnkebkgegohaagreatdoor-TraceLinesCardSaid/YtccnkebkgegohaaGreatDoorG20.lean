import Derived.Test.YtccnkebkgegohaaGreatDoorG19
/-
  Given contracts of functions of the program, and laws for them, one behind the other.
-/
set_option linter.unusedVariables false
set_option linter.unusedSimpArgs false
set_option linter.unusedSectionVars false
section
namespace Go.Proofs.YtccnkebkgegohaaGreatDoor
open Go.RowKit Go.Rel
set_option maxRecDepth 100000
set_option maxHeartbeats 4000000 in
theorem Orders_bad {blank : Sol} {v av : Value} {l : List Sol} {acts : List Ac} {x : Nat × Int} (h : begunM blank l acts = .inl x) (w : World) (Hv : SlS w v l) (Hav : SlA w av acts) :
  Calls Tryz.prog 52 #[.agg #[.int .u64 (pl blank 0), .int .u64 (pl blank 1), .int .u64 (pl blank 2), .int .u64 (pl blank 3), .int .u64 (pl blank 4), .int .u64 (pl blank 5), .int .u64 (pl blank 6), .int .u64 (pl blank 7), v, av]] w fun e w' => e = .returned (.tuple #[.int .i64 0, .int .i64 x.2]) ∧ Below w.heap.size w w' := by
 have H := Lib.hid fun w' (hb : Below w.heap.size w w') => begun_bad h w' (Hv.mono hb) (Hav.mono hb)
 have hne := begunM_bad h
 clear h Hv Hav
 go_enter Tryz.func52, Tryz.ntmps52
 go_wp2_with fail
 refine (H.out _ bel_by).mono ?_
 rintro e w1 ⟨rfl, hb⟩
 have hB1 : Below w.heap.size w w1 := bel_trans bel_by hb
 go_wp2_with fail
 refine bodyPost_ret (by simp [results, Tryz.results52, go_sem]) rfl ⟨rfl, hB1⟩
set_option maxHeartbeats 4000000 in
theorem Orders_many {blank : Sol} {v av : Value} {l : List Sol} {acts : List Ac} {s : Stn} (h : begunM blank l acts = .inr s) (h14 : 14 < acts.length) (w : World) (Hv : SlS w v l) (Hav : SlA w av acts) :
  Calls Tryz.prog 52 #[.agg #[.int .u64 (pl blank 0), .int .u64 (pl blank 1), .int .u64 (pl blank 2), .int .u64 (pl blank 3), .int .u64 (pl blank 4), .int .u64 (pl blank 5), .int .u64 (pl blank 6), .int .u64 (pl blank 7), v, av]] w fun e w' => e = .returned (.tuple #[.int .i64 0, .int .i64 2]) ∧ Below w.heap.size w w' := by
 have H := Lib.hid fun w' (hb : Below w.heap.size w w') => begun_good h w' (Hv.mono hb) (Hav.mono hb)
 obtain ⟨ap, ac, rfl, _⟩ := Hav
 rw [List.length_map] at *
 clear h Hv
 go_enter Tryz.func52, Tryz.ntmps52
 go_wp2_with fail
 refine (H.out _ bel_by).mono ?_
 rintro e w1 ⟨bp, rfl, hbp, hP, hb⟩
 have hB1 : Below w.heap.size w w1 := bel_trans bel_by hb
 have g2 : Blk w1 w.heap.size #[.int .u64 (pl blank 0), .int .u64 (pl blank 1), .int .u64 (pl blank 2), .int .u64 (pl blank 3), .int .u64 (pl blank 4), .int .u64 (pl blank 5), .int .u64 (pl blank 6), .int .u64 (pl blank 7), v, .slice ap acts.length ac] 30 := Blk.grow blk_by hb
 have cg := g2.cell
 have lg := g2.lt
 clear hb g2 hP
 go_wp2_with fail
 refine bodyPost_ret (by simp [results, Tryz.results52, go_sem]) rfl ⟨rfl, hB1⟩
theorem wrap_of_i64 (x : Int) : wrap64 x = IntKind.i64.wrap x := (IntWalk.i64_left x).symm
def shl1 (k : Int) : Int := IntKind.i64.wrap (2 ^ k.toNat)
def ndI (dep : Nat → Nat → Bool) (i : Nat) : Int := (needsM dep i).foldl (fun a k => bits .or .i64 a (shl1 k)) 0
/-! how many orders there are: ways f: in how many ways the acts of a set can stand first -/
def condW (nd : Nat → Int) (set : Nat) (n_ : Int) (j : Nat) : Bool := decide (0 < n_) && (decide (bits .and .i64 ((set : Int) / 2 ^ j) 1 = 0) && (bits .andNot .i64 (nd j) (set : Int) == 0))
def stepW (nd : Nat → Int) (set : Nat) (n_ : Int) (f : Nat → Int) (j : Nat) : Nat → Int := fun t => if condW nd set n_ j = true ∧ t = set ||| 2 ^ j then IntKind.i64.wrap (f (set ||| 2 ^ j) + f set) else f t
theorem stepW_no {nd : Nat → Int} {set : Nat} {n_ : Int} {f : Nat → Int} {j : Nat} (h : condW nd set n_ j = false) (t : Nat) : stepW nd set n_ f j t = f t := by
 unfold stepW; rw [if_neg (by rw [h]; simp)]
theorem stepW_yes {nd : Nat → Int} {set : Nat} {n_ : Int} {f : Nat → Int} {j : Nat} (h : condW nd set n_ j = true) (t : Nat) : stepW nd set n_ f j t = if t = set ||| 2 ^ j then IntKind.i64.wrap (f (set ||| 2 ^ j) + f set) else f t := by
 unfold stepW
 by_cases e : t = set ||| 2 ^ j
 ·rw [if_pos ⟨h, e⟩, if_pos e]
 ·rw [if_neg (fun hh => e hh.2), if_neg e]
theorem or_shl (set j : Nat) (hj : j < 62) (hs : set < 4611686018427387904) : bits .or .i64 (set : Int) (shl1 (j : Int)) = ((set ||| 2 ^ j : Nat) : Int) ∧ set ||| 2 ^ j < 4611686018427387904 := by
  have h1 : (2 : Nat) ^ j < 4611686018427387904 := by
    have : (2 : Nat) ^ j < 2 ^ 62 := Nat.pow_lt_pow_right (by decide) hj
    simpa using this
  have hlt : set ||| 2 ^ j < 2 ^ 62 := Nat.or_lt_two_pow (by simpa using hs) (by simpa using h1)
  refine ⟨?_, by simpa using hlt⟩
  have hsh : shl1 (j : Int) = ((2 ^ j : Nat) : Int) := by
    unfold shl1
    rw [Int.toNat_natCast]
    have h4 : (2 : Int) ^ j = ((2 ^ j : Nat) : Int) := by simp
    rw [h4]
    clear hlt h4
    generalize (2 : Nat) ^ j = P at *
    exact IntWalk.i64_in _ (by omega)
  rw [hsh]
  show IntKind.i64.wrap ((BitVec.ofInt 64 (set : Int) ||| BitVec.ofInt 64 ((2 ^ j : Nat) : Int)).toNat : Int) = _
  rw [BitVec.ofInt_natCast, BitVec.ofInt_natCast, BitVec.toNat_or, BitVec.toNat_ofNat, BitVec.toNat_ofNat, Nat.mod_eq_of_lt (by omega), Nat.mod_eq_of_lt (by omega)]
  exact IntWalk.i64_in _ (by have : (2 : Nat) ^ 62 = 4611686018427387904 := by decide
                             omega)
def inW (nd : Nat → Int) (set : Nat) (n_ : Int) (f : Nat → Int) : Nat → (Nat → Int)
 | 0 => f
 | j + 1 => stepW nd set n_ (inW nd set n_ f j) j
def outW (nd : Nat → Int) (n : Nat) : Nat → (Nat → Int)
 | 0 => fun t => if t = 0 then 1 else 0
 | set + 1 => inW nd set (outW nd n set set) (outW nd n set) n
def ordersM (dep : Nat → Nat → Bool) (n : Nat) : Int := outW (ndI dep) n (2 ^ n) (2 ^ n - 1)
theorem outD_mem {dep : Nat → Nat → Bool} {i : Nat} : ∀ {m : Nat}, m ≤ i → ∀ x ∈ outD dep i m, 0 ≤ x ∧ x < i
 | 0, _, x, h => by simp [outD] at h
 | m + 1, hm, x, h => by
  unfold outD at h
  have ih := outD_mem (dep := dep) (i := i) (m := m) (by omega)
  split at h
  ·rcases List.mem_append.1 h with h | h
   ·exact ih x h
   ·simp at h; omega
  ·exact ih x h
theorem needsM_mem {dep : Nat → Nat → Bool} {i : Nat} : ∀ x ∈ needsM dep i, 0 ≤ x ∧ x < i := fun x h => outD_mem (Nat.le_refl _) x (List.mem_reverse.1 h)
theorem needsM_len (dep : Nat → Nat → Bool) (i : Nat) : (needsM dep i).length ≤ i := by unfold needsM; rw [List.length_reverse]; exact outD_length dep i i
def ndT (L : List Int) (m : Nat) : Int := (L.take m).foldl (fun a k => bits .or .i64 a (shl1 k)) 0
theorem ndT_succ {L : List Int} {m : Nat} {x : Int} (h : L[m]? = some x) : ndT L (m + 1) = bits .or .i64 (ndT L m) (shl1 x) := by
 obtain ⟨hk, rfl⟩ := List.getElem?_eq_some_iff.1 h
 unfold ndT
 rw [List.take_succ_eq_append_getElem hk, List.foldl_append]; rfl
theorem bel_trans' {B : Nat} {a b c : World} (h : Below B a b) (k : Below b.heap.size b c) (hB : B ≤ b.heap.size := by omega) : Below B a c := h.trans (k.mono hB)
set_option maxHeartbeats 16000000 in
theorem Orders_good {blank : Sol} {v av : Value} {l : List Sol} {acts : List Ac} {s : Stn} (h : begunM blank l acts = .inr s) (h14 : acts.length ≤ 14) (w : World) (Hv : SlS w v l) (Hav : SlA w av acts) :
    Calls Tryz.prog 52 #[.agg #[.int .u64 (pl blank 0), .int .u64 (pl blank 1), .int .u64 (pl blank 2), .int .u64 (pl blank 3), .int .u64 (pl blank 4), .int .u64 (pl blank 5), .int .u64 (pl blank 6), .int .u64 (pl blank 7), v, av]] w fun e w' => e = .returned (.tuple #[.int .i64 (ordersM (depN (cellsOf l acts)) acts.length), .int .i64 0]) ∧ Below w.heap.size w w' := by
  have H := Lib.hid fun w' (hb : Below w.heap.size w w') => begun_good h w' (Hv.mono hb) (Hav.mono hb)
  obtain ⟨ap, ac, rfl, _⟩ := Hav
  rw [List.length_map] at *
  have hn60 : acts.length ≤ 60 := by omega
  clear h Hv
  obtain ⟨i3, hi0, hz0, hz1, hz2⟩ := info_parts info3
  have HI3 := Lib.hid (And.intro hi0 (And.intro hz0 (And.intro hz1 hz2))); clear hi0 hz0 hz1 hz2
  go_enter Tryz.func52, Tryz.ntmps52
  go_wp2_with fail
  refine (H.out _ bel_by).mono ?_
  rintro e wa ⟨bp, rfl, hbp, hP, hb⟩
  have hB1 : Below w.heap.size w wa := bel_trans bel_by hb
  have g2 : Blk wa w.heap.size #[.int .u64 (pl blank 0), .int .u64 (pl blank 1), .int .u64 (pl blank 2), .int .u64 (pl blank 3), .int .u64 (pl blank 4), .int .u64 (pl blank 5), .int .u64 (pl blank 6), .int .u64 (pl blank 7), v, .slice ap acts.length ac] 30 := Blk.grow blk_by hb
  have cg := g2.cell
  have lg := g2.lt
  have HP1 := Lib.hid hP
  obtain ⟨dv, hpast, hown⟩ := hP.past
  obtain ⟨dp, dc, rfl, _, _⟩ := own_shape' hown
  have cp := hpast.cell
  have lp := hpast.lt
  clear hb g2 hP hpast hown hbp
  generalize hnn : acts.length = n at *
  have HNN := Lib.hid hnn; clear hnn
  have HB1W := Lib.hid hB1
  go_wp2_with (first | (at_make; refine wpList_make_full _ rfl _ _ 66 rfl wa.heap.size 3 i3 (.int .i64 0) 1 Tryz.underlying66 HI3.out.1 HI3.out.2.1 HI3.out.2.2.1 .i64 .i64 _ _ n rfl rfl rfl rfl (by rw [HI3.out.2.2.2]; omega) (by unfold maxLen; omega) (Nat.le_refl _) ?_; intro w2 hown2 hgrow2; have HA2 := Lib.hid (own_made hown2).1; have HBel : Hid (Below wa.heap.size wa w2) := Lib.hid ((Below.refl _ _).grown hgrow2 (Nat.le_refl _) (fun j hj => by cases hj)); clear hown2 hgrow2))
  clear cg lg cp lp
  go_loopw [39] (fun y wr => ∃ i : Nat, i ≤ n ∧ y = .int .i64 i ∧ Blk wr wa.heap.size (tab n (fun t => .int .i64 (if t < i then ndI (depN (cellsOf l acts)) t else 0))) 3 ∧ Below wa.heap.size wa wr) (fun y _ => n - (intOf y).toNat)
  case atStart => exact ⟨0, Nat.zero_le _, rfl, by simpa using HA2.out, HBel.out⟩
  case round =>
    obtain ⟨i, hi, rfl, hA, hbel⟩ := hrel
    clear HA2 HBel
    by_cases hlt : i < n
    · have HN := Lib.hid (needs_spec wr (HP1.out.grow hbel) i (by rw [HNN.out]; exact hlt) (by rw [HNN.out]; exact hn60))
      have HAB := Lib.hid (And.intro hA hbel); clear hA hbel
      go_wp2_with fail
      refine HN.out.mono ?_
      rintro e w3 ⟨u3, rfl, hO3, hb3⟩
      have HO3 : Hid (OwnI w3 wr.heap.size u3 (needsM (depN (cellsOf l acts)) i)) := Lib.hid hO3
      have HA3 := Lib.hid (And.intro (HAB.out.1.grow hb3) (HAB.out.2.trans (hb3.mono HAB.out.2.size)))
      clear hO3 hb3 HN
      obtain ⟨q3, c3, hu3, _, _⟩ := own_shape' HO3.out
      subst hu3
      go_wp2_with fail
      obtain ⟨wo, rfl⟩ : ∃ wo : World, wo = w3 := ⟨_, rfl⟩
      have hszr := HAB.out.2.size
      have hLl := needsM_len (depN (cellsOf l acts)) i
      have HLM := Lib.hid (needsM_mem (dep := depN (cellsOf l acts)) (i := i))
      have HND : Hid (ndI (depN (cellsOf l acts)) i = ndT (needsM (depN (cellsOf l acts)) i) (needsM (depN (cellsOf l acts)) i).length) := Lib.hid (by unfold ndI ndT; rw [List.take_length])
      generalize needsM (depN (cellsOf l acts)) i = L at *
      go_loopw [46] (fun y wq => ∃ m : Nat, m ≤ L.length ∧ y = .int .i64 m ∧ Blk wq wa.heap.size (tab n (fun t => .int .i64 (if t < i then ndI (depN (cellsOf l acts)) t else if t = i then ndT L m else 0))) 3 ∧ Hid (OwnI wq (wa.heap.size + 1) (.slice q3 L.length c3) L) ∧ Below wa.heap.size wa wq) (fun y _ => L.length - (intOf y).toNat)
      case atStart =>
        refine ⟨0, Nat.zero_le _, rfl, ?_, Lib.hid (own_weak HO3.out (by have := HAB.out.1.lt; omega)), HA3.out.2⟩
        refine (congrArg (fun a => Blk _ _ a 3) (tab_congr fun t ht => ?_)).mp HA3.out.1
        by_cases e1 : t < i
        · rw [if_pos e1, if_pos e1]
        · rw [if_neg e1, if_neg e1]
          by_cases e2 : t = i
          · rw [if_pos e2]; rfl
          · rw [if_neg e2]
      case round =>
        obtain ⟨m, hm, rfl, hA, hO, hbel⟩ := hrel
        by_cases hmt : m < L.length
        · have hx : L[m]? = some (L[m]'hmt) := by simp
          have hxr := HLM.out _ (List.getElem_mem hmt)
          have hnt := ndT_succ hx
          have hsl := hO.out.sl
          generalize L[m]'hmt = x at hx hxr hnt
          refine Veil.out ?_
          obtain ⟨k, rfl⟩ : ∃ k : Nat, x = (k : Int) := ⟨x.toNat, by omega⟩
          rcases hsl.cases with ⟨hl0, _⟩ | ⟨lb, loff, lc, hlv, _, _, _, hlcs⟩
          · have : L = [] := by simpa using hl0
            rw [this] at hmt; simp at hmt
          have hq3 : q3 = some ⟨lb, loff, none⟩ := by injection hlv
          subst hq3
          refine Veil.on ?_
          have ck := int_cell hlcs hx
          have llb := hlcs.1
          have hcA := (hA.cell i).trans (tab_get hlt)
          rw [if_neg (Nat.lt_irrefl i), if_pos rfl] at hcA
          have lA := hA.lt
          have hk64 : k < 64 := by omega
          have HNT := Lib.hid hnt
          obtain ⟨a0, ha0⟩ : ∃ a0, a0 = ndT L m := ⟨_, rfl⟩
          rw [← ha0] at hcA
          have HA0 := Lib.hid ha0; clear ha0
          have HA := Lib.hid (And.intro hA hbel)
          clear hx hxr hnt hsl hlv hlcs hA hbel
          go_wp2_with fail
          refine wp_region_grow 7 [Is (.slice (some ⟨wa.heap.size, 0, none⟩) n n), Is (.int .i64 i), Is (.pointer (some ⟨wa.heap.size, i, none⟩)), Is (.int .i64 a0), Is (.int .i64 k), Is (.int .i64 (shl1 k)), Is (.int .i64 (bits .or .i64 a0 (shl1 k)))] (by kernel_rfl) (by kernel_rfl) rfl ⟨fun _ _ _ h _ => h, fun _ _ _ h _ => h, fun _ _ _ h _ => h, fun _ _ _ h _ => h, fun _ _ _ h _ => h, fun _ _ _ h _ => h, fun _ _ _ h _ => h, trivial⟩ ?_
          simp only [List.take_succ_cons, List.take_zero, List.drop_succ_cons, List.drop_zero]
          iterate 5 (refine rel_cons ?_ (fun _ => ?_); · intro w1 hb hF; have hc := (Grows.cells hb).1; have hf := (Grows.cells hb).2; (try simp [facts, Is] at hF); go_simp; exact Grows.refl _)
          refine rel_cons ?_ (fun v5 => ?_)
          · intro w1 hb hF; have hc := (Grows.cells hb).1; have hf := (Grows.cells hb).2; try simp [facts, Is] at hF
            go_simp
            exact ⟨Grows.refl _, by simp [shl1]⟩
          refine rel_cons ?_ (fun v6 => ?_)
          · intro w1 hb hF; have hc := (Grows.cells hb).1; have hf := (Grows.cells hb).2; try simp [facts, Is] at hF
            go_simp
            exact Grows.refl _
          refine rel_nil ?_
          intro w1 hb hF
          simp [Is, Nat.forall_lt_succ_right] at hF
          simp only [Act.put, List.setIfInBounds_toArray, List.set_cons_succ, List.set_cons_zero, hF]
          clear hF
          have hA1 := HA.out.1.grow hb
          have c1 := (hA1.cell i).trans (tab_get hlt)
          have f1 := hA1.free i
          have l1 := hA1.lt
          rw [if_neg (Nat.lt_irrefl i), if_pos rfl] at c1
          rw [← HA0.out] at c1
          have HO1 := Lib.hid (own_grow hO.out hb)
          have HA1 := Lib.hid (And.intro hA1 (bel_trans HA.out.2 hb))
          clear hA1 hb ck hcA lA
          go_wp2_with fail
          go_roundw
          case rel => exact ⟨m + 1, by omega, by go_num, by
              have hs := HA1.out.1.set i (.int .i64 (bits .or .i64 a0 (shl1 k)))
              rw [tab_set] at hs
              refine (congrArg (fun a => Blk _ _ a 3) (tab_congr fun t ht => ?_)).mp hs
              by_cases e : t = i
              · subst e; rw [if_pos rfl, if_neg (Nat.lt_irrefl t), if_pos rfl, HNT.out, HA0.out]
              · rw [if_neg e, if_neg e, if_neg e], Lib.hid (own_setOther HO1.out (by simp) _), HA1.out.2.setCell (by simp) _⟩
          case measure => simp [intOf]; omega
        · have hml : m = L.length := by omega
          subst hml
          have HA1 := Lib.hid (And.intro hA hbel); clear hA hbel
          go_wp2_with fail
          go_roundw
          case rel => exact ⟨i + 1, by omega, by go_num, by
              refine (congrArg (fun a => Blk _ _ a 3) (tab_congr fun t ht => ?_)).mp HA1.out.1
              by_cases e1 : t < i
              · rw [if_pos e1, if_pos (by omega)]
              · by_cases e2 : t = i
                · subst e2; rw [if_neg e1, if_pos rfl, if_pos (by omega), HND.out]
                · rw [if_neg e1, if_neg e2, if_neg (by omega)], HA1.out.2⟩
          case measure => simp [intOf]; omega
    · have hin : i = n := by omega
      subst hin
      have hA' : Blk wr wa.heap.size (tab i (fun t => .int .i64 (ndI (depN (cellsOf l acts)) t))) 3 := by
        refine (congrArg (fun a => Blk _ _ a 3) (tab_congr fun t ht => ?_)).mp hA
        rw [if_pos ht]
      have HAB := Lib.hid (And.intro hA' hbel); clear hA' hA hbel
      have hszr := HAB.out.2.size
      obtain ⟨N, hN⟩ : ∃ N : Nat, N = 2 ^ i := ⟨_, rfl⟩
      have hN1 : N ≤ 16384 := by rw [hN]; exact Nat.le_trans (Nat.pow_le_pow_right (by decide) h14) (by decide)
      have hN0 : 0 < N := by rw [hN]; exact Nat.two_pow_pos i
      have hpow : IntKind.i64.wrap (2 ^ i) = (N : Int) := by
        rw [hN, IntKind.wrap_i64]
        have h2 : ((2 ^ i : Nat) : Int) ≤ 16384 := by rw [hN] at hN1; exact_mod_cast hN1
        have h3 : (0 : Int) ≤ ((2 ^ i : Nat) : Int) := by omega
        have h4 : (2 : Int) ^ i = ((2 ^ i : Nat) : Int) := by simp
        rw [h4]
        omega
      have HNP := Lib.hid hN; clear hN
      go_wp2_with (first | (at_make; refine wpList_make_full _ rfl _ _ 66 rfl wr.heap.size 3 i3 (.int .i64 0) 1 Tryz.underlying66 HI3.out.1 HI3.out.2.1 HI3.out.2.2.1 .i64 .i64 _ _ N rfl rfl (by first | rfl | exact hpow) (by first | rfl | exact hpow) (by rw [HI3.out.2.2.2]; omega) (by unfold maxLen; omega) (Nat.le_refl _) ?_; intro w4 hown4 hgrow4; have hb4 := (own_made hown4).1; have c4 := (hb4.cell 0).trans (tab_get hN0); have f4 := hb4.free 0; have l4 := hb4.lt; have HW4 := Lib.hid hb4; have HBel4 : Hid (Below wr.heap.size wr w4) := Lib.hid ((Below.refl _ _).grown hgrow4 (Nat.le_refl _) (fun j hj => by cases hj)); clear hown4 hgrow4 hb4))
      have HAw := Lib.hid (And.intro (HAB.out.1.below HBel4.out HAB.out.1.lt) (And.intro (HB1W.out.trans (HAB.out.2.mono HB1W.out.size)) HBel4.out))
      clear c4 f4 l4
      generalize hhw : wr.heap.size = hw at *
      have HHW : Hid (wa.heap.size ≤ hw ∧ wa.heap.size < hw) := Lib.hid ⟨by omega, by have := HAB.out.1.lt; omega⟩
      have hlw : wa.heap.size < hw := HHW.out.2
      have hww : w.heap.size ≤ wa.heap.size := HB1W.out.size
      have HF0 : Hid (Blk (w4.setCell ⟨hw, 0, none⟩ (.int .i64 1)) hw (tab N (fun t => .int .i64 (outW (ndI (depN (cellsOf l acts))) i 0 t))) 3 ∧ Blk (w4.setCell ⟨hw, 0, none⟩ (.int .i64 1)) wa.heap.size (tab i (fun t => .int .i64 (ndI (depN (cellsOf l acts)) t))) 3 ∧ Below w.heap.size w (w4.setCell ⟨hw, 0, none⟩ (.int .i64 1))) := Lib.hid ⟨by
        have hs := HW4.out.set 0 (.int .i64 1)
        rw [tab_set] at hs
        refine (congrArg (fun a => Blk _ _ a 3) (tab_congr fun t ht => ?_)).mp hs
        by_cases e : t = 0
        · subst e; rfl
        · rw [if_neg e]; show _ = Value.int .i64 (if t = 0 then 1 else 0); rw [if_neg e], HAw.out.1.other (by simp; omega) _, (HAw.out.2.1.trans (HAw.out.2.2.mono (by omega))).setCell (by simp; omega) _⟩
      go_loopw [68] (fun y wq => ∃ set : Nat, set ≤ N ∧ y = .int .i64 set ∧ Blk wq hw (tab N (fun t => .int .i64 (outW (ndI (depN (cellsOf l acts))) i set t))) 3 ∧ Blk wq wa.heap.size (tab i (fun t => .int .i64 (ndI (depN (cellsOf l acts)) t))) 3 ∧ Below w.heap.size w wq) (fun y _ => N - (intOf y).toNat)
      case atStart => exact ⟨0, Nat.zero_le _, rfl, HF0.out⟩
      case round =>
        obtain ⟨set, hset, rfl, hW, hA, hbel⟩ := hrel
        clear HF0
        by_cases hst : set < N
        · have cs := (hW.cell set).trans (tab_get hst)
          have lW := hW.lt
          obtain ⟨n_, hn_⟩ : ∃ n_, n_ = outW (ndI (depN (cellsOf l acts))) i set set := ⟨_, rfl⟩
          rw [← hn_] at cs
          have HNN_ := Lib.hid hn_; clear hn_
          have HB := Lib.hid (And.intro hW (And.intro hA hbel)); clear hW hA hbel
          go_wp2_with fail
          obtain ⟨wo, rfl⟩ : ∃ wo : World, wo = wr := ⟨_, rfl⟩
          go_loopw [75] (fun y wq => ∃ j : Nat, j ≤ i ∧ y = .int .i64 j ∧ Blk wq hw (tab N (fun t => .int .i64 (inW (ndI (depN (cellsOf l acts))) set n_ (outW (ndI (depN (cellsOf l acts))) i set) j t))) 3 ∧ Blk wq wa.heap.size (tab i (fun t => .int .i64 (ndI (depN (cellsOf l acts)) t))) 3 ∧ Below w.heap.size w wq) (fun y _ => i - (intOf y).toNat)
          case atStart => exact ⟨0, Nat.zero_le _, rfl, HB.out⟩
          case round =>
            obtain ⟨j, hj, rfl, hW, hA, hbel⟩ := hrel
            by_cases hjt : j < i
            · have cA := (hA.cell j).trans (tab_get hjt)
              have lA := hA.lt
              have HB := Lib.hid (And.intro hW (And.intro hA hbel)); clear hW hA hbel
              have hj64 : j < 64 := by omega
              have HTT := Lib.hid (or_shl set j (by omega) (by omega))
              have hTN : set ||| 2 ^ j < N := by rw [HNP.out]; exact Nat.or_lt_two_pow (by rw [← HNP.out]; exact hst) (Nat.pow_lt_pow_right (by decide) hjt)
              go_wp2_with fail
              · have hcond : condW (ndI (depN (cellsOf l acts))) set n_ j = true := by
                  have h1 : 0 < n_ := by assumption
                  have h2 : bits .and .i64 ((set : Int) / 2 ^ j) 1 = 0 := by assumption
                  have h3 : (bits .andNot .i64 (ndI (depN (cellsOf l acts)) j) (set : Int) == 0) = true := by assumption
                  unfold condW; simp [h1, h2, h3]
                have HCD := Lib.hid (stepW_yes (f := inW (ndI (depN (cellsOf l acts))) set n_ (outW (ndI (depN (cellsOf l acts))) i set) j) hcond); clear hcond
                have cT := (HB.out.1.cell (set ||| 2 ^ j)).trans (tab_get hTN)
                have cS := (HB.out.1.cell set).trans (tab_get hst)
                have lW := HB.out.1.lt
                have hor := HTT.out.1
                obtain ⟨T, hT⟩ : ∃ T, T = set ||| 2 ^ j := ⟨_, rfl⟩
                rw [← hT] at cT hor hTN
                obtain ⟨x, hx⟩ : ∃ x, x = inW (ndI (depN (cellsOf l acts))) set n_ (outW (ndI (depN (cellsOf l acts))) i set) j T := ⟨_, rfl⟩
                obtain ⟨y, hy⟩ : ∃ y, y = inW (ndI (depN (cellsOf l acts))) set n_ (outW (ndI (depN (cellsOf l acts))) i set) j set := ⟨_, rfl⟩
                rw [← hx] at cT
                rw [← hy] at cS
                have HXY := Lib.hid (And.intro hT (And.intro hx hy)); clear hT hx hy cA lA
                refine wp_region_grow 12 [Is (.slice (some ⟨hw, 0, none⟩) N N), Is (.int .i64 set), Is (.int .i64 j), Is (.int .i64 (shl1 j)), Is (.int .i64 T), Is (.pointer (some ⟨hw, T, none⟩)), Is (.int .i64 x), Is (.slice (some ⟨hw, 0, none⟩) N N), Is (.int .i64 set), Is (.pointer (some ⟨hw, set, none⟩)), Is (.int .i64 y), Is (.int .i64 (IntKind.i64.wrap (x + y)))] (by kernel_rfl) (by kernel_rfl) rfl ⟨fun _ _ _ h _ => h, fun _ _ _ h _ => h, fun _ _ _ h _ => h, fun _ _ _ h _ => h, fun _ _ _ h _ => h, fun _ _ _ h _ => h, fun _ _ _ h _ => h, fun _ _ _ h _ => h, fun _ _ _ h _ => h, fun _ _ _ h _ => h, fun _ _ _ h _ => h, fun _ _ _ h _ => h, trivial⟩ ?_
                simp only [List.take_succ_cons, List.take_zero, List.drop_succ_cons, List.drop_zero]
                iterate 3 (refine rel_cons ?_ (fun _ => ?_); · intro w1 hb hF; have hc := (Grows.cells hb).1; have hf := (Grows.cells hb).2; (try simp [facts, Is] at hF); go_simp; exact Grows.refl _)
                refine rel_cons ?_ (fun v3 => ?_)
                · intro w1 hb hF; have hc := (Grows.cells hb).1; have hf := (Grows.cells hb).2; try simp [facts, Is] at hF
                  go_simp
                  exact ⟨Grows.refl _, by simp [shl1]⟩
                iterate 8 (refine rel_cons ?_ (fun _ => ?_); · intro w1 hb hF; have hc := (Grows.cells hb).1; have hf := (Grows.cells hb).2; (try simp [facts, Is] at hF); go_simp; exact Grows.refl _)
                refine rel_nil ?_
                intro w1 hb hF
                simp [Is, Nat.forall_lt_succ_right] at hF
                simp only [Act.put, List.setIfInBounds_toArray, List.set_cons_succ, List.set_cons_zero, hF]
                clear hF
                have hB2 := And.intro (HB.out.1.grow hb) (And.intro (HB.out.2.1.grow hb) (bel_trans HB.out.2.2 hb))
                have cT2 := (hB2.1.cell T).trans (tab_get hTN)
                rw [← HXY.out.2.1] at cT2
                have fT2 := hB2.1.free T
                have lT2 := hB2.1.lt
                have HB2 := Lib.hid hB2; clear hb hB2 cT cS lW
                go_wp2_with fail
                go_roundw
                case rel => exact ⟨j + 1, by omega, by go_num, by
                    have hs := HB2.out.1.set T (.int .i64 (wrap64 (x + y)))
                    rw [tab_set] at hs
                    refine (congrArg (fun a => Blk _ _ a 3) (tab_congr fun t ht => ?_)).mp hs
                    show _ = Value.int .i64 (stepW _ _ _ _ _ t)
                    rw [HCD.out t, ← HXY.out.1, ← HXY.out.2.1, ← HXY.out.2.2]
                    by_cases e : t = T
                    · rw [if_pos e, if_pos e]; exact congrArg (Value.int .i64) (wrap_of_i64 _)
                    · rw [if_neg e, if_neg e], HB2.out.2.1.other (by simp; omega) _, HB2.out.2.2.setCell (by simp; omega) _⟩
                case measure => simp [intOf]; omega
              · have hcond : condW (ndI (depN (cellsOf l acts))) set n_ j = false := by
                  unfold condW
                  first
                  | (have h1 : ¬ 0 < n_ := by assumption
                     simp [h1]; done)
                  | (have h2 : ¬ bits .and .i64 ((set : Int) / 2 ^ j) 1 = 0 := by assumption
                     simp [h2]; done)
                  | (have h3 : (bits .andNot .i64 (ndI (depN (cellsOf l acts)) j) (set : Int) == 0) = false := by assumption
                     simp [h3]; done)
                have HCD := Lib.hid (stepW_no (f := inW (ndI (depN (cellsOf l acts))) set n_ (outW (ndI (depN (cellsOf l acts))) i set) j) hcond); clear hcond
                go_roundw
                case rel => exact ⟨j + 1, by omega, by go_num, by
                    refine (congrArg (fun a => Blk _ _ a 3) (tab_congr fun t ht => ?_)).mp HB.out.1
                    show _ = Value.int .i64 (stepW _ _ _ _ _ t)
                    rw [HCD.out t], HB.out.2⟩
                case measure => simp [intOf]; omega
              · have hcond : condW (ndI (depN (cellsOf l acts))) set n_ j = false := by
                  unfold condW
                  first
                  | (have h1 : ¬ 0 < n_ := by assumption
                     simp [h1]; done)
                  | (have h2 : ¬ bits .and .i64 ((set : Int) / 2 ^ j) 1 = 0 := by assumption
                     simp [h2]; done)
                  | (have h3 : (bits .andNot .i64 (ndI (depN (cellsOf l acts)) j) (set : Int) == 0) = false := by assumption
                     simp [h3]; done)
                have HCD := Lib.hid (stepW_no (f := inW (ndI (depN (cellsOf l acts))) set n_ (outW (ndI (depN (cellsOf l acts))) i set) j) hcond); clear hcond
                go_roundw
                case rel => exact ⟨j + 1, by omega, by go_num, by
                    refine (congrArg (fun a => Blk _ _ a 3) (tab_congr fun t ht => ?_)).mp HB.out.1
                    show _ = Value.int .i64 (stepW _ _ _ _ _ t)
                    rw [HCD.out t], HB.out.2⟩
                case measure => simp [intOf]; omega
              · have hcond : condW (ndI (depN (cellsOf l acts))) set n_ j = false := by
                  unfold condW
                  first
                  | (have h1 : ¬ 0 < n_ := by assumption
                     simp [h1]; done)
                  | (have h2 : ¬ bits .and .i64 ((set : Int) / 2 ^ j) 1 = 0 := by assumption
                     simp [h2]; done)
                  | (have h3 : (bits .andNot .i64 (ndI (depN (cellsOf l acts)) j) (set : Int) == 0) = false := by assumption
                     simp [h3]; done)
                have HCD := Lib.hid (stepW_no (f := inW (ndI (depN (cellsOf l acts))) set n_ (outW (ndI (depN (cellsOf l acts))) i set) j) hcond); clear hcond
                go_roundw
                case rel => exact ⟨j + 1, by omega, by go_num, by
                    refine (congrArg (fun a => Blk _ _ a 3) (tab_congr fun t ht => ?_)).mp HB.out.1
                    show _ = Value.int .i64 (stepW _ _ _ _ _ t)
                    rw [HCD.out t], HB.out.2⟩
                case measure => simp [intOf]; omega
            · have hji : j = i := by omega
              subst hji
              have HB2 := Lib.hid (And.intro hW (And.intro hA hbel)); clear hW hA hbel
              go_wp2_with fail
              go_roundw
              case rel => exact ⟨set + 1, by omega, by go_num, by
                  refine (congrArg (fun a => Blk _ _ a 3) (tab_congr fun t ht => ?_)).mp HB2.out.1
                  rw [HNN_.out]; rfl, HB2.out.2⟩
              case measure => simp [intOf]; omega
        · have hsN : set = N := by omega
          subst hsN
          have cL := (hW.cell (set - 1)).trans (tab_get (by omega))
          have lW := hW.lt
          obtain ⟨x, hx⟩ : ∃ x, x = outW (ndI (depN (cellsOf l acts))) i set (set - 1) := ⟨_, rfl⟩
          rw [← hx] at cL
          have hxo : x = ordersM (depN (cellsOf l acts)) i := by rw [hx]; unfold ordersM; rw [HNP.out]
          have HXO := Lib.hid hxo; clear hx hxo
          go_wp2_with fail
          refine bodyPost_ret (v := .tuple #[.int .i64 x, .int .i64 0]) (by simp [results, Tryz.results52, go_sem]) rfl ⟨by rw [HXO.out, HNN.out], hbel⟩
end Go.Proofs.YtccnkebkgegohaaGreatDoor
end
section
namespace Go.Proofs.YtccnkebkgegohaaGreatDoor
open Go.RowKit Go.Rel
set_option maxRecDepth 100000
theorem Cells.ofBlk {w : World} {b k : Nat} {c : Array Value} {t : TypeId} {rows : List (List Value)} (h : Blk w b c t) (hs : ∀ r ∈ rows, r.length = k) (hc : c.toList = rows.flatten) : Cells w b 0 k rows := by
 refine ⟨h.lt, fun i j u hu => ?_⟩
 obtain ⟨r, hr, hj⟩ := Option.bind_eq_some_iff.1 hu
 have hk := hs r (List.mem_of_getElem? hr)
 have key : ∀ (rows : List (List Value)) (i : Nat) (r : List Value), (∀ r ∈ rows, r.length = k) → rows[i]? = some r → r[j]? = some u → rows.flatten[i * k + j]? = some u := by
  intro rows
  induction rows with
  | nil => intro i r _ hr _; simp at hr
  | cons x xs ih =>
   intro i r hs hr hj
   have hx := hs x (by simp)
   have hj' := (List.getElem?_eq_some_iff.1 hj).1
   have hk : r.length = k := hs r (List.mem_of_getElem? hr)
   rw [hk] at hj'
   cases i with
   | zero =>
    have : x = r := by simpa using hr
    rw [← this] at hj
    rw [List.flatten_cons, Nat.zero_mul, Nat.zero_add, List.getElem?_append_left (by omega)]
    exact hj
   | succ i =>
    rw [List.flatten_cons, List.getElem?_append_right (by rw [hx, Nat.succ_mul]; omega), hx]
    have e : (i + 1) * k + j - k = i * k + j := by rw [Nat.succ_mul]; omega
    rw [e]
    exact ih i r (fun r hr => hs r (by simp [hr])) (by simpa using hr) hj
 have h2 := key rows i r hs hr hj
 rw [← hc] at h2
 have h3 := h.cell (0 + i * k + j)
 rw [h3, Nat.zero_add]
 simpa using h2
theorem Sl.ofBlk {w : World} {b k n : Nat} {c : Array Value} {t : TypeId} {rows : List (List Value)} (h : Blk w b c t) (hn : rows.length = n) (hm : n ≤ 9223372036854775807) (hs : ∀ r ∈ rows, r.length = k) (hc : c.toList = rows.flatten) : Sl w k (.slice (some ⟨b, 0, none⟩) n n) rows := by
 subst hn
 exact ⟨_, _, rfl, Nat.le_refl _, hm, .inr ⟨_, _, rfl, Cells.ofBlk h hs hc⟩⟩
theorem cut_spec (p : Int) (w : World) : Calls Tryz.prog 87 #[.int .u64 p] w fun e w' => e = .returned (.agg #[.int .u8 1, .int .i64 0, .int .u64 p, .int .u64 0, .int .u64 0, .int .u64 0, .int .u64 0, .int .u64 0, .int .u64 0, .int .u64 0]) ∧ Below w.heap.size w w' := by
 go_enter Tryz.func87, Tryz.ntmps87
 go_wp2_with fail
 refine bodyPost_ret (by simp [results, Tryz.results87, go_sem]) rfl ⟨rfl, bel_by⟩
def slabL : List Sol := [18446744073709551616, 55340232221128654848]
theorem slab_rows : ([.int .u64 0, .int .u64 1, .int .u64 0, .int .u64 0, .int .u64 0, .int .u64 0, .int .u64 0, .int .u64 0, .int .u64 0, .int .u64 3, .int .u64 0, .int .u64 0, .int .u64 0, .int .u64 0, .int .u64 0, .int .u64 0] : List Value) = (slabL.map solL).flatten := by
 kernel_rfl
theorem slab_spec (w : World) : Calls Tryz.prog 141 #[] w fun e w' => ∃ b, e = .returned (.agg #[.int .u64 252645135, .int .u64 0, .int .u64 0, .int .u64 0, .int .u64 0, .int .u64 0, .int .u64 0, .int .u64 0, .slice (some ⟨b, 0, none⟩) 2 2]) ∧ w.heap.size ≤ b ∧ Blk w' b #[.int .u64 0, .int .u64 1, .int .u64 0, .int .u64 0, .int .u64 0, .int .u64 0, .int .u64 0, .int .u64 0, .int .u64 0, .int .u64 3, .int .u64 0, .int .u64 0, .int .u64 0, .int .u64 0, .int .u64 0, .int .u64 0] 24 ∧ Below w.heap.size w w' := by
 go_enter Tryz.func141, Tryz.ntmps141
 go_wp2_with fail
 refine bodyPost_ret (by simp [results, Tryz.results141, go_sem]) rfl ⟨w.heap.size + 1, rfl, by omega, blk_by, bel_by⟩
abbrev slabC : Array Value := #[.int .u64 0, .int .u64 1, .int .u64 0, .int .u64 0, .int .u64 0, .int .u64 0, .int .u64 0, .int .u64 0, .int .u64 0, .int .u64 3, .int .u64 0, .int .u64 0, .int .u64 0, .int .u64 0, .int .u64 0, .int .u64 0]
theorem slab_sl {w : World} {b : Nat} (h : Blk w b slabC 24) : SlS w (.slice (some ⟨b, 0, none⟩) 2 2) slabL := Sl.ofBlk h rfl (by decide) (by simp [solL, slabL]) slab_rows
theorem of_spec (a : Option Addr) (n c : Nat) (w : World) : Calls Tryz.prog 88 #[.slice a n c] w fun e w' => ∃ b, e = .returned (.agg #[.int .u64 252645135, .int .u64 0, .int .u64 0, .int .u64 0, .int .u64 0, .int .u64 0, .int .u64 0, .int .u64 0, .slice (some ⟨b, 0, none⟩) 2 2, .slice a n c]) ∧ Blk w' b slabC 24 ∧ Below w.heap.size w w' := by
 go_enter Tryz.func88, Tryz.ntmps88
 go_wp2_with fail
 refine (slab_spec _).mono ?_
 rintro e w1 ⟨b, rfl, hle, hS, hb⟩
 simp only [World.size_alloc] at hle
 have hB := bel_trans (bel_alloc (bel_refl w) _) hb
 have hbk : Blk w1 w.heap.size _ 30 := Blk.grow (Blk.new _ _ _) hb
 have r0 := hbk.row
 have lb := hbk.lt
 rw [← hbk.rw]
 clear hb hbk
 go_wp2_with fail
 refine bodyPost_ret (by simp [results, Tryz.results88, go_sem, *]) rfl ⟨b, rfl, hS.rowO _ (by omega), bel_by⟩
end Go.Proofs.YtccnkebkgegohaaGreatDoor
end
