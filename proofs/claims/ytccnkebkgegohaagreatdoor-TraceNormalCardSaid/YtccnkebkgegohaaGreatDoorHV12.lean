import Derived.Test.YtccnkebkgegohaaGreatDoorHU1
import Derived.Shelf.SlSortCmp.WholeK
import Derived.Test.YtccnkebkgegohaaGreatDoorProg
/-
  Given contracts of functions of the program, and laws for them, one behind the other.
-/
set_option linter.unusedVariables false
set_option linter.unusedSimpArgs false
set_option linter.unusedSectionVars false
section
namespace Go.Proofs.YtccnkebkgegohaaGreatDoor
open Go.RowKit Go.Rel
set_option maxRecDepth 100000
/-! normal, of the reference -/
theorem wpList_app_ac {ops : Array Oper} {rest : List Oper} {o : Oper} {a : Act} {Q : Exit → Act → World → Prop} {w : World} (hgd : o.guard = none) (s x : Operand)
  (ho : o.op = .call { callee := .builtin .append, args := #[s, x], argTypes := #[28, 28] }) (hty : o.type = 28) (base : Nat) (v u : Value) (xs ys : List Ac) (hs : a.eval s = v) (hx : a.eval x = u)
  (hown : OwnA w base v xs) (hu : SlN w u ys) (hk : xs.length + ys.length ≤ 1048576) (hbase : base ≤ w.heap.size)
  (h : ∀ v' w', OwnA w' base v' (xs ++ ys) → w.grownBy w' v.ownBlock → wpList Tryz.prog ops Q rest (a.put o.dst v') w') : wpList Tryz.prog ops Q (o :: rest) a w := by
 refine wpList_plain hgd fun K hK => ?_
 obtain ⟨v', w', hr, h2, h3⟩ := app_ac hown hu hk hbase
 unfold Oper.wp execOp
 simp only [ho, hty, resolve, invoke, builtin, Sem.run_bind, Sem.run_pure, Result.andThen_ok, List.map_toArray, List.map_cons, List.map_nil, hs, hx, hr]
 exact hK _ _ (h v' w' h2 h3)
theorem sln_one {w : World} {g : Nat} {x : Ac} (h : Blk w g #[.int .u8 x.1, .int .i64 x.2.1, .int .u64 (pl x.2.2 0), .int .u64 (pl x.2.2 1), .int .u64 (pl x.2.2 2), .int .u64 (pl x.2.2 3), .int .u64 (pl x.2.2 4), .int .u64 (pl x.2.2 5), .int .u64 (pl x.2.2 6), .int .u64 (pl x.2.2 7)] 46) : SlN w (.slice (some ⟨g, 0, none⟩) 1 1) [x] :=
 ⟨Sl.ofBlk h rfl (by decide) (by simp [acL]) (by simp [acL, solL]), fun _ _ e => by cases e⟩
theorem bestL_rng (l : List Sol) (m : List Ac) : ∀ k, bestL l m k = -1 ∨ ∃ j : Nat, j < k ∧ bestL l m k = (j : Int)
 | 0 => .inl rfl
 | k + 1 => by
  unfold bestL
  split
  ·exact .inr ⟨k, Nat.lt_succ_self _, rfl⟩
  ·rcases bestL_rng l m k with h | ⟨j, h1, h2⟩
   ·exact .inl h
   ·exact .inr ⟨j, by omega, h2⟩
theorem bestL_no {l : List Sol} {m : List Ac} {k : Nat} (h : freeL l m k = false) : bestL l m (k + 1) = bestL l m k := by
 rw [bestL, h]; rfl
theorem bestL_first {l : List Sol} {m : List Ac} {k : Nat} (h : freeL l m k = true) (hb : bestL l m k = -1) : bestL l m (k + 1) = (k : Int) := by
 rw [bestL, h, hb]; rfl
theorem bestL_cmp {l : List Sol} {m : List Ac} {k j : Nat} {x y : Ac} (h : freeL l m k = true) (hb : bestL l m k = (j : Int)) (hx : m[k]? = some x) (hy : m[j]? = some y) : bestL l m (k + 1) = if decide (cmpA x y < 0) then (k : Int) else (j : Int) := by
 have ex : atN m k = x := by unfold atN; rw [List.getD_eq_getElem?_getD, hx]; rfl
 have ey : atN m j = y := by unfold atN; rw [List.getD_eq_getElem?_getD, hy]; rfl
 rw [bestL, h, hb, Int.toNat_natCast, ex, ey]
 have : decide ((j : Int) < 0) = false := by simp
 rw [this]
 rfl
def lenS : Value → Nat
 | .slice _ n _ => n
 | _ => 0

set_option maxHeartbeats 16000000 in
theorem normal123_main (b : Sol) (p : Option Addr) (n c : Nat) (q : Option Addr) (k d : Nat) (l : List Sol) (m : List Ac) (w : World) (F : Fine l m) (Hv : SlS w (.slice p n c) l) (Hm : SlN w (.slice q k d) m) (hk : m.length = k) (hkd : k ≤ d) (hd : d ≤ 9223372036854775807) (hlen : k ≤ 1048576) :
  Calls Tryz.prog 123 #[.agg #[.int .u64 (pl b 0), .int .u64 (pl b 1), .int .u64 (pl b 2), .int .u64 (pl b 3), .int .u64 (pl b 4), .int .u64 (pl b 5), .int .u64 (pl b 6), .int .u64 (pl b 7), .slice p n c], .slice q k d] w fun e w' => ∃ u, e = .returned u ∧ OwnA w' w.heap.size u (normR l k m) ∧ Below w.heap.size w w' := by
 have HV := Lib.hid Hv
 have HF := Lib.hid F
 generalize hR : normR l k m = R
 have HR := Lib.hid hR
 have HM := Lib.hid (And.intro Hm hk)
 clear Hv F hR Hm hk
 go_enter Tryz.func123, Tryz.ntmps123
 go_wp2_with fail
 have hbe : Below w.heap.size w (w.alloc (.cells (#[.int .u64 (pl b 0), .int .u64 (pl b 1), .int .u64 (pl b 2), .int .u64 (pl b 3), .int .u64 (pl b 4), .int .u64 (pl b 5), .int .u64 (pl b 6), .int .u64 (pl b 7), .slice p n c] : Array Value) 27)) := bel_alloc (bel_refl _) _
 have g0 : Blk (w.alloc (.cells (#[.int .u64 (pl b 0), .int .u64 (pl b 1), .int .u64 (pl b 2), .int .u64 (pl b 3), .int .u64 (pl b 4), .int .u64 (pl b 5), .int .u64 (pl b 6), .int .u64 (pl b 7), .slice p n c] : Array Value) 27)) w.heap.size #[.int .u64 (pl b 0), .int .u64 (pl b 1), .int .u64 (pl b 2), .int .u64 (pl b 3), .int .u64 (pl b 4), .int .u64 (pl b 5), .int .u64 (pl b 6), .int .u64 (pl b 7), .slice p n c] 27 := Blk.new _ _ _
 generalize (w.alloc (.cells (#[.int .u64 (pl b 0), .int .u64 (pl b 1), .int .u64 (pl b 2), .int .u64 (pl b 3), .int .u64 (pl b 4), .int .u64 (pl b 5), .int .u64 (pl b 6), .int .u64 (pl b 7), .slice p n c] : Array Value) 27)) = w0 at *
 go_loopw [1, 5] (fun tv ov wr => ∃ (q' : Option Addr) (k' d' : Nat) (m' dn : List Ac) (uv : Value), tv = .slice q' k' d' ∧ uv = ov ∧ Hid (k' ≤ d' ∧ d' ≤ 9223372036854775807 ∧ dn.length + k' ≤ 1048576) ∧ Hid (SlN wr (.slice q' k' d') m' ∧ m'.length = k' ∧ Fine l m') ∧ Hid (OwnA wr (w.heap.size + 1) uv dn ∧ (∀ a, q' = some a → uv.ownBlock ≠ some a.block)) ∧ Hid (dn ++ normR l k' m' = R) ∧ Blk wr w.heap.size #[.int .u64 (pl b 0), .int .u64 (pl b 1), .int .u64 (pl b 2), .int .u64 (pl b 3), .int .u64 (pl b 4), .int .u64 (pl b 5), .int .u64 (pl b 6), .int .u64 (pl b 7), .slice p n c] 27 ∧ Below w.heap.size w wr) (fun tv _ _ => lenS tv)
 case atStart => exact ⟨q, k, d, m, [], _, rfl, rfl, Lib.hid ⟨hkd, hd, by simpa using hlen⟩, Lib.hid ⟨HM.out.1.mono hbe, HM.out.2, HF.out⟩, Lib.hid ⟨World.ownsRow_nil _ _ _ _, fun _ _ e => by cases e⟩, Lib.hid (by simpa using HR.out), g0, hbe⟩
 case round =>
  clear g0 hbe hkd hd hlen HM HR HF
  obtain ⟨q, k, d, m, dn, uv, rfl, rfl, HN, HM, HO, HR, g0, hB⟩ := hrel
  obtain ⟨W1, hW⟩ : ∃ W1, W1 = wr := ⟨_, rfl⟩
  subst hW
  by_cases h0 : 0 < k
  ·have hk1 : k ≤ 1048576 := by have := HN.out.2.2; omega
   have hmk := HM.out.2.1
   have hx0 : m[0]? = some (m[0]'(by omega)) := by simp
   obtain ⟨ab, ao, rfl, hcs⟩ := acs_at HM.out.1.1 hx0
   have hab := hcs.1
   have HCS := Lib.hid hcs
   clear hcs hx0 hmk
   have HF : Hid (∀ (i : Nat) (y : Ac) w', m[i]? = some y → Below W1.heap.size W1 w' → Calls Tryz.prog 112 #[.agg #[.int .u64 (pl b 0), .int .u64 (pl b 1), .int .u64 (pl b 2), .int .u64 (pl b 3), .int .u64 (pl b 4), .int .u64 (pl b 5), .int .u64 (pl b 6), .int .u64 (pl b 7), .slice p n c], .slice (some ⟨ab, ao, none⟩) k d, .int .i64 (i : Int)] w' fun e w'' => e = .returned (.bool (freeL l m i)) ∧ Below w'.heap.size w' w'') := Lib.hid fun i y w' hy hb => free112_main b p n c ab ao k d l m i y hy (HM.out.2.2.fit) w' (HV.out.mono (bel_trans hB hb)) (HCS.out.mono hb HCS.out.1) HM.out.2.1 HN.out.1 HN.out.2.1
   go_wp2_with fail
   have hwr : Below W1.heap.size W1 W1 := Below.refl _ _
   go_loopw [6, 7] (fun bv iv wr => ∃ i : Nat, i ≤ k ∧ iv = .int .i64 i ∧ bv = .int .i64 (bestL l m i) ∧ Blk wr w.heap.size #[.int .u64 (pl b 0), .int .u64 (pl b 1), .int .u64 (pl b 2), .int .u64 (pl b 3), .int .u64 (pl b 4), .int .u64 (pl b 5), .int .u64 (pl b 6), .int .u64 (pl b 7), .slice p n c] 27 ∧ Below W1.heap.size W1 wr) (fun _ iv _ => k - (intOf iv).toNat)
   case atStart => exact ⟨0, Nat.zero_le _, rfl, rfl, g0, hwr⟩
   case round =>
    clear g0 hwr
    obtain ⟨i, hi, rfl, rfl, g0, hb4⟩ := hrel
    by_cases hlt : i < k
    ·have hmk := HM.out.2.1
     have hx : m[i]? = some (m[i]'(by omega)) := by simp
     generalize m[i]'(by omega) = x at hx
     have c0 := g0.cell
     have l0 := g0.lt
     have labr : ab < wr.heap.size := Nat.lt_of_lt_of_le hab hb4.size
     obtain ⟨b0, b1, b2, b3, b4, b5, b6, b7, b8, b9⟩ := ac_cells (HCS.out.mono hb4 HCS.out.1) hx
     obtain ⟨r, hr⟩ : ∃ r, freeL l m i = r := ⟨_, rfl⟩
     have HI : Hid (∀ w', Below W1.heap.size W1 w' → Calls Tryz.prog 112 #[.agg #[.int .u64 (pl b 0), .int .u64 (pl b 1), .int .u64 (pl b 2), .int .u64 (pl b 3), .int .u64 (pl b 4), .int .u64 (pl b 5), .int .u64 (pl b 6), .int .u64 (pl b 7), .slice p n c], .slice (some ⟨ab, ao, none⟩) k d, .int .i64 (i : Int)] w' fun e w'' => e = .returned (.bool r) ∧ Below w'.heap.size w' w'') := by
      subst hr; exact Lib.hid fun w' hb => HF.out i x w' hx hb
     have HX := Lib.hid (And.intro hx hr)
     obtain ⟨bv, hbv⟩ : ∃ bv, bestL l m i = bv := ⟨_, rfl⟩
     rw [hbv]
     have HBV := Lib.hid hbv
     have hrg := bestL_rng l m i
     rw [hbv] at hrg
     clear hx hr hmk hbv
     go_wp2_with fail
     cases r with
     | false =>
      clear b0 b1 b2 b3 b4 b5 b6 b7 b8 b9
      refine wp_region_inv Grows (fun _ _ => True) [Is (.agg #[.int .u64 (pl b 0), .int .u64 (pl b 1), .int .u64 (pl b 2), .int .u64 (pl b 3), .int .u64 (pl b 4), .int .u64 (pl b 5), .int .u64 (pl b 6), .int .u64 (pl b 7), .slice p n c]), Is (.slice (some ⟨ab, ao, none⟩) k d), Is (.int .i64 (i : Int)), Is (.bool false), Is (.bool false), AnyV, AnyV, Is undef, AnyV, AnyV, AnyV, AnyV, AnyV, AnyV, AnyV, AnyV, AnyV, AnyV, Is (.bool false)] (by kernel_rfl) (by kernel_rfl) rfl Grows.refl (fun _ _ _ => Grows.trans) (stable_mem ⟨fun _ _ _ h _ => h, fun _ _ _ h _ => h, fun _ _ _ h _ => h, fun _ _ _ h _ => h, fun _ _ _ h _ => h, fun _ _ _ h _ => h, fun _ _ _ h _ => h, fun _ _ _ h _ => h, fun _ _ _ h _ => h, fun _ _ _ h _ => h, fun _ _ _ h _ => h, fun _ _ _ h _ => h, fun _ _ _ h _ => h, fun _ _ _ h _ => h, fun _ _ _ h _ => h, fun _ _ _ h _ => h, fun _ _ _ h _ => h, fun _ _ _ h _ => h, fun _ _ _ h _ => h, trivial⟩) _ (Below.drew (Below.refl _ _)) trivial ?_
      iterate 3 (refine inv_cons ?_ (fun _ => ?_); · intro L w1 hat hb hI hF; have hc := (Grows.cells hb).1; (try simp [factsI, Region.binds, Is] at hF); go_simp; (try first | exact Grows.refl _ | exact trivial | rfl))
      refine inv_cons ?_ (fun v3 => ?_)
      ·intro L w1 hat hb hI hF; have hc := (Grows.cells hb).1; try simp [factsI, Region.binds, Is] at hF
       go_simp
       refine (HI.out _ (bel_trans hb4 hb)).mono ?_
       rintro e w2 ⟨rfl, hb2⟩
       exact ⟨rfl, hb2⟩
      iterate 15 (refine inv_cons ?_ (fun _ => ?_); · intro L w1 hat hb hI hF; have hc := (Grows.cells hb).1; (try simp [factsI, Region.binds, Is] at hF); go_simp; (try first | exact Grows.refl _ | exact trivial | rfl))
      refine inv_nil ?_
      intro w1 hb hI hF
      simp [Is, Nat.forall_lt_succ_right] at hF
      have e0 := hF.1.1.1.1.1.1.1.1.1.1.1.1.1.1.1.1.1.1
      have e1 := hF.1.1.1.1.1.1.1.1.1.1.1.1.1.1.1.1.1.2
      have e2 := hF.1.1.1.1.1.1.1.1.1.1.1.1.1.1.1.1.2
      have e3 := hF.1.1.1.1.1.1.1.1.1.1.1.1.1.1.1.2
      have e4 := hF.1.1.1.1.1.1.1.1.1.1.1.1.1.1.2
      have e5 := hF.1.1.1.1.1.1.1.1.1.1.1.1.1.2
      have e6 := hF.1.1.1.1.1.1.1.1.1.1.1.1.2
      have e7 := hF.1.1.1.1.1.1.1.1.1.1.1.2
      have e8 := hF.1.1.1.1.1.1.1.1.1.1.2
      have e9 := hF.1.1.1.1.1.1.1.1.1.2
      have e10 := hF.1.1.1.1.1.1.1.1.2
      have e11 := hF.1.1.1.1.1.1.1.2
      have e12 := hF.1.1.1.1.1.1.2
      have e13 := hF.1.1.1.1.1.2
      have e14 := hF.1.1.1.1.2
      have e15 := hF.1.1.1.2
      have e16 := hF.1.1.2
      have e17 := hF.1.2
      have e18 := hF.2
      clear hF
      simp only [Act.put, List.setIfInBounds_toArray, List.set_cons_succ, List.set_cons_zero, e0, e1, e2, e3, e4, e7, e18]
      clear e0 e1 e2 e3 e4 e7 e18
      have hb5 := hb4.trans (hb.mono hb4.size)
      have g0' := g0.grow hb
      clear g0 hb4 hb hI
      go_wp2_with fail
      go_roundw
      case rel => exact ⟨i + 1, by omega, by go_num, by rw [bestL_no HX.out.2, HBV.out], g0', hb5⟩
      case measure => simp [intOf]; omega
     | true =>
      rcases hrg with rfl | ⟨j, hj, rfl⟩
      ·clear b0 b1 b2 b3 b4 b5 b6 b7 b8 b9
       refine wp_region_inv Grows (fun _ _ => True) [Is (.agg #[.int .u64 (pl b 0), .int .u64 (pl b 1), .int .u64 (pl b 2), .int .u64 (pl b 3), .int .u64 (pl b 4), .int .u64 (pl b 5), .int .u64 (pl b 6), .int .u64 (pl b 7), .slice p n c]), Is (.slice (some ⟨ab, ao, none⟩) k d), Is (.int .i64 (i : Int)), Is (.bool true), Is (.bool true), Is (.int .i64 (-1)), Is (.bool true), Is (.bool true), AnyV, AnyV, AnyV, AnyV, AnyV, AnyV, AnyV, AnyV, AnyV, Is (.bool true), Is (.bool true)] (by kernel_rfl) (by kernel_rfl) rfl Grows.refl (fun _ _ _ => Grows.trans) (stable_mem ⟨fun _ _ _ h _ => h, fun _ _ _ h _ => h, fun _ _ _ h _ => h, fun _ _ _ h _ => h, fun _ _ _ h _ => h, fun _ _ _ h _ => h, fun _ _ _ h _ => h, fun _ _ _ h _ => h, fun _ _ _ h _ => h, fun _ _ _ h _ => h, fun _ _ _ h _ => h, fun _ _ _ h _ => h, fun _ _ _ h _ => h, fun _ _ _ h _ => h, fun _ _ _ h _ => h, fun _ _ _ h _ => h, fun _ _ _ h _ => h, fun _ _ _ h _ => h, fun _ _ _ h _ => h, trivial⟩) _ (Below.drew (Below.refl _ _)) trivial ?_
       iterate 3 (refine inv_cons ?_ (fun _ => ?_); · intro L w1 hat hb hI hF; have hc := (Grows.cells hb).1; (try simp [factsI, Region.binds, Is] at hF); go_simp; (try first | exact Grows.refl _ | exact trivial | rfl))
       refine inv_cons ?_ (fun v3 => ?_)
       ·intro L w1 hat hb hI hF; have hc := (Grows.cells hb).1; try simp [factsI, Region.binds, Is] at hF
        go_simp
        refine (HI.out _ (bel_trans hb4 hb)).mono ?_
        rintro e w2 ⟨rfl, hb2⟩
        exact ⟨rfl, hb2⟩
       iterate 15 (refine inv_cons ?_ (fun _ => ?_); · intro L w1 hat hb hI hF; have hc := (Grows.cells hb).1; (try simp [factsI, Region.binds, Is] at hF); go_simp; (try first | exact Grows.refl _ | exact trivial | rfl))
       refine inv_nil ?_
       intro w1 hb hI hF
       simp [Is, Nat.forall_lt_succ_right] at hF
       have e0 := hF.1.1.1.1.1.1.1.1.1.1.1.1.1.1.1.1.1.1
       have e1 := hF.1.1.1.1.1.1.1.1.1.1.1.1.1.1.1.1.1.2
       have e2 := hF.1.1.1.1.1.1.1.1.1.1.1.1.1.1.1.1.2
       have e3 := hF.1.1.1.1.1.1.1.1.1.1.1.1.1.1.1.2
       have e4 := hF.1.1.1.1.1.1.1.1.1.1.1.1.1.1.2
       have e5 := hF.1.1.1.1.1.1.1.1.1.1.1.1.1.2
       have e6 := hF.1.1.1.1.1.1.1.1.1.1.1.1.2
       have e7 := hF.1.1.1.1.1.1.1.1.1.1.1.2
       have e8 := hF.1.1.1.1.1.1.1.1.1.1.2
       have e9 := hF.1.1.1.1.1.1.1.1.1.2
       have e10 := hF.1.1.1.1.1.1.1.1.2
       have e11 := hF.1.1.1.1.1.1.1.2
       have e12 := hF.1.1.1.1.1.1.2
       have e13 := hF.1.1.1.1.1.2
       have e14 := hF.1.1.1.1.2
       have e15 := hF.1.1.1.2
       have e16 := hF.1.1.2
       have e17 := hF.1.2
       have e18 := hF.2
       clear hF
       simp only [Act.put, List.setIfInBounds_toArray, List.set_cons_succ, List.set_cons_zero, e0, e1, e2, e3, e4, e5, e6, e7, e17, e18]
       clear e0 e1 e2 e3 e4 e5 e6 e7 e17 e18
       have hb5 := hb4.trans (hb.mono hb4.size)
       have g0' := g0.grow hb
       clear g0 hb4 hb hI
       go_wp2_with fail
       go_roundw
       case rel => exact ⟨i + 1, by omega, by go_num, by rw [bestL_first HX.out.2 HBV.out], g0', hb5⟩
       case measure => simp [intOf]; omega
      ·have hmk := HM.out.2.1
       have hy : m[j]? = some (m[j]'(by omega)) := by simp
       generalize m[j]'(by omega) = y at hy
       obtain ⟨d0, d1, d2, d3, d4, d5, d6, d7, d8, d9⟩ := ac_cells (HCS.out.mono hb4 HCS.out.1) hy
       have HY := Lib.hid hy
       have hjk : j < k := by omega
       have hj0 : ¬ ((j : Int) < 0) := by omega
       obtain ⟨dc, hdc⟩ : ∃ dc, decide (cmpA x y < 0) = dc := ⟨_, rfl⟩
       have HDC := Lib.hid hdc
       clear hmk hy hdc
       refine wp_region_inv Grows (fun _ _ => True) [Is (.agg #[.int .u64 (pl b 0), .int .u64 (pl b 1), .int .u64 (pl b 2), .int .u64 (pl b 3), .int .u64 (pl b 4), .int .u64 (pl b 5), .int .u64 (pl b 6), .int .u64 (pl b 7), .slice p n c]), Is (.slice (some ⟨ab, ao, none⟩) k d), Is (.int .i64 (i : Int)), Is (.bool true), Is (.bool true), Is (.int .i64 (j : Int)), Is (.bool false), Is (.bool false), Is (.slice (some ⟨ab, ao, none⟩) k d), Is (.int .i64 (i : Int)), Is (.pointer (some ⟨ab, ao + i * 10, none⟩)), Is (.agg #[.int .u8 x.1, .int .i64 x.2.1, .int .u64 (pl x.2.2 0), .int .u64 (pl x.2.2 1), .int .u64 (pl x.2.2 2), .int .u64 (pl x.2.2 3), .int .u64 (pl x.2.2 4), .int .u64 (pl x.2.2 5), .int .u64 (pl x.2.2 6), .int .u64 (pl x.2.2 7)]), Is (.slice (some ⟨ab, ao, none⟩) k d), Is (.int .i64 (j : Int)), Is (.pointer (some ⟨ab, ao + j * 10, none⟩)), Is (.agg #[.int .u8 y.1, .int .i64 y.2.1, .int .u64 (pl y.2.2 0), .int .u64 (pl y.2.2 1), .int .u64 (pl y.2.2 2), .int .u64 (pl y.2.2 3), .int .u64 (pl y.2.2 4), .int .u64 (pl y.2.2 5), .int .u64 (pl y.2.2 6), .int .u64 (pl y.2.2 7)]), Is (.bool dc), Is (.bool dc), Is (.bool dc)] (by kernel_rfl) (by kernel_rfl) rfl Grows.refl (fun _ _ _ => Grows.trans) (stable_mem ⟨fun _ _ _ h _ => h, fun _ _ _ h _ => h, fun _ _ _ h _ => h, fun _ _ _ h _ => h, fun _ _ _ h _ => h, fun _ _ _ h _ => h, fun _ _ _ h _ => h, fun _ _ _ h _ => h, fun _ _ _ h _ => h, fun _ _ _ h _ => h, fun _ _ _ h _ => h, fun _ _ _ h _ => h, fun _ _ _ h _ => h, fun _ _ _ h _ => h, fun _ _ _ h _ => h, fun _ _ _ h _ => h, fun _ _ _ h _ => h, fun _ _ _ h _ => h, fun _ _ _ h _ => h, trivial⟩) _ (Below.drew (Below.refl _ _)) trivial ?_
       iterate 3 (refine inv_cons ?_ (fun _ => ?_); · intro L w1 hat hb hI hF; have hc := (Grows.cells hb).1; (try simp [factsI, Region.binds, Is] at hF); go_simp; (try first | exact Grows.refl _ | exact trivial | rfl))
       refine inv_cons ?_ (fun v3 => ?_)
       ·intro L w1 hat hb hI hF; have hc := (Grows.cells hb).1; try simp [factsI, Region.binds, Is] at hF
        go_simp
        refine (HI.out _ (bel_trans hb4 hb)).mono ?_
        rintro e w2 ⟨rfl, hb2⟩
        exact ⟨rfl, hb2⟩
       iterate 12 (refine inv_cons ?_ (fun _ => ?_); · intro L w1 hat hb hI hF; have hc := (Grows.cells hb).1; (try simp [factsI, Region.binds, Is] at hF); go_simp; (try first | exact Grows.refl _ | exact trivial | rfl))
       refine inv_cons ?_ (fun v16 => ?_)
       ·intro L w1 hat hb hI hF; have hc := (Grows.cells hb).1; try simp [factsI, Region.binds, Is] at hF
        go_simp
        refine (Less164_spec x y _).mono ?_
        rintro e w2 ⟨rfl, hb2⟩
        exact ⟨by rw [HDC.out], hb2⟩
       iterate 2 (refine inv_cons ?_ (fun _ => ?_); · intro L w1 hat hb hI hF; have hc := (Grows.cells hb).1; (try simp [factsI, Region.binds, Is] at hF); go_simp; (try first | exact Grows.refl _ | exact trivial | rfl))
       refine inv_nil ?_
       intro w1 hb hI hF
       simp [Is, Nat.forall_lt_succ_right] at hF
       simp only [Act.put, List.setIfInBounds_toArray, List.set_cons_succ, List.set_cons_zero, hF]
       clear hF
       have hb5 := hb4.trans (hb.mono hb4.size)
       have g0' := g0.grow hb
       clear g0 hb4 hb hI b0 b1 b2 b3 b4 b5 b6 b7 b8 b9 d0 d1 d2 d3 d4 d5 d6 d7 d8 d9
       have hN := bestL_cmp HX.out.2 HBV.out HX.out.1 HY.out
       rw [HDC.out] at hN
       have HNN := Lib.hid hN
       clear hN
       cases dc with
       | true =>
        go_wp2_with fail
        go_roundw
        case rel => exact ⟨i + 1, by omega, by go_num, by rw [HNN.out]; rfl, g0', hb5⟩
        case measure => simp [intOf]; omega
       | false =>
        go_wp2_with fail
        go_roundw
        case rel => exact ⟨i + 1, by omega, by go_num, by rw [HNN.out]; rfl, g0', hb5⟩
        case measure => simp [intOf]; omega
    ·have hik : i = k := by omega
     subst hik
     have HB : ∃ (j : Nat) (y : Ac), bestL l m i = (j : Int) ∧ j < i ∧ m[j]? = some y := by
      have hmk := HM.out.2.1
      obtain ⟨j, x, xs, h1, h2⟩ := best_all HM.out.2.2 (fun e => by subst e; simp at hmk; omega)
      rw [hmk] at h1
      have h3 := h2.lt
      exact ⟨j, m[j], h1, by omega, by simp⟩
     obtain ⟨j, y, hbj, hji, hy⟩ := HB
     have HY := Lib.hid (And.intro hbj hy)
     rw [hbj]
     obtain ⟨d0, d1, d2, d3, d4, d5, d6, d7, d8, d9⟩ := ac_cells (HCS.out.mono hb4 HCS.out.1) hy
     have labr : ab < wr.heap.size := Nat.lt_of_lt_of_le hab hb4.size
     have HO2 : Hid (OwnA wr (w.heap.size + 1) uv dn) := Lib.hid (own_grow HO.out.1 hb4)
     have HM2 : Hid (SlN wr (.slice (some ⟨ab, ao, none⟩) i d) m) := Lib.hid (HM.out.1.mono hb4)
     have hBq := bel_trans hB hb4
     clear hbj hy
     go_wp2_with (first
      | (at_builtin; refine wpList_app_ac rfl _ _ rfl rfl (w.heap.size + 1) uv (.slice (some ⟨wr.heap.size, 0, none⟩) 1 1) dn [y] rfl rfl (own_grow HO2.out (bel_alloc (bel_refl _) _)) (sln_one (Blk.new _ _ _)) (by have := HN.out.2.2; simp; omega) (by have := g0.lt; simp; omega) ?_; intro v' w3 hO3 hg3))
     have hs3 : SlN w3 (.slice (some ⟨ab, ao, none⟩) i d) m := sln_keep (HM2.out.mono (bel_alloc (bel_refl _) _)) HO.out.2 hg3
     have hB3 : Below w.heap.size w w3 := (bel_alloc hBq _).grown hg3 (by simp; have := hBq.size; omega) (fun j hj => by have := (HO2.out.lt j hj).1; omega)
     have hO3' := Lib.hid hO3
     have HG3 := Lib.hid hg3
     clear hO3 hg3
     refine (drop121_spec _ i d j m w3 hs3 HM.out.2.1 hji HN.out.1 HN.out.2.1 hk1).mono ?_
     rintro e w4 ⟨bw, rfl, hO4, hb⟩
     obtain ⟨i', rfl⟩ : ∃ i', i = i' + 1 := ⟨i - 1, by omega⟩
     have hlen : (dropL m j).length = i' := by rw [dropL_len (by rw [HM.out.2.1]; exact hji), HM.out.2.1]; rfl
     obtain ⟨q4, d4, rfl, hd4, hd4m⟩ := own_shapeK hO4 hlen
     have HSEP : ∀ a, q4 = some a → v'.ownBlock ≠ some a.block := by
      intro a ha he
      have h1 := (hO3'.out.lt _ he).2
      have h2 := (hO4.lt a.block (by rw [ha]; rfl)).1
      omega
     have HO5 := Lib.hid (And.intro (own_grow hO3'.out hb) HSEP)
     have HM5 := Lib.hid (And.intro (OwnA.sln hO4) (And.intro hlen (HM.out.2.2.sub (m' := dropL m j) fun a ha => dropL_sub ha)))
     have HR5 : Hid ((dn ++ [y]) ++ normR l i' (dropL m j) = R) := by
      have h1 := HR.out
      unfold normR at h1
      have hat : atN m j = y := by unfold atN; rw [List.getD_eq_getElem?_getD, HY.out.2]; rfl
      rw [HM.out.2.1, HY.out.1, Int.toNat_natCast, hat] at h1
      exact Lib.hid (by rw [← h1]; simp)
     have hB5 : Below w.heap.size w w4 := bel_trans hB3 hb
     have g5 : Blk w4 w.heap.size #[.int .u64 (pl b 0), .int .u64 (pl b 1), .int .u64 (pl b 2), .int .u64 (pl b 3), .int .u64 (pl b 4), .int .u64 (pl b 5), .int .u64 (pl b 6), .int .u64 (pl b 7), .slice p n c] 27 := by
      have h1 := g0.alloc (.cells (#[.int .u8 y.1, .int .i64 y.2.1, .int .u64 (pl y.2.2 0), .int .u64 (pl y.2.2 1), .int .u64 (pl y.2.2 2), .int .u64 (pl y.2.2 3), .int .u64 (pl y.2.2 4), .int .u64 (pl y.2.2 5), .int .u64 (pl y.2.2 6), .int .u64 (pl y.2.2 7)] : Array Value) 46)
      exact (h1.kept (HG3.out.block _ h1.lt (fun e => by have := (HO2.out.lt _ e.symm).1; omega))).grow hb
     clear hO4 HSEP hs3
     go_wp2_with fail
     go_roundw
     case rel => exact ⟨q4, i', d4, dropL m j, dn ++ [y], v', rfl, rfl, Lib.hid ⟨hd4, hd4m, by have := HN.out.2.2; simp; omega⟩, HM5, HO5, HR5, g5, hB5⟩
     case measure => simp [lenS]
  ·have hk0 : k = 0 := by omega
   subst hk0
   have hRd : dn = R := by simpa [normR] using HR.out
   subst hRd
   go_wp2_with fail
   refine bodyPost_ret (v := uv) (by simp [results, Tryz.results123, go_sem]) rfl ⟨uv, rfl, own_weak HO.out.1 (by omega), hB⟩
end Go.Proofs.YtccnkebkgegohaaGreatDoor
end
section
namespace Go.Proofs.YtccnkebkgegohaaGreatDoor
open Go.RowKit Go.Rel
set_option maxRecDepth 100000
/-! two histories, of the reference -/
/-- a list of acts and an error -/
def LRes (M : List Ac) (E : Int) (w : World) (e : Ending) (w' : World) : Prop := ∃ u, e = .returned (.tuple #[u, .int .i64 E]) ∧ SlA w' u M ∧ Below w.heap.size w w'
set_option maxHeartbeats 4000000 in
theorem two124_spec (b b2 : Sol) (p q p2 q2 : Option Addr) (n c k d n2 c2 k2 d2 : Nat) (x y x2 y2 : Int) (w : World)
  (H : Hid (∀ w', Below w.heap.size w w' → Calls Tryz.prog 38 #[.agg #[.int .u64 (pl b 0), .int .u64 (pl b 1), .int .u64 (pl b 2), .int .u64 (pl b 3), .int .u64 (pl b 4), .int .u64 (pl b 5), .int .u64 (pl b 6), .int .u64 (pl b 7), .slice p n c, .slice q k d]] w' fun e w'' => e = .returned (.tuple #[.int .i64 x, .int .i64 y]) ∧ Below w'.heap.size w' w''))
  (H2 : Hid (∀ w', Below w.heap.size w w' → Calls Tryz.prog 38 #[.agg #[.int .u64 (pl b2 0), .int .u64 (pl b2 1), .int .u64 (pl b2 2), .int .u64 (pl b2 3), .int .u64 (pl b2 4), .int .u64 (pl b2 5), .int .u64 (pl b2 6), .int .u64 (pl b2 7), .slice p2 n2 c2, .slice q2 k2 d2]] w' fun e w'' => e = .returned (.tuple #[.int .i64 x2, .int .i64 y2]) ∧ Below w'.heap.size w' w'')) :
  Calls Tryz.prog 124 #[.agg #[.int .u64 (pl b 0), .int .u64 (pl b 1), .int .u64 (pl b 2), .int .u64 (pl b 3), .int .u64 (pl b 4), .int .u64 (pl b 5), .int .u64 (pl b 6), .int .u64 (pl b 7), .slice p n c, .slice q k d], .agg #[.int .u64 (pl b2 0), .int .u64 (pl b2 1), .int .u64 (pl b2 2), .int .u64 (pl b2 3), .int .u64 (pl b2 4), .int .u64 (pl b2 5), .int .u64 (pl b2 6), .int .u64 (pl b2 7), .slice p2 n2 c2, .slice q2 k2 d2]] w fun e w' => e = .returned (.int .i64 (if y == 0 then y2 else y)) ∧ Below w.heap.size w w' := by
 obtain ⟨r, hr⟩ : ∃ r, (y == 0) = r := ⟨_, rfl⟩
 rw [hr]
 go_enter Tryz.func124, Tryz.ntmps124
 go_wp2_with fail
 refine (H.out _ bel_by).mono ?_
 rintro e w1 ⟨rfl, hb⟩
 have g1 : Blk w1 (w.heap.size + 1) #[.int .u64 (pl b2 0), .int .u64 (pl b2 1), .int .u64 (pl b2 2), .int .u64 (pl b2 3), .int .u64 (pl b2 4), .int .u64 (pl b2 5), .int .u64 (pl b2 6), .int .u64 (pl b2 7), .slice p2 n2 c2, .slice q2 k2 d2] 30 := Blk.grow blk_by hb
 have hB1 : Below w.heap.size w w1 := bel_trans bel_by hb
 have c1 := g1.cell
 have l1 := g1.lt
 clear hb H
 cases r with
 | false =>
  go_wp2_with fail
  refine bodyPost_ret (v := .int .i64 y) (by simp [results, Tryz.results124, go_sem]) rfl ⟨rfl, hB1⟩
 | true =>
  go_wp2_with fail
  refine (H2.out _ (bel_trans hB1 bel_by)).mono ?_
  rintro e w2 ⟨rfl, hb⟩
  have hB2 := bel_trans hB1 (bel_trans bel_by hb)
  clear c1 l1 hb H2
  go_wp2_with fail
  refine bodyPost_ret (v := .int .i64 y2) (by simp [results, Tryz.results124, go_sem]) rfl ⟨rfl, hB2⟩
end Go.Proofs.YtccnkebkgegohaaGreatDoor
end
section
namespace Go.Proofs.YtccnkebkgegohaaGreatDoor
open Go.RowKit Go.Rel
set_option maxRecDepth 100000
theorem sl_len {w : World} {q : Option Addr} {k d : Nat} {m : List Ac} (h : SlA w (.slice q k d) m) : m.length = k := by
 obtain ⟨q', d', he, _⟩ := h
 injection he with h1 h2 h3
 rw [h2, List.length_map]

end Go.Proofs.YtccnkebkgegohaaGreatDoor
end
section
namespace Go.Proofs.YtccnkebkgegohaaGreatDoor
open Go.RowKit Go.Rel
set_option maxRecDepth 100000
end Go.Proofs.YtccnkebkgegohaaGreatDoor
end
section
namespace Go.Proofs.YtccnkebkgegohaaGreatDoor
open Go.RowKit Go.Rel
set_option maxRecDepth 100000
/-! rest, of the reference -/
def restPost (l : List Sol) (R : Option (List Ac)) (w : World) (e : Ending) (w' : World) : Prop := match R with
 | none => e = .returned (.tuple #[.slice none 0 0, .bool false]) ∧ Below w.heap.size w w'
 | some r => ∃ u, e = .returned (.tuple #[u, .bool true]) ∧ OwnA w' w.heap.size u (nrm l r) ∧ Below w.heap.size w w'
def fiP (l : List Sol) (y : Ac) (m : List Ac) (j : Nat) : Bool := (atN m j == y) && freeL l m j
end Go.Proofs.YtccnkebkgegohaaGreatDoor
end
section
namespace Go.Proofs.YtccnkebkgegohaaGreatDoor
open Go.RowKit Go.Rel
set_option maxRecDepth 100000
/-! Begins, Rest and Common of the reference -/
def restM (l : List Sol) : Option (List Ac) → List Ac
 | none => []
 | some r => nrm l r
def restE : Option (List Ac) → Int
 | none => 44
 | some _ => 0
end Go.Proofs.YtccnkebkgegohaaGreatDoor
end
section
namespace Go.Proofs.YtccnkebkgegohaaGreatDoor
open Go.RowKit Go.Rel
set_option maxRecDepth 100000
structure InvC (g4 g5 base : Nat) (sa sb : Value) (A B : List Ac) (x y : Ac) (p q : Bool) (W : World) : Prop where
 a : Blk W g4 (bif p then acA x else zeroA) 46
 b : Blk W g5 (bif q then acA y else zeroA) 46
 oa : OwnA W base sa A
 ob : OwnA W base sb B
 lt : g4 < g5 ∧ g5 < base
section
variable {g4 g5 base : Nat} {sa sb : Value} {A B : List Ac} {x y : Ac} {p q : Bool} {W : World}
theorem InvC.grow {W' : World} (H : InvC g4 g5 base sa sb A B x y p q W) (hb : Below W.heap.size W W') : InvC g4 g5 base sa sb A B x y p q W' := ⟨H.a.grow hb, H.b.grow hb, own_grow H.oa hb, own_grow H.ob hb, H.lt⟩
end
def meP (l : List Sol) (A B : List Ac) (i k : Nat) : Bool := meetsB (acCells l (atN A i)) (acCells l (atN B k))
end Go.Proofs.YtccnkebkgegohaaGreatDoor
end
section
namespace Go.Proofs.YtccnkebkgegohaaGreatDoor
open Go.RowKit Go.Rel
set_option maxRecDepth 100000
end Go.Proofs.YtccnkebkgegohaaGreatDoor
end
section
namespace Go.Proofs.YtccnkebkgegohaaGreatDoor
open Go.RowKit Go.Rel
set_option maxRecDepth 100000
section
variable {b b2 : Sol} {l l2 : List Sol} {g h : List Ac} {t u : StB} {v av v2 av2 : Value}
end
end Go.Proofs.YtccnkebkgegohaaGreatDoor
end
section
namespace Go.Proofs.YtccnkebkgegohaaGreatDoor
open Go.RowKit Go.Rel
set_option maxRecDepth 100000
end Go.Proofs.YtccnkebkgegohaaGreatDoor
end
section
namespace Go.Proofs.YtccnkebkgegohaaGreatDoor
open Go.RowKit Go.Rel
set_option maxRecDepth 100000
theorem hid_on {w w' : World} {φ : World → Prop} (H : Hid (∀ w2, Below w.heap.size w w2 → φ w2)) (hb : Below w.heap.size w w') : Hid (∀ w2, Below w'.heap.size w' w2 → φ w2) := Lib.hid fun w2 hb2 => H.out w2 (bel_trans hb hb2)
end Go.Proofs.YtccnkebkgegohaaGreatDoor
end
section
namespace Go.Proofs.YtccnkebkgegohaaGreatDoor
open Go Go.Shelf Go.RowKit
/-! slices.SortFunc at acts: the shelf's contract laid at function 129 -/
def sortAc_ren : Go.Shelf.Ren := ⟨fun | 6 => 129 | 15 => 167 | 14 => 166 | 28 => 200 | 29 => 201 | 20 => 192 | 21 => 193 | 22 => 194 | 23 => 195 | 24 => 196 | 25 => 197 | 26 => 198 | 27 => 199 | 46 => 218 | 47 => 219 | 48 => 220 | 49 => 221 | 50 => 222 | 57 => 240 | n => n, fun | 22 => 28 | 24 => 46 | 25 => 156 | 3 => 3 | 39 => 41 | 0 => 0 | 53 => 231 | 55 => 22 | 4 => 4 | 46 => 224 | 45 => 223 | 50 => 228 | 5 => 5 | 9 => 9 | 66 => 251 | 70 => 255 | 76 => 270 | 77 => 271 | n => n, fun | n => n⟩
theorem sortAc : Go.Proofs.SlLaysF0.n6 Tryz.prog sortAc_ren := {
 mixed := by kernel_rfl,
 f6 := ⟨Tryz.f129.name, by decide, Tryz.func129.trans (congrArg some (by kernel_rfl))⟩,
 f14 := ⟨Tryz.f166.name, by decide, Tryz.func166.trans (congrArg some (by kernel_rfl))⟩,
 f15 := Tryz.func167.trans (congrArg some (by kernel_rfl)),
 f20 := ⟨Tryz.f192.name, by decide, Tryz.func192.trans (congrArg some (by kernel_rfl))⟩,
 f21 := ⟨Tryz.f193.name, by decide, Tryz.func193.trans (congrArg some (by kernel_rfl))⟩,
 f22 := ⟨Tryz.f194.name, by decide, Tryz.func194.trans (congrArg some (by kernel_rfl))⟩,
 f23 := ⟨Tryz.f195.name, by decide, Tryz.func195.trans (congrArg some (by kernel_rfl))⟩,
 f24 := ⟨Tryz.f196.name, by decide, Tryz.func196.trans (congrArg some (by kernel_rfl))⟩,
 f25 := ⟨Tryz.f197.name, by decide, Tryz.func197.trans (congrArg some (by kernel_rfl))⟩,
 f26 := ⟨Tryz.f198.name, by decide, Tryz.func198.trans (congrArg some (by kernel_rfl))⟩,
 f27 := ⟨Tryz.f199.name, by decide, Tryz.func199.trans (congrArg some (by kernel_rfl))⟩,
 f28 := Tryz.func200.trans (congrArg some (by kernel_rfl)),
 f29 := Tryz.func201.trans (congrArg some (by kernel_rfl)),
 f46 := ⟨Tryz.f218.name, by decide, Tryz.func218.trans (congrArg some (by kernel_rfl))⟩,
 f47 := Tryz.func219.trans (congrArg some (by kernel_rfl)),
 f48 := Tryz.func220.trans (congrArg some (by kernel_rfl)),
 f49 := ⟨Tryz.f221.name, by decide, Tryz.func221.trans (congrArg some (by kernel_rfl))⟩,
 f50 := ⟨Tryz.f222.name, by decide, Tryz.func222.trans (congrArg some (by kernel_rfl))⟩,
 f57 := ⟨Tryz.f240.name, by decide, Tryz.func240.trans (congrArg some (by kernel_rfl))⟩,
 t0 := Tryz.underlying0,
 a0 := Tryz.isAgg0,
 z0 := Tryz.sizeOf0,
 v0 := Tryz.zeroValue0,
 t3 := Tryz.underlying3,
 a3 := Tryz.isAgg3,
 z3 := Tryz.sizeOf3,
 v3 := Tryz.zeroValue3,
 t4 := Tryz.underlying4,
 a4 := Tryz.isAgg4,
 z4 := Tryz.sizeOf4,
 v4 := Tryz.zeroValue4,
 t5 := Tryz.underlying5,
 a5 := Tryz.isAgg5,
 z5 := Tryz.sizeOf5,
 v5 := Tryz.zeroValue5,
 t9 := Tryz.underlying9,
 a9 := Tryz.isAgg9,
 z9 := Tryz.sizeOf9,
 v9 := Tryz.zeroValue9,
 t22 := Tryz.underlying28,
 a22 := Tryz.isAgg28,
 z22 := Tryz.sizeOf28,
 v22 := Tryz.zeroValue28,
 t25 := Tryz.underlying156,
 a25 := Tryz.isAgg156,
 z25 := Tryz.sizeOf156,
 v25 := Tryz.zeroValue156,
 t39 := Tryz.underlying41,
 a39 := Tryz.isAgg41,
 z39 := Tryz.sizeOf41,
 v39 := Tryz.zeroValue41,
 t45 := Tryz.underlying223,
 a45 := Tryz.isAgg223,
 z45 := Tryz.sizeOf223,
 v45 := Tryz.zeroValue223,
 t46 := Tryz.underlying224,
 a46 := Tryz.isAgg224,
 z46 := Tryz.sizeOf224,
 v46 := Tryz.zeroValue224,
 t50 := Tryz.underlying228,
 a50 := Tryz.isAgg228,
 z50 := Tryz.sizeOf228,
 v50 := Tryz.zeroValue228,
 t53 := Tryz.underlying231,
 a53 := Tryz.isAgg231,
 z53 := Tryz.sizeOf231,
 v53 := Tryz.zeroValue231,
 t55 := Tryz.underlying22,
 a55 := Tryz.isAgg22,
 z55 := Tryz.sizeOf22,
 v55 := Tryz.zeroValue22,
 t66 := Tryz.underlying251,
 a66 := Tryz.isAgg251,
 z66 := Tryz.sizeOf251,
 v66 := Tryz.zeroValue251,
 t70 := Tryz.underlying255,
 a70 := Tryz.isAgg255,
 z70 := Tryz.sizeOf255,
 v70 := Tryz.zeroValue255,
 t76 := Tryz.underlying270,
 a76 := Tryz.isAgg270,
 z76 := Tryz.sizeOf270,
 v76 := Tryz.zeroValue270,
 t77 := Tryz.underlying271,
 a77 := Tryz.isAgg271,
 z77 := Tryz.sizeOf271,
 v77 := Tryz.zeroValue271 }
end Go.Proofs.YtccnkebkgegohaaGreatDoor
end
