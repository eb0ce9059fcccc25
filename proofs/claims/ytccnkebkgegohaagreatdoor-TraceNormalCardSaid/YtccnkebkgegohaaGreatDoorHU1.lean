import Derived.Test.YtccnkebkgegohaaGreatDoorHTrk
/-
  Given contracts of functions of the program, and laws for them, one behind the other.
-/
set_option linter.unusedVariables false
set_option linter.unusedSimpArgs false
set_option linter.unusedSectionVars false
section
namespace Go.Proofs.YtccnkebkgegohaaGreatDoor
open Go.RowKit Go.Rel
set_option maxRecDepth 100000
/-! the reference's free -/
theorem freeL_apart {l : List Sol} {m : List Ac} {i : Nat} {x : Ac} (hx : m[i]? = some x) : freeL l m i = (m.take i).all fun z => apartB l z x := by
 unfold freeL apartB
 have : atN m i = x := by unfold atN; rw [List.getD_eq_getElem?_getD, hx]; rfl
 rw [this]
set_option maxHeartbeats 4000000 in
theorem free112_main (b : Sol) (p : Option Addr) (n c ab ao k d : Nat) (l : List Sol) (m : List Ac) (i : Nat) (x : Ac) (hx : m[i]? = some x) (F : ∀ z ∈ m, fits l.length z = true) (w : World) (Hv : SlS w (.slice p n c) l) (hcs : Cells w ab ao 10 (m.map acL)) (hk : m.length = k) (hkd : k ≤ d) (hd : d ≤ 9223372036854775807) :
  Calls Tryz.prog 112 #[.agg #[.int .u64 (pl b 0), .int .u64 (pl b 1), .int .u64 (pl b 2), .int .u64 (pl b 3), .int .u64 (pl b 4), .int .u64 (pl b 5), .int .u64 (pl b 6), .int .u64 (pl b 7), .slice p n c], .slice (some ⟨ab, ao, none⟩) k d, .int .i64 (i : Int)] w fun e w' => e = .returned (.bool (freeL l m i)) ∧ Below w.heap.size w w' := by
 rw [freeL_apart hx]
 have hi : i < k := by rw [← hk]; exact (List.getElem?_eq_some_iff.1 hx).1
 have HX := Lib.hid hx
 have hab := hcs.1
 have HCS := Lib.hid hcs
 have HK := Lib.hid hk
 have HH := Lib.hid fun y (hy : y ∈ m) w' (hb : Below w.heap.size w w') => refApart_spec b (.slice p n c) l y x w' (Hv.mono hb) (F y hy) (F x (List.mem_of_getElem? hx))
 clear hcs hk Hv hx F
 generalize hR : ((m.take i).all fun z => apartB l z x) = R
 have HR := Lib.hid hR
 clear hR
 go_enter Tryz.func112, Tryz.ntmps112
 go_wp2_with fail
 have hbe : Below w.heap.size w (w.alloc (.cells (#[.int .u64 (pl b 0), .int .u64 (pl b 1), .int .u64 (pl b 2), .int .u64 (pl b 3), .int .u64 (pl b 4), .int .u64 (pl b 5), .int .u64 (pl b 6), .int .u64 (pl b 7), .slice p n c] : Array Value) 27)) := bel_alloc (bel_refl _) _
 have g0 : Blk (w.alloc (.cells (#[.int .u64 (pl b 0), .int .u64 (pl b 1), .int .u64 (pl b 2), .int .u64 (pl b 3), .int .u64 (pl b 4), .int .u64 (pl b 5), .int .u64 (pl b 6), .int .u64 (pl b 7), .slice p n c] : Array Value) 27)) w.heap.size #[.int .u64 (pl b 0), .int .u64 (pl b 1), .int .u64 (pl b 2), .int .u64 (pl b 3), .int .u64 (pl b 4), .int .u64 (pl b 5), .int .u64 (pl b 6), .int .u64 (pl b 7), .slice p n c] 27 := Blk.new _ _ _
 generalize (w.alloc (.cells (#[.int .u64 (pl b 0), .int .u64 (pl b 1), .int .u64 (pl b 2), .int .u64 (pl b 3), .int .u64 (pl b 4), .int .u64 (pl b 5), .int .u64 (pl b 6), .int .u64 (pl b 7), .slice p n c] : Array Value) 27)) = w0 at *
 go_loopw [7] (fun kv wr => ∃ j : Nat, j ≤ i ∧ kv = .int .i64 j ∧ Hid (((m.take j).all fun z => apartB l z x) = true) ∧ Blk wr w.heap.size #[.int .u64 (pl b 0), .int .u64 (pl b 1), .int .u64 (pl b 2), .int .u64 (pl b 3), .int .u64 (pl b 4), .int .u64 (pl b 5), .int .u64 (pl b 6), .int .u64 (pl b 7), .slice p n c] 27 ∧ Below w.heap.size w wr) (fun kv _ => i - (intOf kv).toNat)
 case atStart => exact ⟨0, Nat.zero_le _, rfl, by show _ = _; simp, g0, hbe⟩
 case round =>
  clear g0 hbe
  obtain ⟨j, hj, rfl, HP, g0, hB⟩ := hrel
  by_cases hlt : j < i
  ·have hy : m[j]? = some (m[j]'(by rw [HK.out]; omega)) := by simp
   generalize m[j]'(by rw [HK.out]; omega) = y at hy
   obtain ⟨b0, b1, b2, b3, b4, b5, b6, b7, b8, b9⟩ := ac_cells (HCS.out.mono hB HCS.out.1) hy
   obtain ⟨d0, d1, d2, d3, d4, d5, d6, d7, d8, d9⟩ := ac_cells (HCS.out.mono hB HCS.out.1) HX.out
   have HY := Lib.hid hy
   clear hy
   have c0 := g0.cell
   have l0 := g0.lt
   have hszB := hB.size
   have labr : ab < wr.heap.size := by omega
   obtain ⟨r, hr⟩ : ∃ r, apartB l y x = r := ⟨_, rfl⟩
   have HI : Hid (∀ w', Below w.heap.size w w' → Calls Tryz.prog 102 #[.agg #[.int .u64 (pl b 0), .int .u64 (pl b 1), .int .u64 (pl b 2), .int .u64 (pl b 3), .int .u64 (pl b 4), .int .u64 (pl b 5), .int .u64 (pl b 6), .int .u64 (pl b 7), .slice p n c], .agg #[.int .u8 y.1, .int .i64 y.2.1, .int .u64 (pl y.2.2 0), .int .u64 (pl y.2.2 1), .int .u64 (pl y.2.2 2), .int .u64 (pl y.2.2 3), .int .u64 (pl y.2.2 4), .int .u64 (pl y.2.2 5), .int .u64 (pl y.2.2 6), .int .u64 (pl y.2.2 7)], .agg #[.int .u8 x.1, .int .i64 x.2.1, .int .u64 (pl x.2.2 0), .int .u64 (pl x.2.2 1), .int .u64 (pl x.2.2 2), .int .u64 (pl x.2.2 3), .int .u64 (pl x.2.2 4), .int .u64 (pl x.2.2 5), .int .u64 (pl x.2.2 6), .int .u64 (pl x.2.2 7)]] w' fun e w'' => e = .returned (.bool r) ∧ Below w'.heap.size w' w'') := by
    subst hr; exact Lib.hid fun w' hb => HH.out y (List.mem_of_getElem? HY.out) w' hb
   have HRr := Lib.hid hr
   clear hr
   have hjk : j < k := by omega
   go_wp2_with fail
   refine wp_region_inv Grows (fun _ _ => True) [Is (.agg #[.int .u64 (pl b 0), .int .u64 (pl b 1), .int .u64 (pl b 2), .int .u64 (pl b 3), .int .u64 (pl b 4), .int .u64 (pl b 5), .int .u64 (pl b 6), .int .u64 (pl b 7), .slice p n c]), Is (.slice (some ⟨ab, ao, none⟩) k d), Is (.int .i64 (j : Int)), Is (.pointer (some ⟨ab, ao + j * 10, none⟩)), Is (.agg #[.int .u8 y.1, .int .i64 y.2.1, .int .u64 (pl y.2.2 0), .int .u64 (pl y.2.2 1), .int .u64 (pl y.2.2 2), .int .u64 (pl y.2.2 3), .int .u64 (pl y.2.2 4), .int .u64 (pl y.2.2 5), .int .u64 (pl y.2.2 6), .int .u64 (pl y.2.2 7)]), Is (.slice (some ⟨ab, ao, none⟩) k d), Is (.int .i64 (i : Int)), Is (.pointer (some ⟨ab, ao + i * 10, none⟩)), Is (.agg #[.int .u8 x.1, .int .i64 x.2.1, .int .u64 (pl x.2.2 0), .int .u64 (pl x.2.2 1), .int .u64 (pl x.2.2 2), .int .u64 (pl x.2.2 3), .int .u64 (pl x.2.2 4), .int .u64 (pl x.2.2 5), .int .u64 (pl x.2.2 6), .int .u64 (pl x.2.2 7)]), Is (.bool r), Is (.bool (!r))] (by kernel_rfl) (by kernel_rfl) rfl Grows.refl (fun _ _ _ => Grows.trans) (stable_mem ⟨fun _ _ _ h _ => h, fun _ _ _ h _ => h, fun _ _ _ h _ => h, fun _ _ _ h _ => h, fun _ _ _ h _ => h, fun _ _ _ h _ => h, fun _ _ _ h _ => h, fun _ _ _ h _ => h, fun _ _ _ h _ => h, fun _ _ _ h _ => h, fun _ _ _ h _ => h, trivial⟩) _ (Below.drew (Below.refl _ _)) trivial ?_
   iterate 9 (refine inv_cons ?_ (fun _ => ?_); · intro L w1 hat hb hI hF; have hc := (Grows.cells hb).1; (try simp [factsI, Region.binds, Is] at hF); go_simp; (try first | exact Grows.refl _ | exact trivial | rfl))
   refine inv_cons ?_ (fun v9 => ?_)
   ·intro L w1 hat hb hI hF; have hc := (Grows.cells hb).1; try simp [factsI, Region.binds, Is] at hF
    go_simp
    refine (HI.out _ (bel_trans hB hb)).mono ?_
    rintro e w2 ⟨rfl, hb2⟩
    exact ⟨rfl, hb2⟩
   refine inv_cons ?_ (fun v10 => ?_)
   ·intro L w1 hat hb hI hF; have hc := (Grows.cells hb).1; try simp [factsI, Region.binds, Is] at hF
    go_simp
    try first | exact Grows.refl _ | exact trivial | rfl
   refine inv_nil ?_
   intro w1 hb hI hF
   simp [Is, Nat.forall_lt_succ_right] at hF
   simp only [Act.put, List.setIfInBounds_toArray, List.set_cons_succ, List.set_cons_zero, hF]
   clear hF
   have hB2 := bel_trans hB hb
   have g0' := g0.grow hb
   clear g0 hB b0 b1 b2 b3 b4 b5 b6 b7 b8 b9 d0 d1 d2 d3 d4 d5 d6 d7 d8 d9 c0 l0 hb
   have hs : ((m.take (j + 1)).all fun z => apartB l z x) = r := by
    rw [List.take_add_one, HY.out, List.all_append, HP.out]; simp [HRr.out]
   cases r with
   | true =>
    go_wp2_with fail
    go_roundw
    case rel => exact ⟨j + 1, by omega, by go_num, hs, g0', hB2⟩
    case measure => simp [intOf]; omega
   | false =>
    have hRf : R = false := by
     rw [← HR.out, Bool.eq_false_iff]
     intro ht
     rw [Bool.eq_false_iff] at hs
     refine hs (List.all_eq_true.2 fun z hz => List.all_eq_true.1 ht z ?_)
     exact (List.take_sublist_take_left (show j + 1 ≤ i by omega)).subset hz
    subst hRf
    go_wp2_with fail
    refine bodyPost_ret (v := .bool false) (by simp [results, Tryz.results112, go_sem]) rfl ⟨rfl, hB2⟩
  ·have hji : j = i := by omega
   subst hji
   have hRt : R = true := HR.out.symm.trans HP.out
   subst hRt
   go_wp2_with fail
   refine bodyPost_ret (v := .bool true) (by simp [results, Tryz.results112, go_sem]) rfl ⟨rfl, hB⟩
theorem free112_spec (b : Sol) (v av : Value) (l : List Sol) (m : List Ac) (i : Nat) (hi : i < m.length) (F : ∀ z ∈ m, fits l.length z = true) (w : World) (Hv : SlS w v l) (Hav : SlA w av m) :
  Calls Tryz.prog 112 #[.agg #[.int .u64 (pl b 0), .int .u64 (pl b 1), .int .u64 (pl b 2), .int .u64 (pl b 3), .int .u64 (pl b 4), .int .u64 (pl b 5), .int .u64 (pl b 6), .int .u64 (pl b 7), v], av, .int .i64 (i : Int)] w fun e w' => e = .returned (.bool (freeL l m i)) ∧ Below w.heap.size w w' := by
 have Hv' := Hv
 have Hav' := Hav
 obtain ⟨p, c, rfl, _, _⟩ := Hv'
 obtain ⟨q, d, rfl, hkd, hd, _⟩ := Hav'
 have hx : m[i]? = some m[i] := by simp [hi]
 obtain ⟨ab, ao, rfl, hcs⟩ := acs_at Hav hx
 exact free112_main b p _ c ab ao _ d l m i _ hx F w Hv hcs (List.length_map ..).symm hkd hd
end Go.Proofs.YtccnkebkgegohaaGreatDoor
end
section
namespace Go.Proofs.YtccnkebkgegohaaGreatDoor
open Go.RowKit Go.Rel
set_option maxRecDepth 100000
end Go.Proofs.YtccnkebkgegohaaGreatDoor
end
section
namespace Go.Proofs.YtccnkebkgegohaaGreatDoor
open Go.RowKit Go.Rel
set_option maxRecDepth 100000
/-! drop, of the reference -/
@[irreducible] def VSl (x v : Value) (_ : World) : Prop := v = x
theorem VSl.stab {x : Value} {R : World → World → Prop} (v : Value) (W W' : World) (h : VSl x v W) (_ : R W W') : VSl x v W' := by unfold VSl at *; exact h
def J (G : Nat) (xs ys : List Ac) (a b c e : Bool) (x y z r : Value) (W : World) : Prop := G ≤ W.heap.size ∧ (a = true → b = false → OwnA W G x []) ∧ (b = true → c = false → OwnA W G y xs) ∧ (c = true → OwnA W G z (xs ++ ys)) ∧ (e = true → r = z)
theorem own_none {G : Nat} {W : World} (h : G ≤ W.heap.size) : OwnA (W.alloc (.cells #[] 46)) G (.slice (some ⟨W.heap.size, 0, none⟩) 0 0) [] := by
 refine ⟨rfl, .inr ⟨_, 0, #[], rfl, h, ?_, Nat.le_refl _, by decide, rfl, rfl⟩⟩
 show (W.heap.push _)[W.heap.size]? = _
 simp
theorem sln_takeC {w : World} {i n c : Nat} {a : Option Addr} {xs : List Ac} (h : SlN w (.slice a n c) xs) (hi : i ≤ n) : SlN w (.slice a i c) (xs.take i) := by
 obtain ⟨⟨a', c', he, h1, h2, h3⟩, hN⟩ := h
 cases he
 rw [List.length_map] at hi
 have hl : ((xs.take i).map acL).length = i := by rw [List.length_map, List.length_take]; omega
 rw [List.length_map] at h1
 refine ⟨⟨a, c, by rw [hl], by rw [hl]; omega, h2, ?_⟩, fun n' c' e => ?_⟩
 ·rcases h3 with h3 | ⟨b, off, rfl, h4⟩
  ·have : xs = [] := by simpa using h3
   subst this; exact .inl (by simp)
  ·refine .inr ⟨b, off, rfl, h4.1, fun p j u hu => h4.2 p j u ?_⟩
   obtain ⟨r, hr, hj⟩ := Option.bind_eq_some_iff.1 hu
   have hp : p < i := by have := (List.getElem?_eq_some_iff.1 hr).1; omega
   rw [List.map_take, List.getElem?_take_of_lt hp] at hr
   rw [hr]; exact hj
 ·injection e with e1 e2 e3
  subst e1 e3
  exact hN _ _ rfl
set_option maxHeartbeats 16000000 in
theorem drop121_spec (q : Option Addr) (k d i : Nat) (m : List Ac) (w : World) (Hm : SlN w (.slice q k d) m) (hk : m.length = k) (hi : i < k) (hkd : k ≤ d) (hd : d ≤ 9223372036854775807) (hlen : k ≤ 1048576) :
  Calls Tryz.prog 121 #[.slice q k d, .int .i64 (i : Int)] w fun e w' => ∃ bv, e = .returned bv ∧ OwnA w' w.heap.size bv (dropL m i) ∧ Below w.heap.size w w' := by
 have hid : i ≤ d := by omega
 have hik : (i : Int) + 1 ≤ (k : Int) := by omega
 have HM := Lib.hid Hm
 have HK := Lib.hid hk
 clear Hm hk
 go_enter Tryz.func121, Tryz.ntmps121
 go_wp2_with fail
 refine wp_region_val (Below w.heap.size) (fun L vs W => J w.heap.size (m.take i) (m.drop (i + 1)) (L 0) (L 4) (L 9) (L 10) (vs 0) (vs 4) (vs 9) (vs 10) W) [AnyV, Is (.slice q k d), Is (.int .i64 (i : Int)), Is (.slice q i d), AnyV, Is (.slice q k d), Is (.int .i64 (i : Int)), Is (.int .i64 (i + 1 : Int)), VSl (sliced q (i + 1) k d 10), AnyV, AnyV] (by kernel_rfl) (by kernel_rfl) rfl (Below.refl w.heap.size) (fun _ _ _ => Below.trans) (stable_mem ⟨fun _ _ _ h _ => h, fun _ _ _ h _ => h, fun _ _ _ h _ => h, fun _ _ _ h _ => h, fun _ _ _ h _ => h, fun _ _ _ h _ => h, fun _ _ _ h _ => h, fun _ _ _ h _ => h, VSl.stab, fun _ _ _ h _ => h, fun _ _ _ h _ => h, trivial⟩) w (Below.drew (Below.refl _ _)) (⟨Nat.le_refl _, (fun e => by cases e), (fun e => by cases e), (fun e => by cases e), (fun e => by cases e)⟩) ?_
 refine val_cons ?_ (fun v0 => ?_)
 ·intro L vs w1 hvs hat hb hI hF; try simp [factsI, Region.binds, Is] at hF
  have h4 := hat.later 10 4 (by kernel_rfl)
  have h9 := hat.later 10 9 (by kernel_rfl)
  have h10 := hat.later 10 10 (by kernel_rfl)
  have hs := hI.1
  go_simp
  simp [upd]
  exact ⟨(bel_alloc (bel_refl _) _).mono hs, ⟨by simp; omega, fun _ _ => own_none hs, fun e => (by first | (rw [h4] at e; cases e) | cases e), fun e => (by first | (rw [h9] at e; cases e) | cases e), fun e => (by first | (rw [h10] at e; cases e) | cases e)⟩, trivial⟩
 iterate 3 (refine val_cons ?_ (fun _ => ?_); · intro L vs w1 hvs hat hb hI hF; (try simp [factsI, Region.binds, Is] at hF); go_simp; simp [upd]; exact ⟨Below.refl _ _, hI⟩)
 refine val_cons ?_ (fun v4 => ?_)
 ·intro L vs w1 hvs hat hb hI hF; try simp [factsI, Region.binds, Is] at hF
  have h0 := hat.ahead 10 0 (by kernel_rfl)
  have h4 := hat.self
  have h9 := hat.later 10 9 (by kernel_rfl)
  have h10 := hat.later 10 10 (by kernel_rfl)
  have hv0 : vs 0 = v0 := hvs 0 (by omega)
  obtain ⟨_, rfl⟩ := hF
  obtain ⟨hs, h1, _, _, _⟩ := hI
  have hO := h1 h0 h4
  rw [hv0] at hO
  obtain ⟨v', w', hr, hO', hg⟩ := app_ac hO (sln_takeC (HM.out.mono hb) (Nat.le_of_lt hi)) (by rw [List.length_take, HK.out]; simp; omega) hs
  have hbl : Below w.heap.size w1 w' := (Below.refl w.heap.size w1).grown hg (by omega) (fun k hk => (hO.lt k hk).1)
  refine step_append rfl rfl rfl rfl hr ?_
  simp [upd]
  exact ⟨hbl, ⟨Nat.le_trans hs hbl.size, fun _ e => (by cases e), fun _ _ => (by simpa using hO'), fun e => (by first | (rw [h9] at e; cases e) | cases e), fun e => (by first | (rw [h10] at e; cases e) | cases e)⟩, trivial⟩
 iterate 2 (refine val_cons ?_ (fun _ => ?_); · intro L vs w1 hvs hat hb hI hF; (try simp [factsI, Region.binds, Is] at hF); go_simp; simp [upd]; exact ⟨Below.refl _ _, hI⟩)
 refine val_cons ?_ (fun v7 => ?_)
 ·intro L vs w1 hvs hat hb hI hF; try simp [factsI, Region.binds, Is] at hF
  have hw : IntKind.i64.wrap ((i : Int) + 1) = (i : Int) + 1 := IntWalk.i64_in _ (by omega)
  go_simp
  simp [upd, hw]
  exact ⟨Below.refl _ _, hI⟩
 refine val_cons ?_ (fun v8 => ?_)
 ·intro L vs w1 hvs hat hb hI hF; try simp [factsI, Region.binds, Is] at hF
  have hc0 : (0 : Int) ≤ (i : Int) + 1 := by omega
  go_simp
  simp [upd]
  first | exact ⟨Below.refl _ _, hI, (by unfold VSl; rfl)⟩
 refine val_cons ?_ (fun v9 => ?_)
 ·intro L vs w1 hvs hat hb hI hF; try simp [factsI, Region.binds, Is] at hF
  have h4 := hat.ahead 10 4 (by kernel_rfl)
  have h9 := hat.self
  have h10 := hat.later 10 10 (by kernel_rfl)
  have hv4 : vs 4 = v4 := hvs 4 (by omega)
  have hv8 : v8 = sliced q (i + 1) k d 10 := by have := hF.2.1; unfold VSl at this; exact this
  subst hv8
  obtain ⟨hs, _, h1, _, _⟩ := hI
  have hO := h1 h4 h9
  rw [hv4] at hO
  obtain ⟨v', w', hr, hO', hg⟩ := app_ac hO (sln_drop (HM.out.mono hb) (show i + 1 ≤ k by omega)) (by rw [List.length_take, List.length_drop, HK.out]; omega) hs
  have hbl : Below w.heap.size w1 w' := (Below.refl w.heap.size w1).grown hg (by omega) (fun k hk => (hO.lt k hk).1)
  refine step_append (v := v4) (v7 := sliced q (i + 1) k d 10) rfl rfl ?_ ?_ hr ?_
  ·go_simp
  ·go_simp
  simp [upd]
  exact ⟨hbl, ⟨Nat.le_trans hs hbl.size, fun _ e => (by first | (rw [h4] at e; cases e) | cases e), fun _ e => (by cases e), fun _ => hO', fun e => (by first | (rw [h10] at e; cases e) | cases e)⟩, trivial⟩
 refine val_cons ?_ (fun v10 => ?_)
 ·intro L vs w1 hvs hat hb hI hF; try simp [factsI, Region.binds, Is] at hF
  have h9 := hat.ahead 10 9 (by kernel_rfl)
  have hv9 : vs 9 = v9 := hvs 9 (by omega)
  obtain ⟨hs, a1, a2, a3, a4⟩ := hI
  go_simp
  simp [upd]
  exact ⟨Below.refl _ _, hs, a1, (fun _ e => by cases e), (fun _ => a3 h9), fun _ => hv9.symm⟩
 refine val_nil ?_
 intro vs w1 hvs hb hI hF
 simp [Is, Nat.forall_lt_succ_right] at hF
 have e0 := hF.1.1.1.1.1.1.1.1.1.1
 have e1 := hF.1.1.1.1.1.1.1.1.1.2
 have e2 := hF.1.1.1.1.1.1.1.1.2
 have e3 := hF.1.1.1.1.1.1.1.2
 have e4 := hF.1.1.1.1.1.1.2
 have e5 := hF.1.1.1.1.1.2
 have e6 := hF.1.1.1.1.2
 have e7 := hF.1.1.1.2
 have e8 := hF.1.1.2
 have e9 := hF.1.2
 have e10 := hF.2
 clear hF
 simp only [Act.put, List.setIfInBounds_toArray, List.set_cons_succ, List.set_cons_zero, e1, e2, e3, e5, e6, e7]
 clear e1 e2 e3 e5 e6 e7
 have hv9 : vs 9 = v9 := hvs 9 (by omega)
 have hv10 : vs 10 = v10 := hvs 10 (by omega)
 obtain ⟨hs, _, _, a3, a4⟩ := hI
 have hO := a3 rfl
 have he := a4 rfl
 rw [← he, hv10] at hO
 have HO := Lib.hid hO
 clear hvs hv9 hv10 a3 a4 hO he
 go_wp2_with fail
 refine bodyPost_ret (v := v10) (by simp [results, Tryz.results121, go_sem]) rfl ⟨v10, rfl, HO.out, hb⟩
end Go.Proofs.YtccnkebkgegohaaGreatDoor
end
section
namespace Go.Proofs.YtccnkebkgegohaaGreatDoor
open Go.RowKit Go.Rel
set_option maxRecDepth 100000
@[irreducible] def VHd (base : Nat) (b : Sol) (p : Option Addr) (n c : Nat) (m : List Ac) (v : Value) (W : World) : Prop := ∃ bv, v = .agg #[.int .u64 (pl b 0), .int .u64 (pl b 1), .int .u64 (pl b 2), .int .u64 (pl b 3), .int .u64 (pl b 4), .int .u64 (pl b 5), .int .u64 (pl b 6), .int .u64 (pl b 7), .slice p n c, bv] ∧ OwnA W base bv m
theorem VHd.stab {base : Nat} {b : Sol} {p : Option Addr} {n c : Nat} {m : List Ac} (v : Value) (W W' : World) (h : VHd base b p n c m v W) (g : Grows W W') : VHd base b p n c m v W' := by
 unfold VHd at *; obtain ⟨bv, h1, h2⟩ := h; exact ⟨bv, h1, own_grow h2 g⟩
end Go.Proofs.YtccnkebkgegohaaGreatDoor
end
section
namespace Go.Proofs.YtccnkebkgegohaaGreatDoor
open Go.RowKit Go.Rel
set_option maxRecDepth 100000
/-! the order of acts, of the reference -/
theorem ac_plane (x : Ac) {z : Nat} (hz : z < 8) : (#[.int .u8 x.1, .int .i64 x.2.1, .int .u64 (pl x.2.2 0), .int .u64 (pl x.2.2 1), .int .u64 (pl x.2.2 2), .int .u64 (pl x.2.2 3), .int .u64 (pl x.2.2 4), .int .u64 (pl x.2.2 5), .int .u64 (pl x.2.2 6), .int .u64 (pl x.2.2 7)] : Array Value)[2 + z]? = some (.int .u64 (pl x.2.2 z)) := by
 match z, hz with
 | 0, _ => rfl
 | 1, _ => rfl
 | 2, _ => rfl
 | 3, _ => rfl
 | 4, _ => rfl
 | 5, _ => rfl
 | 6, _ => rfl
 | 7, _ => rfl
 | n + 8, h => exact absurd h (by omega)
set_option maxHeartbeats 8000000 in
theorem Less164_main (x y : Ac) (w : World) (R : Bool) (hk : x.1 ≠ y.1 → R = decide (x.1 < y.1)) (hp : x.1 = y.1 → x.2.1 ≠ y.2.1 → R = decide (x.2.1 < y.2.1))
  (hs : x.1 = y.1 → x.2.1 = y.2.1 → ∀ z, z < 8 → (∀ j, j < z → pl x.2.2 j = pl y.2.2 j) → pl x.2.2 z ≠ pl y.2.2 z → R = decide (pl x.2.2 z < pl y.2.2 z))
  (he : x.1 = y.1 → x.2.1 = y.2.1 → (∀ j, j < 8 → pl x.2.2 j = pl y.2.2 j) → R = false) :
  Calls Tryz.prog 164 #[.agg #[.int .u8 x.1, .int .i64 x.2.1, .int .u64 (pl x.2.2 0), .int .u64 (pl x.2.2 1), .int .u64 (pl x.2.2 2), .int .u64 (pl x.2.2 3), .int .u64 (pl x.2.2 4), .int .u64 (pl x.2.2 5), .int .u64 (pl x.2.2 6), .int .u64 (pl x.2.2 7)], .agg #[.int .u8 y.1, .int .i64 y.2.1, .int .u64 (pl y.2.2 0), .int .u64 (pl y.2.2 1), .int .u64 (pl y.2.2 2), .int .u64 (pl y.2.2 3), .int .u64 (pl y.2.2 4), .int .u64 (pl y.2.2 5), .int .u64 (pl y.2.2 6), .int .u64 (pl y.2.2 7)]] w fun e w' => e = .returned (.bool R) ∧ Below w.heap.size w w' := by
 have HK := Lib.hid hk
 have HP := Lib.hid hp
 have HS := Lib.hid hs
 have HE := Lib.hid he
 clear hk hp hs he
 by_cases h1 : x.1 = y.1
 ·by_cases h2 : x.2.1 = y.2.1
  ·have HH := Lib.hid (And.intro h1 h2)
   obtain ⟨ky, ny, D⟩ := y
   simp only at h1 h2
   subst h1 h2
   go_enter Tryz.func164, Tryz.ntmps164
   go_wp2_with fail
   go_loopw [5] (fun zv wr => ∃ z : Nat, z ≤ 8 ∧ zv = .int .i64 z ∧ Hid (∀ j, j < z → pl x.2.2 j = pl D j) ∧ Blk wr (w.heap.size) #[.int .u8 x.1, .int .i64 x.2.1, .int .u64 (pl x.2.2 0), .int .u64 (pl x.2.2 1), .int .u64 (pl x.2.2 2), .int .u64 (pl x.2.2 3), .int .u64 (pl x.2.2 4), .int .u64 (pl x.2.2 5), .int .u64 (pl x.2.2 6), .int .u64 (pl x.2.2 7)] 46 ∧ Blk wr (w.heap.size + 1) #[.int .u8 x.1, .int .i64 x.2.1, .int .u64 (pl D 0), .int .u64 (pl D 1), .int .u64 (pl D 2), .int .u64 (pl D 3), .int .u64 (pl D 4), .int .u64 (pl D 5), .int .u64 (pl D 6), .int .u64 (pl D 7)] 46 ∧ Below w.heap.size w wr) (fun zv _ => 8 - (intOf zv).toNat)
   case atStart => exact ⟨0, by omega, rfl, Lib.hid (fun j hj => by omega), blk_by, blk_by, bel_by⟩
   case round =>
    obtain ⟨z, hz, rfl, HZ, gx, gy, hB⟩ := hrel
    by_cases hlt : z < 8
    ·have cx := (gx.cell (2 + z)).trans (ac_plane x hlt)
     have cy := (gy.cell (2 + z)).trans (ac_plane (x.1, x.2.1, D) hlt)
     have lx := gx.lt
     have ly := gy.lt
     obtain ⟨px, hpx⟩ : ∃ px, px = pl x.2.2 z := ⟨_, rfl⟩
     obtain ⟨py, hpy⟩ : ∃ py, py = pl D z := ⟨_, rfl⟩
     rw [← hpx] at cx
     rw [← hpy] at cy
     have HPP := Lib.hid (And.intro hpx hpy)
     clear hpx hpy
     go_wp2_with fail
     refine wp_region_inv Grows (fun _ _ => True) [Is (.int .i64 (z : Int)), Is (.pointer (some ⟨w.heap.size, 2, none⟩)), Is (.pointer (some ⟨w.heap.size, 2 + z, none⟩)), Is (.int .u64 px), Is (.int .i64 (z : Int)), Is (.pointer (some ⟨w.heap.size + 1, 2, none⟩)), Is (.pointer (some ⟨w.heap.size + 1, 2 + z, none⟩)), Is (.int .u64 py), Is (.bool (px != py))] (by kernel_rfl) (by kernel_rfl) rfl Grows.refl (fun _ _ _ => Grows.trans) (stable_mem ⟨fun _ _ _ h _ => h, fun _ _ _ h _ => h, fun _ _ _ h _ => h, fun _ _ _ h _ => h, fun _ _ _ h _ => h, fun _ _ _ h _ => h, fun _ _ _ h _ => h, fun _ _ _ h _ => h, fun _ _ _ h _ => h, trivial⟩) _ (Below.drew (Below.refl _ _)) trivial ?_
     iterate 9 (refine inv_cons ?_ (fun _ => ?_); · intro L w1 hat hb hI hF; have hc := (Grows.cells hb).1; (try simp [factsI, Region.binds, Is] at hF); go_simp; (try first | exact Grows.refl _ | exact trivial | rfl))
     refine inv_nil ?_
     intro w1 hb hI hF
     simp [Is, Nat.forall_lt_succ_right] at hF
     simp only [Act.put, List.setIfInBounds_toArray, List.set_cons_succ, List.set_cons_zero, hF]
     clear hF
     have gx' := gx.grow hb
     have gy' := gy.grow hb
     have hB' := bel_trans hB hb
     have cx' := (gx'.cell (2 + z)).trans (ac_plane x hlt)
     have cy' := (gy'.cell (2 + z)).trans (ac_plane (x.1, x.2.1, D) hlt)
     rw [← HPP.out.1] at cx'
     rw [← HPP.out.2] at cy'
     have lx' := gx'.lt
     have ly' := gy'.lt
     have Gx := Lib.hid gx'
     have Gy := Lib.hid gy'
     clear gx gy hB hb cx cy lx ly gx' gy'
     cases hc : (px != py) with
     | true =>
      have hne : ¬ px = py := by simpa using hc
      have hR := HS.out HH.out.1 HH.out.2 z hlt HZ.out (by rw [← HPP.out.1, ← HPP.out.2]; exact hne)
      rw [← HPP.out.1, ← HPP.out.2] at hR
      subst hR
      clear hc
      go_wp2_with fail
      refine wp_region_inv Grows (fun _ _ => True) [Is (.int .i64 (z : Int)), Is (.pointer (some ⟨w.heap.size, 2, none⟩)), Is (.pointer (some ⟨w.heap.size, 2 + z, none⟩)), Is (.int .u64 px), Is (.int .i64 (z : Int)), Is (.pointer (some ⟨w.heap.size + 1, 2, none⟩)), Is (.pointer (some ⟨w.heap.size + 1, 2 + z, none⟩)), Is (.int .u64 py), Is (.bool (decide (px < py))), Is (.bool (decide (px < py)))] (by kernel_rfl) (by kernel_rfl) rfl Grows.refl (fun _ _ _ => Grows.trans) (stable_mem ⟨fun _ _ _ h _ => h, fun _ _ _ h _ => h, fun _ _ _ h _ => h, fun _ _ _ h _ => h, fun _ _ _ h _ => h, fun _ _ _ h _ => h, fun _ _ _ h _ => h, fun _ _ _ h _ => h, fun _ _ _ h _ => h, fun _ _ _ h _ => h, trivial⟩) _ (Below.drew (Below.refl _ _)) trivial ?_
      iterate 10 (refine inv_cons ?_ (fun _ => ?_); · intro L w1 hat hb hI hF; have hc := (Grows.cells hb).1; (try simp [factsI, Region.binds, Is] at hF); go_simp; (try first | exact Grows.refl _ | exact trivial | rfl))
      refine inv_nil ?_
      intro w1 hb hI hF
      simp [Is, Nat.forall_lt_succ_right] at hF
      simp only [Act.put, List.setIfInBounds_toArray, List.set_cons_succ, List.set_cons_zero, hF]
      clear hF
      have hB2 := bel_trans hB' hb
      clear cx' cy' lx' ly' hb
      go_wp2_with fail
      refine bodyPost_ret (v := .bool (decide (px < py))) (by simp [results, Tryz.results164, go_sem]) rfl ⟨rfl, hB2⟩
     | false =>
      have heq : px = py := by simpa using hc
      clear cx' cy' lx' ly'
      have HZ' : Hid (∀ j, j < z + 1 → pl x.2.2 j = pl D j) := Lib.hid fun j hj => by
       rcases Nat.lt_or_eq_of_le (Nat.le_of_lt_succ hj) with h | h
       ·exact HZ.out j h
       ·subst h; rw [← HPP.out.1, ← HPP.out.2]; exact heq
      clear heq
      go_wp2_with fail
      go_roundw
      case rel => exact ⟨z + 1, by omega, by go_num, HZ', Gx.out, Gy.out, hB'⟩
      case measure => simp [intOf]; omega
    ·have hz8 : z = 8 := by omega
     subst hz8
     have hR := HE.out HH.out.1 HH.out.2 HZ.out
     subst hR
     go_wp2_with fail
     refine bodyPost_ret (v := .bool false) (by simp [results, Tryz.results164, go_sem]) rfl ⟨rfl, hB⟩
  ·have hR := HP.out h1 h2
   have e1 : ((x.1 : Nat) : Int) = ((y.1 : Nat) : Int) := by rw [h1]
   subst hR
   go_enter Tryz.func164, Tryz.ntmps164
   go_wp2_with fail
   refine bodyPost_ret (v := .bool (decide (x.2.1 < y.2.1))) (by simp [results, Tryz.results164, go_sem]) rfl ⟨rfl, bel_by⟩
 ·have hR := HK.out h1
  have hn : ¬ ((x.1 : Nat) : Int) = ((y.1 : Nat) : Int) := by omega
  have hd : decide (((x.1 : Nat) : Int) < ((y.1 : Nat) : Int)) = decide (x.1 < y.1) := by rw [Bool.eq_iff_iff]; simp
  rw [← hd] at hR
  clear hd
  subst hR
  go_enter Tryz.func164, Tryz.ntmps164
  go_wp2_with fail
  refine bodyPost_ret (v := .bool (decide (((x.1 : Nat) : Int) < ((y.1 : Nat) : Int)))) (by simp [results, Tryz.results164, go_sem]) rfl ⟨rfl, bel_by⟩
end Go.Proofs.YtccnkebkgegohaaGreatDoor
end
section
namespace Go.Proofs.YtccnkebkgegohaaGreatDoor
open Go.RowKit Go.Rel
set_option maxRecDepth 100000
theorem lex_head {a b : Int} {l m : List Int} (h : a ≠ b) : (a :: l < b :: m) = (a < b) := by
 rw [List.cons_lt_cons_iff]
 exact propext ⟨fun h' => h'.elim id fun h2 => absurd h2.1 h, .inl⟩
theorem lex_tail {a b : Int} {l m : List Int} (h : a = b) : (a :: l < b :: m) = (l < m) := by
 subst h
 rw [List.cons_lt_cons_iff]
 exact propext ⟨fun h' => h'.elim (fun h2 => absurd h2 (Int.lt_irrefl _)) fun h2 => h2.2, fun h' => .inr ⟨rfl, h'⟩⟩
theorem Less164_spec (x y : Ac) (w : World) : Calls Tryz.prog 164 #[.agg #[.int .u8 x.1, .int .i64 x.2.1, .int .u64 (pl x.2.2 0), .int .u64 (pl x.2.2 1), .int .u64 (pl x.2.2 2), .int .u64 (pl x.2.2 3), .int .u64 (pl x.2.2 4), .int .u64 (pl x.2.2 5), .int .u64 (pl x.2.2 6), .int .u64 (pl x.2.2 7)], .agg #[.int .u8 y.1, .int .i64 y.2.1, .int .u64 (pl y.2.2 0), .int .u64 (pl y.2.2 1), .int .u64 (pl y.2.2 2), .int .u64 (pl y.2.2 3), .int .u64 (pl y.2.2 4), .int .u64 (pl y.2.2 5), .int .u64 (pl y.2.2 6), .int .u64 (pl y.2.2 7)]] w fun e w' => e = .returned (.bool (decide (cmpA x y < 0))) ∧ Below w.heap.size w w' := by
 have hk : (cmpA x y < 0) = (keyA x < keyA y) := propext cmpA_lt
 refine Less164_main x y w _ (fun h => ?_) (fun h1 h2 => ?_) (fun h1 h2 z hz hp hne => ?_) (fun h1 h2 hp => ?_)
 ·rw [decide_eq_decide, cmpA_lt]
  unfold keyA
  rw [lex_head (by omega)]; omega
 ·rw [decide_eq_decide, cmpA_lt]
  unfold keyA
  rw [lex_tail (by omega), lex_head h2]
 ·rw [decide_eq_decide, cmpA_lt]
  unfold keyA
  rw [lex_tail (by omega), lex_tail h2]
  unfold planes
  match z, hz with
  | 0, _ => rw [lex_head hne]
  | 1, _ => rw [lex_tail (hp 0 (by omega)), lex_head hne]
  | 2, _ => rw [lex_tail (hp 0 (by omega)), lex_tail (hp 1 (by omega)), lex_head hne]
  | 3, _ => rw [lex_tail (hp 0 (by omega)), lex_tail (hp 1 (by omega)), lex_tail (hp 2 (by omega)), lex_head hne]
  | 4, _ => rw [lex_tail (hp 0 (by omega)), lex_tail (hp 1 (by omega)), lex_tail (hp 2 (by omega)), lex_tail (hp 3 (by omega)), lex_head hne]
  | 5, _ => rw [lex_tail (hp 0 (by omega)), lex_tail (hp 1 (by omega)), lex_tail (hp 2 (by omega)), lex_tail (hp 3 (by omega)), lex_tail (hp 4 (by omega)), lex_head hne]
  | 6, _ => rw [lex_tail (hp 0 (by omega)), lex_tail (hp 1 (by omega)), lex_tail (hp 2 (by omega)), lex_tail (hp 3 (by omega)), lex_tail (hp 4 (by omega)), lex_tail (hp 5 (by omega)), lex_head hne]
  | 7, _ => rw [lex_tail (hp 0 (by omega)), lex_tail (hp 1 (by omega)), lex_tail (hp 2 (by omega)), lex_tail (hp 3 (by omega)), lex_tail (hp 4 (by omega)), lex_tail (hp 5 (by omega)), lex_tail (hp 6 (by omega)), lex_head hne]
  | n + 8, h => exact absurd h (by omega)
 ·rw [decide_eq_false_iff_not, cmpA_lt]
  unfold keyA
  rw [lex_tail (by omega), lex_tail h2]
  unfold planes
  rw [lex_tail (hp 0 (by omega)), lex_tail (hp 1 (by omega)), lex_tail (hp 2 (by omega)), lex_tail (hp 3 (by omega)), lex_tail (hp 4 (by omega)), lex_tail (hp 5 (by omega)), lex_tail (hp 6 (by omega)), lex_tail (hp 7 (by omega))]
  simp
end Go.Proofs.YtccnkebkgegohaaGreatDoor
end
section
namespace Go.Proofs.YtccnkebkgegohaaGreatDoor
open Go.RowKit Go.Rel
set_option maxRecDepth 100000
/-! Turn, of the reference -/
def turnVal : Option (Nat × Nat) → Value
 | none => .tuple #[.int .i64 0, .int .i64 0, .bool false]
 | some (i, j) => .tuple #[.int .i64 (i : Int), .int .i64 (j : Int), .bool true]
end Go.Proofs.YtccnkebkgegohaaGreatDoor
end
section
namespace Go.Proofs.YtccnkebkgegohaaGreatDoor
open Go.RowKit Go.Rel
set_option maxRecDepth 100000
/-- a list of acts is kept by an append onto another list of one's own -/
theorem sln_keep {W W' : World} {o : Value} {q : Option Addr} {k d : Nat} {m : List Ac} (h : SlN W (.slice q k d) m) (hs : ∀ a, q = some a → o.ownBlock ≠ some a.block) (hg : W.grownBy W' o.ownBlock) : SlN W' (.slice q k d) m := by
 obtain ⟨⟨a, c, hv, hc, hcm, hcells⟩, hN⟩ := h
 refine ⟨⟨a, c, hv, hc, hcm, ?_⟩, hN⟩
 rcases hcells with h | ⟨b, off, ha, hcs⟩
 ·exact .inl h
 ·subst ha
  have hq : q = some ⟨b, off, none⟩ := by injection hv
  refine .inr ⟨b, off, rfl, Nat.lt_of_lt_of_le hcs.1 hg.size, fun i j z hz => ?_⟩
  have := hg.block b hcs.1 (fun e => hs _ hq e.symm)
  rw [← hcs.2 i j z hz]
  simp only [World.cell?]
  rw [this]
end Go.Proofs.YtccnkebkgegohaaGreatDoor
end
