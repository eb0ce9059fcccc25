import Derived.Test.YtccnkebkgegohaaGreatDoorHV12
import Derived.Test.YtccnkebkgegohaaGreatDoorHR2
/-
  Given contracts of functions of the program, and laws for them, one behind the other.
-/
set_option linter.unusedVariables false
set_option linter.unusedSimpArgs false
set_option linter.unusedSectionVars false
section
namespace Go.Proofs.YtccnkebkgegohaaGreatDoor
open Go.RowKit Go.Rel
set_option maxRecDepth 100000
/-! common, of the reference -/
set_option maxHeartbeats 16000000 in
theorem common127_spec (b : Sol) (p q0 r0 : Option Addr) (n c k0 d0 j0 e0 : Nat) (l : List Sol) (ma mb : List Ac) (w : World) (F : Fine l ma) (G : Fine l mb) (Hv : SlS w (.slice p n c) l) (Ha : SlN w (.slice q0 k0 d0) ma) (Hb : SlN w (.slice r0 j0 e0) mb) (hk : k0 ≤ d0 ∧ d0 ≤ 9223372036854775807 ∧ k0 ≤ 1048576) (hj : j0 ≤ e0 ∧ e0 ≤ 9223372036854775807 ∧ j0 ≤ 1048576) :
  Calls Tryz.prog 127 #[.agg #[.int .u64 (pl b 0), .int .u64 (pl b 1), .int .u64 (pl b 2), .int .u64 (pl b 3), .int .u64 (pl b 4), .int .u64 (pl b 5), .int .u64 (pl b 6), .int .u64 (pl b 7), .slice p n c], .slice q0 k0 d0, .slice r0 j0 e0] w fun e w' => ∃ u v z, e = .returned (.tuple #[u, v, z]) ∧ (OwnA w' w.heap.size u (nrm l (commonR l ma.length [] ma mb).1) ∧ OwnA w' w.heap.size v (nrm l (commonR l ma.length [] ma mb).2.1) ∧ OwnA w' w.heap.size z (nrm l (commonR l ma.length [] ma mb).2.2)) ∧ Below w.heap.size w w' := by
 have hka := sl_len Ha.1
 have hkb := sl_len Hb.1
 obtain ⟨C, hC⟩ : ∃ C, commonR l ma.length [] ma mb = C := ⟨_, rfl⟩
 rw [hC]
 have HC : Hid (commonR l k0 [] ma mb = C) := Lib.hid (by rw [← hka]; exact hC)
 have HV := Lib.hid Hv
 have HM := Lib.hid (And.intro Ha (And.intro hka F))
 have HM2 := Lib.hid (And.intro Hb (And.intro hkb G))
 have HFN : Hid (Fine l []) := Lib.hid (F.sub fun a ha => by cases ha)
 clear hC Hv Ha Hb F G hka hkb
 go_enter Tryz.func127, Tryz.ntmps127
 go_wp2_with fail
 have hbe : Below w.heap.size w (w.alloc (.cells (#[.int .u64 (pl b 0), .int .u64 (pl b 1), .int .u64 (pl b 2), .int .u64 (pl b 3), .int .u64 (pl b 4), .int .u64 (pl b 5), .int .u64 (pl b 6), .int .u64 (pl b 7), .slice p n c] : Array Value) 27)) := bel_alloc (bel_refl _) _
 have g0 : Blk (w.alloc (.cells (#[.int .u64 (pl b 0), .int .u64 (pl b 1), .int .u64 (pl b 2), .int .u64 (pl b 3), .int .u64 (pl b 4), .int .u64 (pl b 5), .int .u64 (pl b 6), .int .u64 (pl b 7), .slice p n c] : Array Value) 27)) w.heap.size #[.int .u64 (pl b 0), .int .u64 (pl b 1), .int .u64 (pl b 2), .int .u64 (pl b 3), .int .u64 (pl b 4), .int .u64 (pl b 5), .int .u64 (pl b 6), .int .u64 (pl b 7), .slice p n c] 27 := Blk.new _ _ _
 generalize (w.alloc (.cells (#[.int .u64 (pl b 0), .int .u64 (pl b 1), .int .u64 (pl b 2), .int .u64 (pl b 3), .int .u64 (pl b 4), .int .u64 (pl b 5), .int .u64 (pl b 6), .int .u64 (pl b 7), .slice p n c] : Array Value) 27)) = w0 at *
 go_loopw [1, 2, 9] (fun tv sv ov wr => ∃ (q r : Option Addr) (k d j e : Nat) (ma mb dn : List Ac) (uv : Value), tv = .slice q k d ∧ sv = .slice r j e ∧ uv = ov ∧ Hid ((k ≤ d ∧ d ≤ 9223372036854775807 ∧ dn.length + k ≤ 1048576) ∧ (j ≤ e ∧ e ≤ 9223372036854775807 ∧ j ≤ 1048576)) ∧ Hid (SlN wr (.slice q k d) ma ∧ ma.length = k ∧ Fine l ma) ∧ Hid (SlN wr (.slice r j e) mb ∧ mb.length = j ∧ Fine l mb) ∧ Hid (OwnA wr (w.heap.size + 1) uv dn ∧ (∀ a, q = some a → uv.ownBlock ≠ some a.block) ∧ (∀ a, r = some a → uv.ownBlock ≠ some a.block)) ∧ Hid (commonR l k dn ma mb = C) ∧ Hid (Fine l dn) ∧ Blk wr w.heap.size #[.int .u64 (pl b 0), .int .u64 (pl b 1), .int .u64 (pl b 2), .int .u64 (pl b 3), .int .u64 (pl b 4), .int .u64 (pl b 5), .int .u64 (pl b 6), .int .u64 (pl b 7), .slice p n c] 27 ∧ Below w.heap.size w wr) (fun tv _ _ _ => lenS tv)
 case atStart => exact ⟨q0, r0, k0, d0, j0, e0, ma, mb, [], _, rfl, rfl, rfl, Lib.hid ⟨⟨hk.1, hk.2.1, by simpa using hk.2.2⟩, hj⟩, Lib.hid ⟨HM.out.1.mono hbe, HM.out.2⟩, Lib.hid ⟨HM2.out.1.mono hbe, HM2.out.2⟩, Lib.hid ⟨World.ownsRow_nil _ _ _ _, (fun _ _ e => by cases e), (fun _ _ e => by cases e)⟩, HC, HFN, g0, hbe⟩
 case round =>
  clear g0 hbe hk hj HM HM2 HC HFN
  obtain ⟨q, r, k, d, j, e, ma, mb, dn, uv, rfl, rfl, rfl, HN, HA, HB, HO, HR, HD, g0, hB⟩ := hrel
  obtain ⟨W1, hW⟩ : ∃ W1, W1 = wr := ⟨_, rfl⟩
  subst hW
  have c0 := g0.cell
  have l0 := g0.lt
  have HS : Hid (∀ w', Below W1.heap.size W1 w' → Calls Tryz.prog 165 #[.agg #[.int .u64 (pl b 0), .int .u64 (pl b 1), .int .u64 (pl b 2), .int .u64 (pl b 3), .int .u64 (pl b 4), .int .u64 (pl b 5), .int .u64 (pl b 6), .int .u64 (pl b 7), .slice p n c], .slice q k d, .slice r j e] w' fun e w'' => e = .returned (turnVal (sharedR l ma mb)) ∧ Below w'.heap.size w' w'') := Lib.hid fun w' hb => shared165_spec b p q r n c k d j e l ma mb w' (HV.out.mono (bel_trans hB hb)) (HA.out.1.1.mono hb) (HB.out.1.1.mono hb) HA.out.2.2.fit HB.out.2.2.fit (by have := HN.out.1.2.2; omega) HN.out.2.2.2
  cases hS : sharedR l ma mb with
  | none =>
   rw [hS] at HS
   unfold turnVal at HS
   have HRC : Hid (C = (dn, ma, mb)) := Lib.hid (by rw [← HR.out, commonR_stop hS])
   clear hS
   go_wp2_with fail
   refine (HS.out _ bel_by).mono ?_
   rintro e0 w2 ⟨rfl, hb⟩
   have hB2 := bel_trans hB hb
   have HO2 := Lib.hid (own_grow HO.out.1 hb)
   have HA2 := Lib.hid (HA.out.1.mono hb)
   have HBB2 := Lib.hid (HB.out.1.mono hb)
   replace g0 := g0.grow hb
   clear hb c0 l0 HS hB
   have c0 := g0.cell
   have l0 := g0.lt
   go_wp2_with fail
   refine wp_region_inv Grows (fun _ _ => True) [Is (.agg #[.int .u64 (pl b 0), .int .u64 (pl b 1), .int .u64 (pl b 2), .int .u64 (pl b 3), .int .u64 (pl b 4), .int .u64 (pl b 5), .int .u64 (pl b 6), .int .u64 (pl b 7), .slice p n c]), Is uv, VAc w.heap.size (nrm l dn), Is (.agg #[.int .u64 (pl b 0), .int .u64 (pl b 1), .int .u64 (pl b 2), .int .u64 (pl b 3), .int .u64 (pl b 4), .int .u64 (pl b 5), .int .u64 (pl b 6), .int .u64 (pl b 7), .slice p n c]), Is (.slice q k d), VAc w.heap.size (nrm l ma), Is (.agg #[.int .u64 (pl b 0), .int .u64 (pl b 1), .int .u64 (pl b 2), .int .u64 (pl b 3), .int .u64 (pl b 4), .int .u64 (pl b 5), .int .u64 (pl b 6), .int .u64 (pl b 7), .slice p n c]), Is (.slice r j e), VAc w.heap.size (nrm l mb), VAc w.heap.size (nrm l dn), VAc w.heap.size (nrm l ma), VAc w.heap.size (nrm l mb)] (by kernel_rfl) (by kernel_rfl) rfl Grows.refl (fun _ _ _ => Grows.trans) (stable_mem ⟨fun _ _ _ h _ => h, fun _ _ _ h _ => h, VAc.stable, fun _ _ _ h _ => h, fun _ _ _ h _ => h, VAc.stable, fun _ _ _ h _ => h, fun _ _ _ h _ => h, VAc.stable, VAc.stable, VAc.stable, VAc.stable, trivial⟩) _ (Below.drew (Below.refl _ _)) trivial ?_
   iterate 2 (refine inv_cons ?_ (fun _ => ?_); · intro L w1 hat hb hI hF; have hc := (Grows.cells hb).1; (try simp [factsI, Region.binds, Is] at hF); go_simp; (try first | exact Grows.refl _ | exact trivial | rfl))
   refine inv_cons ?_ (fun v2 => ?_)
   ·intro L w1 hat hb hI hF; have hc := (Grows.cells hb).1; try simp [factsI, Region.binds, Is] at hF
    have hbw := bel_trans hB2 hb
    have hsz := hbw.size
    go_simp
    have hOw := own_grow HO2.out hb
    obtain ⟨pq, pd, hpq, hp1, hp2⟩ := own_shapeK (k := dn.length) hOw rfl
    subst hpq
    refine (normal123_main b p n c pq dn.length pd l dn w1 HD.out (HV.out.mono hbw) (OwnA.sln hOw) rfl hp1 hp2 (by have := HN.out.1.2.2; omega)).mono ?_
    rintro e w' ⟨x, rfl, hO, hB⟩
    rw [normR_eq HD.out] at hO
    exact ⟨_, rfl, hB, by unfold VAc; exact own_weak hO hsz⟩
   iterate 2 (refine inv_cons ?_ (fun _ => ?_); · intro L w1 hat hb hI hF; have hc := (Grows.cells hb).1; (try simp [factsI, Region.binds, Is] at hF); go_simp; (try first | exact Grows.refl _ | exact trivial | rfl))
   refine inv_cons ?_ (fun v5 => ?_)
   ·intro L w1 hat hb hI hF; have hc := (Grows.cells hb).1; try simp [factsI, Region.binds, Is] at hF
    have hbw := bel_trans hB2 hb
    have hsz := hbw.size
    go_simp
    refine (normal123_main b p n c q k d l ma w1 HA.out.2.2 (HV.out.mono hbw) (HA2.out.mono hb) HA.out.2.1 HN.out.1.1 HN.out.1.2.1 (by have := HN.out.1.2.2; omega)).mono ?_
    rintro e w' ⟨x, rfl, hO, hB⟩
    have hO' : OwnA w' w.heap.size x (nrm l ma) := by
     rw [← normR_eq HA.out.2.2, HA.out.2.1]
     exact own_weak hO hsz
    exact ⟨_, rfl, hB, by unfold VAc; exact hO'⟩
   iterate 2 (refine inv_cons ?_ (fun _ => ?_); · intro L w1 hat hb hI hF; have hc := (Grows.cells hb).1; (try simp [factsI, Region.binds, Is] at hF); go_simp; (try first | exact Grows.refl _ | exact trivial | rfl))
   refine inv_cons ?_ (fun v8 => ?_)
   ·intro L w1 hat hb hI hF; have hc := (Grows.cells hb).1; try simp [factsI, Region.binds, Is] at hF
    have hbw := bel_trans hB2 hb
    have hsz := hbw.size
    go_simp
    refine (normal123_main b p n c r j e l mb w1 HB.out.2.2 (HV.out.mono hbw) (HBB2.out.mono hb) HB.out.2.1 HN.out.2.1 HN.out.2.2.1 HN.out.2.2.2).mono ?_
    rintro e w' ⟨x, rfl, hO, hB⟩
    have hO' : OwnA w' w.heap.size x (nrm l mb) := by
     rw [← normR_eq HB.out.2.2, HB.out.2.1]
     exact own_weak hO hsz
    exact ⟨_, rfl, hB, by unfold VAc; exact hO'⟩
   refine inv_cons ?_ (fun v9 => ?_)
   ·intro L w1 hat hb hI hF; have hc := (Grows.cells hb).1; try simp [factsI, Region.binds, Is] at hF
    go_simp
    first | exact ⟨Grows.refl _, hF⟩ | exact Grows.refl _
   refine inv_cons ?_ (fun v10 => ?_)
   ·intro L w1 hat hb hI hF; have hc := (Grows.cells hb).1; try simp [factsI, Region.binds, Is] at hF
    go_simp
    first | exact ⟨Grows.refl _, hF⟩ | exact Grows.refl _
   refine inv_cons ?_ (fun v11 => ?_)
   ·intro L w1 hat hb hI hF; have hc := (Grows.cells hb).1; try simp [factsI, Region.binds, Is] at hF
    go_simp
    first | exact ⟨Grows.refl _, hF⟩ | exact Grows.refl _
   refine inv_nil ?_
   intro w1 hb hI hF
   simp [Is, Nat.forall_lt_succ_right] at hF
   have e0 := hF.1.1.1.1.1.1.1.1.1.1.1
   have e1 := hF.1.1.1.1.1.1.1.1.1.1.2
   have e2 := hF.1.1.1.1.1.1.1.1.1.2
   have e3 := hF.1.1.1.1.1.1.1.1.2
   have e4 := hF.1.1.1.1.1.1.1.2
   have e5 := hF.1.1.1.1.1.1.2
   have e6 := hF.1.1.1.1.1.2
   have e7 := hF.1.1.1.1.2
   have e8 := hF.1.1.1.2
   have e9 := hF.1.1.2
   have e10 := hF.1.2
   have e11 := hF.2
   clear hF
   simp only [Act.put, List.setIfInBounds_toArray, List.set_cons_succ, List.set_cons_zero, e0, e1, e3, e4, e6, e7]
   clear e0 e1 e3 e4 e6 e7
   unfold VAc at e9 e10 e11
   have hB3 := bel_trans hB2 hb
   have HRES := Lib.hid (And.intro e9 (And.intro e10 e11))
   clear e2 e5 e8 e9 e10 e11
   go_wp2_with fail
   refine bodyPost_ret (v := .tuple #[v9, v10, v11]) (by simp [results, Tryz.results127, go_sem]) rfl ?_
   refine ⟨v9, v10, v11, rfl, ?_, hB3⟩
   rw [HRC.out]
   exact HRES.out
  | some ij =>
   obtain ⟨i0, i1⟩ := ij
   rw [hS] at HS
   unfold turnVal at HS
   obtain ⟨⟨hi0, hi1⟩, hxy, hf0, hf1⟩ := sharedR_some hS
   have hkA := HA.out.2.1
   have hkB := HB.out.2.1
   obtain ⟨k', rfl⟩ : ∃ k', k = k' + 1 := ⟨k - 1, by omega⟩
   have HR2 : Hid (commonR l k' (dn ++ [atN ma i0]) (dropL ma i0) (dropL mb i1) = C) := Lib.hid (by rw [← HR.out, commonR_step hS])
   have hx : ma[i0]? = some (ma[i0]'hi0) := by simp
   have hat : atN ma i0 = ma[i0]'hi0 := atN_at hi0
   rw [hat] at HR2
   have HDX : Hid (Fine l (dn ++ [ma[i0]'hi0])) := Lib.hid (HD.out.app (HA.out.2.2.sub fun a ha => by rw [List.mem_singleton.1 ha]; exact List.getElem_mem _))
   generalize ma[i0]'hi0 = x at hx HR2 HDX
   obtain ⟨ab, ao, rfl, hcs⟩ := acs_at HA.out.1.1 hx
   have hab := hcs.1
   have HX := Lib.hid (And.intro hx hcs)
   have HI := Lib.hid (And.intro hi0 hi1)
   have hi0k : i0 < k' + 1 := by omega
   clear hS hi0 hi1 hxy hf0 hf1 hkA hkB hat hx hcs
   go_wp2_with fail
   refine (HS.out _ bel_by).mono ?_
   rintro e0 w2 ⟨rfl, hb⟩
   have hB2 := bel_trans hB hb
   have labr : ab < w2.heap.size := Nat.lt_of_lt_of_le hab hb.size
   have HO2 := Lib.hid (own_grow HO.out.1 hb)
   have HA2 := Lib.hid (HA.out.1.mono hb)
   have HBB2 := Lib.hid (HB.out.1.mono hb)
   have g2 := g0.grow hb
   obtain ⟨x0, x1, x2, x3, x4, x5, x6, x7, x8, x9⟩ := ac_cells (HX.out.2.mono hb HX.out.2.1) HX.out.1
   have hgl := g2.lt
   clear hb c0 l0 HS hB g0
   go_wp2_with (first
    | (at_builtin; refine wpList_app_ac rfl _ _ rfl rfl (w.heap.size + 1) uv (.slice (some ⟨w2.heap.size, 0, none⟩) 1 1) dn [x] rfl rfl (own_grow HO2.out (bel_alloc (bel_refl _) _)) (sln_one (Blk.new _ _ _)) (by have := HN.out.1.2.2; simp; omega) (by simp; omega) ?_; intro v' w3 hO3 hg3))
   have hs3 : SlN w3 (.slice (some ⟨ab, ao, none⟩) (k' + 1) d) ma := sln_keep (HA2.out.mono (bel_alloc (bel_refl _) _)) HO.out.2.1 hg3
   have hs3b : SlN w3 (.slice r j e) mb := sln_keep (HBB2.out.mono (bel_alloc (bel_refl _) _)) HO.out.2.2 hg3
   have hB3 : Below w.heap.size w w3 := (bel_alloc hB2 _).grown hg3 (by simp; have := hB2.size; omega) (fun j hj => by have := (HO2.out.lt j hj).1; omega)
   have hO3' := Lib.hid hO3
   have HG3 := Lib.hid hg3
   have g3 : Blk w3 w.heap.size #[.int .u64 (pl b 0), .int .u64 (pl b 1), .int .u64 (pl b 2), .int .u64 (pl b 3), .int .u64 (pl b 4), .int .u64 (pl b 5), .int .u64 (pl b 6), .int .u64 (pl b 7), .slice p n c] 27 := by
    have h1 := g2.alloc (.cells (#[.int .u8 x.1, .int .i64 x.2.1, .int .u64 (pl x.2.2 0), .int .u64 (pl x.2.2 1), .int .u64 (pl x.2.2 2), .int .u64 (pl x.2.2 3), .int .u64 (pl x.2.2 4), .int .u64 (pl x.2.2 5), .int .u64 (pl x.2.2 6), .int .u64 (pl x.2.2 7)] : Array Value) 46)
    exact h1.kept (HG3.out.block _ h1.lt (fun e => by have := (HO2.out.lt _ e.symm).1; omega))
   clear hO3 hg3
   refine (drop121_spec _ (k' + 1) d i0 ma w3 hs3 HA.out.2.1 hi0k HN.out.1.1 HN.out.1.2.1 (by have := HN.out.1.2.2; omega)).mono ?_
   rintro e0 w4 ⟨bw, rfl, hO4, hb⟩
   have hlen : (dropL ma i0).length = k' := by rw [dropL_len HI.out.1, HA.out.2.1]; rfl
   obtain ⟨q4, d4, rfl, hd4, hd4m⟩ := own_shapeK hO4 hlen
   have HSEP : ∀ a, q4 = some a → v'.ownBlock ≠ some a.block := by
    intro a ha he
    have h1 := (hO3'.out.lt _ he).2
    have h2 := (hO4.lt a.block (by rw [ha]; rfl)).1
    omega
   have HO5 := Lib.hid (own_grow hO3'.out hb)
   have hs4b := hs3b.mono hb
   have hB4 := bel_trans hB3 hb
   have g4 := g3.grow hb
   have HSL4 := Lib.hid (OwnA.sln hO4)
   have hz4 := hb.size
   clear hO4 hs3 hs3b g3 hB3 hb g2
   go_wp2_with fail
   refine (drop121_spec _ j e i1 mb w4 hs4b HB.out.2.1 (by rw [← HB.out.2.1]; exact HI.out.2) HN.out.2.1 HN.out.2.2.1 HN.out.2.2.2).mono ?_
   rintro e0 w5 ⟨bw, rfl, hO6, hb⟩
   have hlen6 : (dropL mb i1).length = j - 1 := by rw [dropL_len HI.out.2, HB.out.2.1]
   obtain ⟨q6, d6, rfl, hd6, hd6m⟩ := own_shapeK hO6 hlen6
   have HSEP6 : ∀ a, q6 = some a → v'.ownBlock ≠ some a.block := by
    intro a ha he
    have h1 := (hO3'.out.lt _ he).2
    have h2 := (hO6.lt a.block (by rw [ha]; rfl)).1
    omega
   have HO7 := Lib.hid (And.intro (own_grow HO5.out hb) (And.intro HSEP HSEP6))
   have HA7 := Lib.hid (And.intro (HSL4.out.mono hb) (And.intro hlen (HA.out.2.2.sub (m' := dropL ma i0) fun a ha => dropL_sub ha)))
   have HB7 := Lib.hid (And.intro (OwnA.sln hO6) (And.intro hlen6 (HB.out.2.2.sub (m' := dropL mb i1) fun a ha => dropL_sub ha)))
   have hB5 := bel_trans hB4 hb
   have g5 := g4.grow hb
   have HN7 : Hid ((k' ≤ d4 ∧ d4 ≤ 9223372036854775807 ∧ (dn ++ [x]).length + k' ≤ 1048576) ∧ (j - 1 ≤ d6 ∧ d6 ≤ 9223372036854775807 ∧ j - 1 ≤ 1048576)) := Lib.hid (by have := HN.out.1.2.2; have := HN.out.2.2.2; simp; omega)
   clear hO6 HSEP HSEP6 hs4b hB4 g4 hb hz4
   go_wp2_with fail
   go_roundw
   case rel => exact ⟨q4, q6, k', d4, j - 1, d6, dropL ma i0, dropL mb i1, dn ++ [x], v', rfl, rfl, rfl, HN7, HA7, HB7, HO7, HR2, HDX, g5, hB5⟩
   case measure => simp [lenS]
end Go.Proofs.YtccnkebkgegohaaGreatDoor
end
