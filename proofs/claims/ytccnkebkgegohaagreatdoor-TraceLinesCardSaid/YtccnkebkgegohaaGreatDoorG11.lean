import Derived.Test.YtccnkebkgegohaaGreatDoorG10
/-
  Given contracts of functions of the program, and laws for them, one behind the other.
-/
set_option linter.unusedVariables false
set_option linter.unusedSimpArgs false
set_option linter.unusedSectionVars false
section
namespace Go.Proofs.YtccnkebkgegohaaGreatDoor
open Go.RowKit Go.Rel
set_option maxRecDepth 100000
theorem least1' {bp : Nat} {blank : Sol} {v av : Value} {l : List Sol} {acts : List Ac} {s : Stn} (w : World) (HP : PastAt bp blank v av l acts s w) (Ha : SlA w av acts) (bt : Nat) (hbt : w.cell? ⟨bt, 0, none⟩ = some (.pointer (some ⟨bp, 0, none⟩))) (x y : Int) (hx : 0 ≤ x ∧ x < acts.length) (hy : 0 ≤ y ∧ y < acts.length) :
  Calls Tryz.prog 147 #[.int .i64 x, .int .i64 y, .pointer (some ⟨bt, 0, none⟩)] w fun e w' => e = .returned (.int .i64 (cmpN acts x y)) ∧ Below w.heap.size w w' := by
 have e1 : ((x.toNat : Nat) : Int) = x := by omega
 have e2 : ((y.toNat : Nat) : Int) = y := by omega
 have h1 : x.toNat < acts.length := by omega
 have h2 : y.toNat < acts.length := by omega
 have := least1 w HP Ha bt hbt x.toNat y.toNat (acts[x.toNat]'h1) (acts[y.toNat]'h2) (by simp) (by simp)
 rw [e1, e2] at this
 unfold cmpN
 simpa [h1, h2] using this
theorem leastI_succ {dep : Int → Int → Bool} {f : Int → Int → Int} (n : Nat) (left : List Int) : leastI dep f (n + 1) left = match freeUpto dep left left.length with
  | [] => []
  | x :: xs => minF f x xs :: leastI dep f n (left.filter fun y => !([minF f x xs].contains y)) := rfl
theorem minF_left {dep : Int → Int → Bool} {f : Int → Int → Int} {left : List Int} {x : Int} {xs : List Int} (hf : freeUpto dep left left.length = x :: xs) : minF f x xs ∈ left := by
 refine freeUpto_mem dep left left.length (Nat.le_refl _) _ ?_
 rw [hf]
 rcases minF_mem f xs x with h | h
 ·rw [h]; simp
 ·simp [h]
/-- more fuel than the row is long changes nothing -/
theorem leastI_fuel {dep : Int → Int → Bool} {f : Int → Int → Int} : ∀ (n : Nat) (left : List Int), left.length ≤ n → leastI dep f n left = leastI dep f left.length left
 | 0, left, h => by
  have : left = [] := List.eq_nil_of_length_eq_zero (by omega)
  subst this; rfl
 | n + 1, left, h => by
  by_cases h0 : left.length = 0
  ·have : left = [] := List.eq_nil_of_length_eq_zero h0
   subst this; rfl
  ·obtain ⟨k, hk⟩ : ∃ k, left.length = k + 1 := ⟨left.length - 1, by omega⟩
   have e : leastI dep f left.length left = leastI dep f (k + 1) left := by rw [hk]
   rw [e, leastI_succ, leastI_succ]
   cases hf : freeUpto dep left left.length with
   | nil => rfl
   | cons x xs =>
    have hlt := filter_lt (minF_left (f := f) hf)
    show _ :: _ = _ :: _
    rw [leastI_fuel n _ (by omega), leastI_fuel k _ (by omega)]
theorem leastI_step {dep : Int → Int → Bool} {f : Int → Int → Int} {left : List Int} {x : Int} {xs : List Int} (hf : freeUpto dep left left.length = x :: xs) (hpos : 0 < left.length) :
  leastI dep f left.length left = minF f x xs :: leastI dep f (left.filter fun y => !([minF f x xs].contains y)).length (left.filter fun y => !([minF f x xs].contains y)) := by
 obtain ⟨k, hk⟩ : ∃ k, left.length = k + 1 := ⟨left.length - 1, by omega⟩
 have hlt := filter_lt (minF_left (f := f) hf)
 have e2 := leastI_fuel (dep := dep) (f := f) k (left.filter fun y => !([minF f x xs].contains y)) (by omega)
 have e : leastI dep f left.length left = leastI dep f (k + 1) left := by rw [hk]
 rw [← e2, e, leastI_succ, hf]
/-- a row of numbers that an append to a row of acts (from B on) leaves alone -/
def Aside (W : World) (B : Nat) (u : Value) : Prop := ∀ p n c, u = .slice (some p) n c → p.block < B ∨ ∃ cur, Blk W p.block cur 3
theorem Aside.grow {W W' : World} {B : Nat} {u : Value} (h : Aside W B u) (hb : Below W.heap.size W W') : Aside W' B u := fun p n c e => by
 rcases h p n c e with h | ⟨cur, h⟩
 ·exact .inl h
 ·exact .inr ⟨cur, h.grow hb⟩
theorem OwnI.aside {W : World} {base B : Nat} {u : Value} {l : List Int} (h : OwnI W base u l) : Aside W B u := fun p n c e => by
 rcases h.2 with ⟨h1, _⟩ | ⟨g, cap, cur, h1, _, hg, _⟩
 ·rw [h1] at e; cases e
 ·rw [h1] at e; cases e; exact .inr ⟨cur, hg⟩
theorem SlI.app {W W' : World} {B : Nat} {u o : Value} {lf : List Int} {n : Nat} {xs : List Value} (h : SlI W u lf) (hap : Aside W B u) (hO : W.ownsRow B 46 10 o n xs) (hg : W.grownBy W' o.ownBlock) : SlI W' u lf ∧ Aside W' B u := by
 have key : ∀ p m c, u = .slice (some p) m c → p.block < W.heap.size → W'.heap[p.block]? = W.heap[p.block]? := by
  intro p m c e hp
  refine hg.block _ hp (fun e2 => ?_)
  rcases hO.2 with ⟨h1, _⟩ | ⟨g, cap, cur, h1, hbg, hgg, _⟩
  ·rw [h1] at e2; cases e2
  ·rw [h1] at e2
   have e3 : p.block = g := by simpa [Value.ownBlock] using e2
   rcases hap p m c e with h2 | ⟨cur2, h2⟩
   ·omega
   ·unfold Blk at h2; rw [e3, hgg] at h2; cases h2
 obtain ⟨a, c, hv, hc, hcm, hcells⟩ := h
 refine ⟨⟨a, c, hv, hc, hcm, ?_⟩, fun p m c' e => ?_⟩
 ·rcases hcells with h | ⟨b, off, ha, hcs⟩
  ·exact .inl h
  ·subst ha
   refine .inr ⟨b, off, rfl, Nat.lt_of_lt_of_le hcs.1 hg.size, fun i j z hz => ?_⟩
   have := key ⟨b, off, none⟩ _ _ hv hcs.1
   rw [← hcs.2 i j z hz]
   simp only [World.cell?]
   rw [this]
 ·rcases hap p m c' e with h | ⟨cur, h⟩
  ·exact .inl h
  ·exact .inr ⟨cur, (key p m c' e h.lt).trans h⟩
theorem OwnI.len {W : World} {base : Nat} {u : Value} {l : List Int} (h : OwnI W base u l) : sliceLen u = l.length := by
 obtain ⟨p, c, rfl, _, _⟩ := own_shape' h; rfl
theorem cells_new (w : World) (xs : List Value) (t : TypeId) : ∀ j u, xs[j]? = some u → (w.alloc (.cells xs.toArray t)).cell? ((⟨w.heap.size, 0, none⟩ : Addr).add j) = some u := by
 intro j u h
 rw [Addr.add_lit, Nat.zero_add, World.cell?_alloc_at _ _ _ _ rfl]
 simpa using h
set_option maxHeartbeats 8000000 in
theorem least_spec {bp : Nat} {blank : Sol} {v av : Value} {l : List Sol} {acts : List Ac} {s : Stn} (w : World) (HP : PastAt bp blank v av l acts s w) (Ha : SlA w av acts) (hn : acts.length ≤ 60) (u : Value) (left : List Int) (Hl : SlI w u left) (hleft : ∀ x ∈ left, 0 ≤ x ∧ x < acts.length) (hlen : left.length ≤ 60) :
  Calls Tryz.prog 93 #[.pointer (some ⟨bp, 0, none⟩), u] w fun e w' => ∃ o, e = .returned o ∧ OwnA w' w.heap.size o (actsAt acts (leastI (depI (cellsOf l acts)) (cmpN acts) left.length left)) ∧ Below w.heap.size w w' := by
 obtain ⟨dv, hpast, _⟩ := HP.past
 have cp := hpast.cell
 have lp := hpast.lt
 clear hpast
 obtain ⟨p, c, rfl, _, _, _⟩ : ∃ p c, u = .slice p left.length c ∧ True ∧ True ∧ True := by
  obtain ⟨a, c, h, _⟩ := Hl; exact ⟨a, c, by rw [h, List.length_map], trivial, trivial, trivial⟩
 obtain ⟨i0, hi, hz0, hz1, hz2⟩ := info_parts info46
 have HI0 := Lib.hid (And.intro hi (And.intro hz0 (And.intro hz1 hz2))); clear hi hz0 hz1 hz2
 have HH := Lib.hid (And.intro HP (And.intro Ha (And.intro Hl hleft))); clear HP Hl hleft
 have Ha2 := Ha.cases
 rw [List.length_map] at Ha2
 have ha : ∃ b off ca, 0 < acts.length → av = .slice (some ⟨b, off, none⟩) acts.length ca ∧ acts.length ≤ ca ∧ ca ≤ 9223372036854775807 ∧ Cells w b off 10 (acts.map acL) := by
  rcases Ha2 with ⟨h, _⟩ | ⟨b, off, ca, h1, h2, h3, _, h5⟩
  ·exact ⟨0, 0, 0, fun hp => by have := congrArg List.length h; simp at this; rw [this] at hp; simp at hp⟩
  ·exact ⟨b, off, ca, fun _ => ⟨h1, h2, h3, h5⟩⟩
 obtain ⟨ab, aoff, ac, ha⟩ := ha
 have HA := Lib.hid ha; clear ha Ha Ha2
 have HN := Lib.hid hn
 generalize hres : leastI (depI (cellsOf l acts)) (cmpN acts) left.length left = res
 have HR := Lib.hid hres; clear hres
 have hmf' := hmf
 have HASD : Hid (0 < left.length → Aside (w.alloc (.cells #[.pointer (some ⟨bp, 0, none⟩)] 101)) (w.heap.size + 1) (.slice p left.length c)) := fun hpos q n c' e => by
  obtain ⟨a, c2, hv, _, _, hcells⟩ := HH.out.2.2.1
  have e1 : p = some q := by injection e
  have e2 : p = a := by injection hv
  rcases hcells with h | ⟨b, off, ha, hcs⟩
  ·have : left = [] := by simpa using h
   rw [this] at hpos; cases hpos
  ·have e3 : some q = some ⟨b, off, none⟩ := by rw [← e1, e2, ha]
   cases e3
   exact .inl (Nat.lt_succ_of_lt hcs.1)
 go_enter Tryz.func93, Tryz.ntmps93
 go_wp2_with fail
 go_loopw [1, 5] (fun u o wr => ∃ lf out : List Int, SlI wr u lf ∧ (0 < lf.length → Aside wr (w.heap.size + 1) u) ∧ lf.length ≤ 60 ∧ out.length + lf.length ≤ left.length ∧ (∀ x ∈ lf, 0 ≤ x ∧ x < acts.length) ∧ Hid (OwnA wr (w.heap.size + 1) o (actsAt acts out)) ∧ Hid (out ++ leastI (depI (cellsOf l acts)) (cmpN acts) lf.length lf = res) ∧ Below w.heap.size w wr ∧ Blk wr w.heap.size #[.pointer (some ⟨bp, 0, none⟩)] 101) (fun u _ _ => sliceLen u)
 case atStart => exact ⟨left, [], HH.out.2.2.1.mono (by exact bel_alloc (bel_refl w) _), HASD.out, hlen, by simp, HH.out.2.2.2, Lib.hid (World.ownsRow_nil _ _ _ _), Lib.hid (by simpa using HR.out), bel_alloc (bel_refl w) _, Blk.new _ _ _⟩
 case round =>
  obtain ⟨lf, out, hsl, hasd, hl60, hlo, hlr, hO, hrun, hbel, hbox⟩ := hrel
  have HSL := Lib.hid hsl
  have hr0 := hbox.row
  have c0 := hbox.cell
  have l0 := hbox.lt
  refine Veil.out ?_
  obtain ⟨p2, c2, rfl, hc2, hcm2, _⟩ := hsl
  refine Veil.on ?_
  rw [List.length_map] at *
  by_cases hlt : 0 < lf.length
  ·go_wp2_with fail
   refine (free_spec wr (HH.out.1.grow hbel) _ lf HSL.out hlr).mono ?_
   rintro e w1 ⟨bl, bt, rfl, hF, hb1⟩
   have HF := Lib.hid hF; clear hF
   go_wp2_with fail
   refine (Collect_spec HF.out (by omega)).mono ?_
   rintro e w2 ⟨u2, rfl, hO2, hb2⟩
   have hB2 : Below w.heap.size w w2 := bel_trans (bel_trans hbel hb1) hb2
   have hbx2 := (hbox.grow hb1).grow hb2
   have hb12 := bel_trans hb1 hb2
   have HO2 := Lib.hid hO2; clear hO2 hb2
   have hne := freeUpto_ne (depI (cellsOf l acts)) lf lf.length hlt
   generalize hfr : freeUpto (depI (cellsOf l acts)) lf lf.length = fr at hne HO2
   refine Veil.out ?_
   obtain ⟨x0, xs, rfl⟩ : ∃ x0 xs, fr = x0 :: xs := by
    cases fr with
    | nil => exact absurd rfl hne
    | cons a b => exact ⟨a, b, rfl⟩
   refine Veil.on ?_
   have hmemf : ∀ x ∈ x0 :: xs, 0 ≤ x ∧ x < acts.length := fun x hx => hlr x (freeUpto_mem (depI (cellsOf l acts)) lf lf.length (Nat.le_refl _) x (by rw [hfr]; exact hx))
   have hil := minF_left (f := cmpN acts) hfr
   have hstep := leastI_step (f := cmpN acts) hfr hlt
   have hmin := MinFunc147 u2 (x0 :: xs) (.pointer (some ⟨w.heap.size, 0, none⟩)) (cmpN acts) x0 w2 HO2.out.sl rfl (fun w' hw' x hx y hy => least1' w' (HH.out.1.grow (bel_trans hB2 hw')) (HH.out.2.1.mono (bel_trans hB2 hw')) w.heap.size ((hbx2.grow hw').cell 0) x y (hmemf x hx) (hmemf y hy))
   have e1 : (x0 :: xs).drop 1 = xs := rfl
   rw [e1] at hmin
   have hir := hlr _ hil
   have hflt := filter_lt hil
   generalize minF (cmpN acts) x0 xs = i at hmin hil hstep hir hflt
   have HM := Lib.hid hmin; clear hmin hmemf e1 hfr
   have HIL := Lib.hid (And.intro hil hstep); clear hil hstep
   go_wp2_with fail
   refine HM.out.mono ?_
   rintro e w3 ⟨rfl, hb3⟩
   have hB3 : Below w.heap.size w w3 := bel_trans hB2 hb3
   have hbx3 := hbx2.grow hb3
   have hbr := bel_trans hb12 hb3
   have HO3 := Lib.hid (own_grow hO.out hbr)
   have HSL3 := Lib.hid (HSL.out.mono hbr)
   refine Veil.out ?_
   obtain ⟨k, rfl⟩ : ∃ k : Nat, i = (k : Int) := ⟨i.toNat, by omega⟩
   refine Veil.on ?_
   have hkl : k < acts.length := by omega
   have hk : acts[k]? = some (acts[k]'hkl) := by simp
   have hA3 := HA.out (by omega)
   have hcs := ac_cells (hA3.2.2.2.mono hB3 hA3.2.2.2.1) hk
   have hav := hA3.1
   subst hav
   have cp3 : ∀ o, w3.cell? ⟨bp, o, none⟩ = (pastC blank v (.slice (some ⟨ab, aoff, none⟩) acts.length ac) dv s.1 s.2)[o]? := fun o => (hB3.cell (p := ⟨bp, o, none⟩) lp).trans (cp o)
   have lp3 : bp < w3.heap.size := Nat.lt_of_lt_of_le lp hB3.size
   have cb3 := hbx3.cell
   have lb3 := hbx3.lt
   generalize hx : acts[k]'hkl = x at hcs
   have a0 := hcs.1
   have a1 := hcs.2.1
   have a2 := hcs.2.2.1
   have a3 := hcs.2.2.2.1
   have a4 := hcs.2.2.2.2.1
   have a5 := hcs.2.2.2.2.2.1
   have a6 := hcs.2.2.2.2.2.2.1
   have a7 := hcs.2.2.2.2.2.2.2.1
   have a8 := hcs.2.2.2.2.2.2.2.2.1
   have a9 := hcs.2.2.2.2.2.2.2.2.2
   clear hcs HM c0 l0 cp hr0
   have lab : ab < w3.heap.size := Nat.lt_of_lt_of_le hA3.2.2.2.1 hB3.size
   have hac := hA3.2.1
   have hacm := hA3.2.2.1
   clear hA3
   have HX := Lib.hid hx; clear hx hk
   have hzz := hB3.size
   have HO4 := HO3
   go_wp2_with (first
    | (at_builtin; refine wpList_append_own _ rfl _ _ 28 rfl (w.heap.size + 1) 46 i0 (.agg #[.int .u8 0, .int .i64 0, .int .u64 0, .int .u64 0, .int .u64 0, .int .u64 0, .int .u64 0, .int .u64 0, .int .u64 0, .int .u64 0]) 10 80 Tryz.underlying28 HI0.out.1 HI0.out.2.1 HI0.out.2.2.1 HI0.out.2.2.2 rfl (by decide) _ _ _ rfl (HO3.out.alloc _) ⟨w3.heap.size, 0, none⟩ 1 1 (acL x) rfl rfl (cells_new _ _ _) (fun z hz => by simp at hz; rcases hz with rfl | rfl | rfl | rfl | rfl | rfl | rfl | rfl | rfl | rfl <;> rfl) (by unfold maxLen; simp; omega) (by simp; omega) (by simp; omega) ?_; intro v' w4 hown' hgrow4 hnil4))
   have hB4 : Below w.heap.size w w4 := (bel_alloc hB3 _).grown hgrow4 (by simp; omega) (fun j hj => by have := (HO3.out.lt j hj).1; omega)
   have hsa := SlI.app (HSL3.out.mono (bel_alloc (bel_refl w3) _)) (((hasd hlt).grow hbr).grow (bel_alloc (bel_refl w3) _)) (HO3.out.alloc _) hgrow4
   have hbx4 : Blk w4 w.heap.size #[.pointer (some ⟨bp, 0, none⟩)] 101 := (hgrow4.block w.heap.size (by simp; omega) (fun e => by have := (HO3.out.lt w.heap.size e.symm).1; omega)).trans (hbx3.alloc _)
   have hgn : SlI (w4.alloc (.cells #[.int .i64 k] 3)) (.slice (some ⟨w4.heap.size, 0, none⟩) 1 1) [(k : Int)] := OwnI.sl (base := w4.heap.size) (World.ownsRow_lit (e := 3) (size := 1) (base := w4.heap.size) w4 #[.int .i64 k] 1 (Nat.le_refl _) (by unfold maxLen; omega) rfl)
   have hwo := without_spec _ _ lf [(k : Int)] _ (hsa.1.mono (bel_alloc (bel_refl w4) _)) hgn (by omega)
   have HW := Lib.hid hwo; clear hwo hgn
   have HO5 := Lib.hid hown'
   clear hown' hgrow4 hnil4
   have hsz4 := hB4.size
   refine HW.out.mono ?_
   rintro e w5 ⟨u5, rfl, hO5, hb5⟩
   have hb45 : Below w4.heap.size w4 w5 := bel_trans (bel_alloc (bel_refl w4) _) hb5
   have HN5 := Lib.hid (And.intro hO5 (And.intro (own_grow HO5.out hb45) (And.intro (bel_trans hB4 hb45) (hbx4.grow hb45))))
   clear hO5 hb5 hb45 hsa hbx4
   have hown5 : OwnA w5 (w.heap.size + 1) v' (actsAt acts (out ++ [(k : Int)])) := by
    have e : actsAt acts (out ++ [(k : Int)]) = actsAt acts out ++ [x] := by simp [actsAt, ← HX.out, hkl]
    rw [e]
    have := HN5.out.2.1
    unfold OwnA
    rw [List.length_append, List.map_append, List.flatten_append]
    simpa using this
   have hrun5 : (out ++ [(k : Int)]) ++ leastI (depI (cellsOf l acts)) (cmpN acts) (lf.filter fun y => !([(k : Int)].contains y)).length (lf.filter fun y => !([(k : Int)].contains y)) = res := by
    rw [← hrun.out, HIL.out.2, List.append_assoc]; rfl
   have hlen5 := HN5.out.1.len
   have H5 := Lib.hid (And.intro hown5 (And.intro hrun5 (And.intro hlen5 hflt))); clear hown5 hrun5 hlen5 hflt
   go_wp2_with fail
   go_roundw
   case rel => exact ⟨_, out ++ [(k : Int)], HN5.out.1.sl, fun _ => HN5.out.1.aside, Nat.le_trans (Nat.le_of_lt H5.out.2.2.2) hl60, by have := H5.out.2.2.2; rw [List.length_append, List.length_singleton]; omega, fun y hy => hlr y (List.mem_filter.1 hy).1, H5.out.1, H5.out.2.1, HN5.out.2.2.1, HN5.out.2.2.2⟩
   case measure =>
    have h1 := H5.out.2.2.1
    have h2 := H5.out.2.2.2
    show sliceLen u5 < lf.length
    omega
  ·have hz : lf = [] := List.eq_nil_of_length_eq_zero (by omega)
   subst hz
   have hr := hrun.out
   have e0 : leastI (depI (cellsOf l acts)) (cmpN acts) ([] : List Int).length [] = [] := rfl
   rw [e0, List.append_nil] at hr
   have HE := Lib.hid hr; clear hr e0
   go_wp2_with fail
   go_ret
   refine ⟨_, rfl, ?_, hbel⟩
   rw [← HE.out]
   exact own_weak hO.out (by omega)
end Go.Proofs.YtccnkebkgegohaaGreatDoor
end
section
namespace Go.Proofs.YtccnkebkgegohaaGreatDoor
open Go.RowKit Go.Rel
set_option maxRecDepth 100000
/-- the least list of all acts -/
def normalM (l : List Sol) (acts : List Ac) : List Ac := actsAt acts (leastI (depI (cellsOf l acts)) (cmpN acts) (upto acts.length).length (upto acts.length))
theorem upto_range {n : Nat} : ∀ x ∈ upto n, 0 ≤ x ∧ x < n := by
 intro x hx
 obtain ⟨i, hi, rfl⟩ := List.mem_map.1 hx
 have := List.mem_range.1 hi
 omega
theorem leastI_len {dep : Int → Int → Bool} {f : Int → Int → Int} : ∀ (n : Nat) (left : List Int), (leastI dep f n left).length ≤ n
 | 0, _ => Nat.le_refl _
 | n + 1, left => by
  rw [leastI_succ]
  cases freeUpto dep left left.length with
  | nil => exact Nat.zero_le _
  | cons x xs => simp only [List.length_cons]; exact Nat.succ_le_succ (leastI_len n _)
set_option maxHeartbeats 2000000 in
theorem Normal_bad {blank : Sol} {v av : Value} {l : List Sol} {acts : List Ac} {x : Nat × Int} (h : begunM blank l acts = .inl x) (w : World) (Hv : SlS w v l) (Hav : SlA w av acts) :
  Calls Tryz.prog 55 #[.agg #[.int .u64 (pl blank 0), .int .u64 (pl blank 1), .int .u64 (pl blank 2), .int .u64 (pl blank 3), .int .u64 (pl blank 4), .int .u64 (pl blank 5), .int .u64 (pl blank 6), .int .u64 (pl blank 7), v, av]] w fun e w' => e = .returned (.tuple #[.agg #[.int .u64 0, .int .u64 0, .int .u64 0, .int .u64 0, .int .u64 0, .int .u64 0, .int .u64 0, .int .u64 0, .slice none 0 0, .slice none 0 0], .int .i64 x.2]) ∧ Below w.heap.size w w' := by
 have H := Lib.hid fun w' (hb : Below w.heap.size w w') => begun_bad h w' (Hv.mono hb) (Hav.mono hb)
 have hne := begunM_bad h
 clear h Hv Hav
 go_enter Tryz.func55, Tryz.ntmps55
 go_wp2_with fail
 refine (H.out _ bel_by).mono ?_
 rintro e w1 ⟨rfl, hb⟩
 have b1 : Blk w1 (w.heap.size + 1) #[.int .u64 0, .int .u64 0, .int .u64 0, .int .u64 0, .int .u64 0, .int .u64 0, .int .u64 0, .int .u64 0, .slice none 0 0, .slice none 0 0] 30 := Blk.grow blk_by hb
 have r1 := b1.row
 rw [← b1.rw]
 clear b1
 go_wp2_with fail
 refine bodyPost_ret (by simp [results, Tryz.results55, go_sem, *]) rfl ⟨rfl, bel_by⟩
end Go.Proofs.YtccnkebkgegohaaGreatDoor
end
section
namespace Go.Proofs.YtccnkebkgegohaaGreatDoor
open Go.RowKit Go.Rel
set_option maxRecDepth 100000
set_option maxHeartbeats 4000000 in
theorem Normal_good {blank : Sol} {v av : Value} {l : List Sol} {acts : List Ac} {s : Stn} (h : begunM blank l acts = .inr s) (w : World) (Hv : SlS w v l) (Hav : SlA w av acts) :
  Calls Tryz.prog 55 #[.agg #[.int .u64 (pl blank 0), .int .u64 (pl blank 1), .int .u64 (pl blank 2), .int .u64 (pl blank 3), .int .u64 (pl blank 4), .int .u64 (pl blank 5), .int .u64 (pl blank 6), .int .u64 (pl blank 7), v, av]] w fun e w' => ∃ pv bv, e = .returned (.tuple #[.agg #[.int .u64 (pl blank 0), .int .u64 (pl blank 1), .int .u64 (pl blank 2), .int .u64 (pl blank 3), .int .u64 (pl blank 4), .int .u64 (pl blank 5), .int .u64 (pl blank 6), .int .u64 (pl blank 7), pv, bv], .int .i64 0]) ∧ OwnS w' w.heap.size pv l ∧ OwnA w' w.heap.size bv (normalM l acts) ∧ Below w.heap.size w w' := by
 have H := Lib.hid fun w' (hb : Below w.heap.size w w') => begun_good h w' (Hv.mono hb) (Hav.mono hb)
 have hg := begunM_good h
 have h8 := chkPat_ok hg.1
 have hn := hg.2.1
 have HV := Lib.hid (And.intro Hv Hav)
 clear h Hv Hav hg
 go_enter Tryz.func55, Tryz.ntmps55
 go_wp2_with fail
 refine (H.out _ bel_by).mono ?_
 rintro e w1 ⟨bp, rfl, hbp, hP, hb⟩
 have b1 : Blk w1 (w.heap.size + 1) #[.int .u64 0, .int .u64 0, .int .u64 0, .int .u64 0, .int .u64 0, .int .u64 0, .int .u64 0, .int .u64 0, .slice none 0 0, .slice none 0 0] 30 := Blk.grow blk_by hb
 have hB1 : Below w.heap.size w w1 := bel_trans bel_by hb
 have HP1 := Lib.hid hP; clear hP
 have hs1 := hb.size
 simp only [World.size_alloc] at hs1
 clear hb hbp
 go_wp2_with fail
 refine (indices_spec w1 HP1.out hn).mono ?_
 rintro e w2 ⟨u2, rfl, hO2, hb2⟩
 have HO2 := Lib.hid hO2; clear hO2
 have hB2 : Below w.heap.size w w2 := bel_trans hB1 hb2
 have HP2 := Lib.hid (HP1.out.grow hb2)
 have b2 := b1.grow hb2
 have hs2 := hb2.size
 clear hb2 b1
 go_wp2_with fail
 refine (least_spec w2 HP2.out (HV.out.2.mono hB2) hn u2 (upto acts.length) HO2.out.sl upto_range (by rw [upto_length]; exact hn)).mono ?_
 rintro e w3 ⟨o3, rfl, hO3, hb3⟩
 have HO3 := Lib.hid hO3; clear hO3
 have hB3 : Below w.heap.size w w3 := bel_trans hB2 hb3
 have HP3 := Lib.hid (HP2.out.grow hb3)
 have b3 := b2.grow hb3
 have hs3 := hb3.size
 clear hb3 b2
 go_wp2_with fail
 refine (with_spec w3 HP3.out (HV.out.1.mono hB3) h8 o3 (normalM l acts) HO3.out.sl (by unfold normalM; rw [List.length_map]; exact Nat.le_trans (leastI_len _ _) (by rw [upto_length]; omega))).mono ?_
 rintro e w4 ⟨pv, bv, rfl, hS, hA, hb4⟩
 have hB4 : Below w.heap.size w w4 := bel_trans hB3 hb4
 have b4 := b3.grow hb4
 have HS := Lib.hid (And.intro hS hA)
 refine Veil.out ?_
 obtain ⟨p, c, hp, _, _⟩ := own_shape' hS
 obtain ⟨p', c', hp', _, _⟩ := own_shape' hA
 subst hp
 subst hp'
 refine Veil.on ?_
 clear hS hA hb4 b3
 have r1 := b4.row
 rw [← b4.rw]
 clear b4
 go_wp2_with fail
 refine bodyPost_ret (by simp [results, Tryz.results55, go_sem, *]) rfl ⟨_, _, rfl, own_weak (own_row (bp := w.heap.size + 1) HS.out.1 (by omega) _) (by omega), own_weak (own_row (bp := w.heap.size + 1) HS.out.2 (by omega) _) (by omega), bel_by⟩
end Go.Proofs.YtccnkebkgegohaaGreatDoor
end
section
namespace Go.Proofs.YtccnkebkgegohaaGreatDoor
open Go.RowKit Go.Rel
set_option maxRecDepth 100000
set_option maxHeartbeats 4000000 in
theorem EqualInt_spec (v u : Value) (l m : List Int) (w : World) (hv : SlI w v l) (hu : SlI w u m) :
  Calls Tryz.prog 49 #[v, u] w fun e w' => e = .returned (.bool (l == m)) ∧ Below w.heap.size w w' := by
 have hlv : ∃ a c, v = .slice a l.length c := by obtain ⟨a, c, h, _⟩ := hv; exact ⟨a, c, by rw [h, List.length_map]⟩
 have hlu : ∃ a c, u = .slice a m.length c := by obtain ⟨a, c, h, _⟩ := hu; exact ⟨a, c, by rw [h, List.length_map]⟩
 by_cases hlen : l.length = m.length
 ·rcases hv.cases with ⟨hl, a, c, rfl, hm⟩ | ⟨b, off, c, rfl, hc, hm, hpos, hcs⟩
  ·have hl' : l = [] := by simpa using hl
   subst hl'
   have hm' : m = [] := List.eq_nil_of_length_eq_zero hlen.symm
   subst hm'
   obtain ⟨a', c', rfl⟩ := hlu
   clear hlv hl hv hu hlen
   simp only [List.length_nil]
   go_enter Tryz.func49, Tryz.ntmps49
   go_wp2_with fail
   refine wp_loop_rounds 1 ?_
   rw [rounds_succ]
   go_wp2_with fail
   go_ret
   exact ⟨rfl, Below.refl _ _⟩
  ·rcases hu.cases with ⟨hl, _⟩ | ⟨b', off', c', rfl, hc', hm', hpos', hcs'⟩
   ·have hl' : m = [] := by simpa using hl
    subst hl'
    rw [List.length_map] at hpos
    simp at hlen; rw [hlen] at hpos; simp at hpos
   rw [List.length_map] at hc hpos hc' hpos' ⊢
   rw [List.length_map]
   rw [← hlen] at hc' hpos' ⊢
   have H := Lib.hid hcs; have H' := Lib.hid hcs'
   have lb := hcs.1; have lb' := hcs'.1
   clear hcs hcs' hv hu hlv hlu
   generalize hn : l.length = n at *
   have HN := Lib.hid (And.intro hn hlen); clear hn hlen
   go_enter Tryz.func49, Tryz.ntmps49
   go_wp2_with fail
   go_loopw [13] (fun i wr => ∃ k q : Nat, k ≤ n ∧ i = .int .i64 k ∧ Hid (∀ (j : Nat), j < k → l[j]? = m[j]?) ∧ wr = w.drewN q) (fun i _ => n - (intOf i).toNat)
   case atStart => exact ⟨0, 0, Nat.zero_le _, rfl, fun j hj => (by omega), rfl⟩
   case round =>
    obtain ⟨k, q, hk, rfl, HP, rfl⟩ := hrel
    by_cases hlt : k < n
    ·have hx : l[k]? = some (l[k]'(by rw [HN.out.1]; exact hlt)) := by simp
     have hy : m[k]? = some (m[k]'(by rw [← HN.out.2]; exact hlt)) := by simp
     generalize l[k]'(by rw [HN.out.1]; exact hlt) = x at hx
     generalize m[k]'(by rw [← HN.out.2]; exact hlt) = y at hy
     have c0 := int_cell H.out hx
     have d0 := int_cell H'.out hy
     have HX := Lib.hid (And.intro hx hy); clear hx hy
     go_wp2_with fail
     go_quiet (fail)
     go_wp2_with fail
     ·have he : (x != y) = true := by assumption
      have hz : (l == m) = false := by
       rw [beq_eq_false_iff_ne]
       intro h
       have h1 := HX.out.1
       rw [h, HX.out.2] at h1
       cases h1
       simp at he
      go_ret
      exact ⟨ret_bool hz.symm, bel_by⟩
     ·have he : (x != y) = false := by assumption
      have hxy : x = y := by simpa using he
      refine ⟨⟨k + 1, q + nq, by omega, by go_num, fun j hj => ?_, rfl⟩, by simp [intOf]; omega⟩
      rcases Nat.lt_or_eq_of_le (Nat.le_of_lt_succ hj) with h | h
      ·exact HP.out j h
      ·subst h; rw [HX.out.1, HX.out.2, hxy]
    ·have hkn : k = n := by omega
     subst hkn
     have hz : (l == m) = true := by
      rw [beq_iff_eq]
      apply List.ext_getElem?
      intro j
      by_cases hj : j < l.length
      ·exact HP.out j (by rw [← HN.out.1]; exact hj)
      ·rw [List.getElem?_eq_none (by omega), List.getElem?_eq_none (by have := HN.out; omega)]
     have HZ := Lib.hid hz; clear hz
     go_wp2_with fail
     go_ret
     exact ⟨ret_bool HZ.out.symm, below_drewN (Below.refl _ _) _⟩
 ·have hz : (l == m) = false := by
   rw [beq_eq_false_iff_ne]
   exact fun h => hlen (by rw [h])
  obtain ⟨a, c, rfl⟩ := hlv
  obtain ⟨a', c', rfl⟩ := hlu
  have HZ := Lib.hid hz; clear hz hv hu
  generalize l.length = n at *
  generalize m.length = n' at *
  go_enter Tryz.func49, Tryz.ntmps49
  go_wp2_with fail
  go_ret
  exact ⟨ret_bool HZ.out.symm, Below.refl _ _⟩
set_option maxHeartbeats 4000000 in
theorem EqualSol_spec (v u : Value) (l m : List Sol) (w : World) (hv : SlS w v l) (hu : SlS w u m) :
  Calls Tryz.prog 155 #[v, u] w fun e w' => e = .returned (.bool (l == m)) ∧ Below w.heap.size w w' := by
 have hlv : ∃ a c, v = .slice a l.length c := by obtain ⟨a, c, h, _⟩ := hv; exact ⟨a, c, by rw [h, List.length_map]⟩
 have hlu : ∃ a c, u = .slice a m.length c := by obtain ⟨a, c, h, _⟩ := hu; exact ⟨a, c, by rw [h, List.length_map]⟩
 by_cases hlen : l.length = m.length
 ·rcases hv.cases with ⟨hl, a, c, rfl, hm⟩ | ⟨b, off, c, rfl, hc, hm, hpos, hcs⟩
  ·have hl' : l = [] := by simpa using hl
   subst hl'
   have hm' : m = [] := List.eq_nil_of_length_eq_zero hlen.symm
   subst hm'
   obtain ⟨a', c', rfl⟩ := hlu
   clear hlv hl hv hu hlen
   simp only [List.length_nil]
   go_enter Tryz.func155, Tryz.ntmps155
   go_wp2_with fail
   refine wp_loop_rounds 1 ?_
   rw [rounds_succ]
   go_wp2_with fail
   go_ret
   exact ⟨rfl, Below.refl _ _⟩
  ·rcases hu.cases with ⟨hl, _⟩ | ⟨b', off', c', rfl, hc', hm', hpos', hcs'⟩
   ·have hl' : m = [] := by simpa using hl
    subst hl'
    rw [List.length_map] at hpos
    simp at hlen; rw [hlen] at hpos; simp at hpos
   rw [List.length_map] at hc hpos hc' hpos' ⊢
   rw [List.length_map]
   rw [← hlen] at hc' hpos' ⊢
   have H := Lib.hid hcs; have H' := Lib.hid hcs'
   have lb := hcs.1; have lb' := hcs'.1
   clear hcs hcs' hv hu hlv hlu
   generalize hn : l.length = n at *
   have HN := Lib.hid (And.intro hn hlen); clear hn hlen
   go_enter Tryz.func155, Tryz.ntmps155
   go_wp2_with fail
   go_loopw [13] (fun i wr => ∃ k q : Nat, k ≤ n ∧ i = .int .i64 k ∧ Hid (∀ (j : Nat), j < k → l[j]? = m[j]?) ∧ wr = w.drewN q) (fun i _ => n - (intOf i).toNat)
   case atStart => exact ⟨0, 0, Nat.zero_le _, rfl, fun j hj => (by omega), rfl⟩
   case round =>
    obtain ⟨k, q, hk, rfl, HP, rfl⟩ := hrel
    by_cases hlt : k < n
    ·have hx : l[k]? = some (l[k]'(by rw [HN.out.1]; exact hlt)) := by simp
     have hy : m[k]? = some (m[k]'(by rw [← HN.out.2]; exact hlt)) := by simp
     generalize l[k]'(by rw [HN.out.1]; exact hlt) = x at hx
     generalize m[k]'(by rw [← HN.out.2]; exact hlt) = y at hy
     obtain ⟨c0, c1, c2, c3, c4, c5, c6, c7⟩ := sol_cells H.out hx
     obtain ⟨d0, d1, d2, d3, d4, d5, d6, d7⟩ := sol_cells H'.out hy
     have HX := Lib.hid (And.intro hx hy); clear hx hy
     go_wp2_with fail
     go_quiet (fail)
     go_wp2_with fail
     ·have he : (x != y) = true := by assumption
      have hz : (l == m) = false := by
       rw [beq_eq_false_iff_ne]
       intro h
       have h1 := HX.out.1
       rw [h, HX.out.2] at h1
       cases h1
       simp at he
      go_ret
      exact ⟨ret_bool hz.symm, bel_by⟩
     ·have he : (x != y) = false := by assumption
      have hxy : x = y := by simpa using he
      refine ⟨⟨k + 1, q + nq, by omega, by go_num, fun j hj => ?_, rfl⟩, by simp [intOf]; omega⟩
      rcases Nat.lt_or_eq_of_le (Nat.le_of_lt_succ hj) with h | h
      ·exact HP.out j h
      ·subst h; rw [HX.out.1, HX.out.2, hxy]
    ·have hkn : k = n := by omega
     subst hkn
     have hz : (l == m) = true := by
      rw [beq_iff_eq]
      apply List.ext_getElem?
      intro j
      by_cases hj : j < l.length
      ·exact HP.out j (by rw [← HN.out.1]; exact hj)
      ·rw [List.getElem?_eq_none (by omega), List.getElem?_eq_none (by have := HN.out; omega)]
     have HZ := Lib.hid hz; clear hz
     go_wp2_with fail
     go_ret
     exact ⟨ret_bool HZ.out.symm, below_drewN (Below.refl _ _) _⟩
 ·have hz : (l == m) = false := by
   rw [beq_eq_false_iff_ne]
   exact fun h => hlen (by rw [h])
  obtain ⟨a, c, rfl⟩ := hlv
  obtain ⟨a', c', rfl⟩ := hlu
  have HZ := Lib.hid hz; clear hz hv hu
  generalize l.length = n at *
  generalize m.length = n' at *
  go_enter Tryz.func155, Tryz.ntmps155
  go_wp2_with fail
  go_ret
  exact ⟨ret_bool HZ.out.symm, Below.refl _ _⟩
end Go.Proofs.YtccnkebkgegohaaGreatDoor
end
section
namespace Go.Proofs.YtccnkebkgegohaaGreatDoor
open Go.RowKit Go.Rel
set_option maxRecDepth 100000
set_option maxHeartbeats 8000000 in
theorem both_good_true {blank : Sol} {v av : Value} {l : List Sol} {acts : List Ac} {s : Stn} (h : begunM blank l acts = .inr s) {blank2 : Sol} {v2 av2 : Value} {l2 : List Sol} {acts2 : List Ac} {s2 : Stn} (h2 : begunM blank2 l2 acts2 = .inr s2) (w : World) (Hv : SlS w v l) (Hav : SlA w av acts) (Hv2 : SlS w v2 l2) (Hav2 : SlA w av2 acts2) (hbl : (blank == blank2) = true) :
  Calls Tryz.prog 107 #[.agg #[.int .u64 (pl blank 0), .int .u64 (pl blank 1), .int .u64 (pl blank 2), .int .u64 (pl blank 3), .int .u64 (pl blank 4), .int .u64 (pl blank 5), .int .u64 (pl blank 6), .int .u64 (pl blank 7), v, av], .agg #[.int .u64 (pl blank2 0), .int .u64 (pl blank2 1), .int .u64 (pl blank2 2), .int .u64 (pl blank2 3), .int .u64 (pl blank2 4), .int .u64 (pl blank2 5), .int .u64 (pl blank2 6), .int .u64 (pl blank2 7), v2, av2]] w fun e w' => ∃ bp bq, e = .returned (.tuple #[.pointer (some ⟨bp, 0, none⟩), .pointer (some ⟨bq, 0, none⟩), .bool (l == l2), .int .i64 0]) ∧ PastAt bp blank v av l acts s w' ∧ PastAt bq blank2 v2 av2 l2 acts2 s2 w' ∧ Below w.heap.size w w' := by
 have H := Lib.hid fun w' (hb : Below w.heap.size w w') => begun_good h w' (Hv.mono hb) (Hav.mono hb)
 have H2 := Lib.hid fun w' (hb : Below w.heap.size w w') => begun_good h2 w' (Hv2.mono hb) (Hav2.mono hb)
 have HE := Lib.hid fun w' (hb : Below w.heap.size w w') => EqualSol_spec v v2 l l2 w' (Hv.mono hb) (Hv2.mono hb)
 generalize hr : (l == l2) = r at HE
 have hvs : ∃ a n c, v = .slice a n c := by obtain ⟨a, c, h, _⟩ := Hv; exact ⟨_, _, _, h⟩
 have hvs2 : ∃ a n c, v2 = .slice a n c := by obtain ⟨a, c, h, _⟩ := Hv2; exact ⟨_, _, _, h⟩
 clear h h2 Hv Hav Hv2 Hav2
 go_enter Tryz.func107, Tryz.ntmps107
 go_wp2_with fail
 refine (H.out _ bel_by).mono ?_
 rintro e w1 ⟨bp, rfl, hbp, hP, hb⟩
 have hB1 : Below w.heap.size w w1 := bel_trans bel_by hb
 have g2 : Blk w1 (w.heap.size + 1) #[.int .u64 (pl blank2 0), .int .u64 (pl blank2 1), .int .u64 (pl blank2 2), .int .u64 (pl blank2 3), .int .u64 (pl blank2 4), .int .u64 (pl blank2 5), .int .u64 (pl blank2 6), .int .u64 (pl blank2 7), v2, av2] 30 := Blk.grow blk_by hb
 have cg := g2.cell
 have lg := g2.lt
 clear hb g2
 go_wp2_with fail
 refine (H2.out _ hB1).mono ?_
 rintro e w2 ⟨bq, rfl, hbq, hP2, hb2⟩
 have hB2 : Below w.heap.size w w2 := bel_trans hB1 hb2
 have HP := Lib.hid (And.intro (hP.grow hb2) hP2); clear hP hP2
 refine Veil.out ?_
 obtain ⟨dv, hpast, _⟩ := HP.out.1.past
 obtain ⟨dv2, hpast2, _⟩ := HP.out.2.past
 refine Veil.on ?_
 have cp := hpast.cell
 have lp := hpast.lt
 have cq := hpast2.cell
 have lq := hpast2.lt
 clear hpast hpast2 cg lg hb2
 go_wp2_with fail
 refine wp_region_inv Grows (fun _ _ => True) [Is (.pointer (some ⟨bp, 0, none⟩)), Is (.pointer (some ⟨bq, 0, none⟩)), Is (.pointer (some ⟨bp, 0, none⟩)), Is (.pointer (some ⟨bp, 0, none⟩)), Is (.pointer (some ⟨bp, 0, none⟩)), Is (.pointer (some ⟨bp, 0, none⟩)), Is (.agg #[.int .u64 (pl blank 0), .int .u64 (pl blank 1), .int .u64 (pl blank 2), .int .u64 (pl blank 3), .int .u64 (pl blank 4), .int .u64 (pl blank 5), .int .u64 (pl blank 6), .int .u64 (pl blank 7)]), Is (.pointer (some ⟨bq, 0, none⟩)), Is (.pointer (some ⟨bq, 0, none⟩)), Is (.pointer (some ⟨bq, 0, none⟩)), Is (.pointer (some ⟨bq, 0, none⟩)), Is (.agg #[.int .u64 (pl blank2 0), .int .u64 (pl blank2 1), .int .u64 (pl blank2 2), .int .u64 (pl blank2 3), .int .u64 (pl blank2 4), .int .u64 (pl blank2 5), .int .u64 (pl blank2 6), .int .u64 (pl blank2 7)]), Is (.bool true), Is (.bool true), Is (.pointer (some ⟨bp, 0, none⟩)), Is (.pointer (some ⟨bp, 0, none⟩)), Is (.pointer (some ⟨bp, 0, none⟩)), Is (.pointer (some ⟨bp, 8, none⟩)), Is v, Is (.pointer (some ⟨bq, 0, none⟩)), Is (.pointer (some ⟨bq, 0, none⟩)), Is (.pointer (some ⟨bq, 0, none⟩)), Is (.pointer (some ⟨bq, 8, none⟩)), Is v2, Is (.bool r), Is (.bool r), Is (.pointer (some ⟨bp, 0, none⟩)), Is (.pointer (some ⟨bq, 0, none⟩)), Is (.bool r), Is (.int .i64 0)] (by kernel_rfl) (by kernel_rfl) rfl Grows.refl (fun _ _ _ => Grows.trans) (stable_mem ⟨fun _ _ _ h _ => h, fun _ _ _ h _ => h, fun _ _ _ h _ => h, fun _ _ _ h _ => h, fun _ _ _ h _ => h, fun _ _ _ h _ => h, fun _ _ _ h _ => h, fun _ _ _ h _ => h, fun _ _ _ h _ => h, fun _ _ _ h _ => h, fun _ _ _ h _ => h, fun _ _ _ h _ => h, fun _ _ _ h _ => h, fun _ _ _ h _ => h, fun _ _ _ h _ => h, fun _ _ _ h _ => h, fun _ _ _ h _ => h, fun _ _ _ h _ => h, fun _ _ _ h _ => h, fun _ _ _ h _ => h, fun _ _ _ h _ => h, fun _ _ _ h _ => h, fun _ _ _ h _ => h, fun _ _ _ h _ => h, fun _ _ _ h _ => h, fun _ _ _ h _ => h, fun _ _ _ h _ => h, fun _ _ _ h _ => h, fun _ _ _ h _ => h, fun _ _ _ h _ => h, trivial⟩) _ (Below.drew (Below.refl _ _)) trivial ?_
 iterate 2 (refine inv_cons ?_ (fun _ => ?_); · intro L w1 hat hb hI hF; have hc := (Grows.cells hb).1; (try simp [factsI, Region.binds, Is] at hF); go_simp; (try first | exact Grows.refl _ | exact trivial | rfl))
 refine inv_cons ?_ (fun v2 => ?_)
 ·intro L w1 hat hb hI hF; have hc := (Grows.cells hb).1; try simp [factsI, Region.binds, Is] at hF
  go_simp
  try first | exact Grows.refl _ | exact trivial | rfl
 iterate 21 (refine inv_cons ?_ (fun _ => ?_); · intro L w1 hat hb hI hF; have hc := (Grows.cells hb).1; (try simp [factsI, Region.binds, Is] at hF); go_simp; (try first | exact Grows.refl _ | exact trivial | rfl))
 refine inv_cons ?_ (fun v24 => ?_)
 ·intro L w1 hat hb hI hF; have hc := (Grows.cells hb).1; try simp [factsI, Region.binds, Is] at hF
  go_simp
  refine (HE.out _ (bel_trans hB2 hb)).mono ?_
  rintro e w4 ⟨rfl, hb4⟩
  exact ⟨rfl, hb4⟩
 iterate 5 (refine inv_cons ?_ (fun _ => ?_); · intro L w1 hat hb hI hF; have hc := (Grows.cells hb).1; (try simp [factsI, Region.binds, Is] at hF); go_simp; (try first | exact Grows.refl _ | exact trivial | rfl))
 refine inv_nil ?_
 intro w1 hb hI hF
 simp [Is, Nat.forall_lt_succ_right] at hF
 simp only [Act.put, List.setIfInBounds_toArray, List.set_cons_succ, List.set_cons_zero, hF]
 clear hF
 go_wp2_with fail
 refine bodyPost_ret (by simp [results, Tryz.results107, go_sem]) rfl ⟨_, _, rfl, HP.out.1.grow hb, HP.out.2.grow hb, bel_trans hB2 hb⟩
set_option maxHeartbeats 8000000 in
theorem both_good_false {blank : Sol} {v av : Value} {l : List Sol} {acts : List Ac} {s : Stn} (h : begunM blank l acts = .inr s) {blank2 : Sol} {v2 av2 : Value} {l2 : List Sol} {acts2 : List Ac} {s2 : Stn} (h2 : begunM blank2 l2 acts2 = .inr s2) (w : World) (Hv : SlS w v l) (Hav : SlA w av acts) (Hv2 : SlS w v2 l2) (Hav2 : SlA w av2 acts2) (hbl : (blank == blank2) = false) :
  Calls Tryz.prog 107 #[.agg #[.int .u64 (pl blank 0), .int .u64 (pl blank 1), .int .u64 (pl blank 2), .int .u64 (pl blank 3), .int .u64 (pl blank 4), .int .u64 (pl blank 5), .int .u64 (pl blank 6), .int .u64 (pl blank 7), v, av], .agg #[.int .u64 (pl blank2 0), .int .u64 (pl blank2 1), .int .u64 (pl blank2 2), .int .u64 (pl blank2 3), .int .u64 (pl blank2 4), .int .u64 (pl blank2 5), .int .u64 (pl blank2 6), .int .u64 (pl blank2 7), v2, av2]] w fun e w' => ∃ bp bq, e = .returned (.tuple #[.pointer (some ⟨bp, 0, none⟩), .pointer (some ⟨bq, 0, none⟩), .bool false, .int .i64 0]) ∧ PastAt bp blank v av l acts s w' ∧ PastAt bq blank2 v2 av2 l2 acts2 s2 w' ∧ Below w.heap.size w w' := by
 have H := Lib.hid fun w' (hb : Below w.heap.size w w') => begun_good h w' (Hv.mono hb) (Hav.mono hb)
 have H2 := Lib.hid fun w' (hb : Below w.heap.size w w') => begun_good h2 w' (Hv2.mono hb) (Hav2.mono hb)
 have HE := Lib.hid fun w' (hb : Below w.heap.size w w') => EqualSol_spec v v2 l l2 w' (Hv.mono hb) (Hv2.mono hb)
 generalize hr : (l == l2) = r at HE
 have hvs : ∃ a n c, v = .slice a n c := by obtain ⟨a, c, h, _⟩ := Hv; exact ⟨_, _, _, h⟩
 have hvs2 : ∃ a n c, v2 = .slice a n c := by obtain ⟨a, c, h, _⟩ := Hv2; exact ⟨_, _, _, h⟩
 clear h h2 Hv Hav Hv2 Hav2
 go_enter Tryz.func107, Tryz.ntmps107
 go_wp2_with fail
 refine (H.out _ bel_by).mono ?_
 rintro e w1 ⟨bp, rfl, hbp, hP, hb⟩
 have hB1 : Below w.heap.size w w1 := bel_trans bel_by hb
 have g2 : Blk w1 (w.heap.size + 1) #[.int .u64 (pl blank2 0), .int .u64 (pl blank2 1), .int .u64 (pl blank2 2), .int .u64 (pl blank2 3), .int .u64 (pl blank2 4), .int .u64 (pl blank2 5), .int .u64 (pl blank2 6), .int .u64 (pl blank2 7), v2, av2] 30 := Blk.grow blk_by hb
 have cg := g2.cell
 have lg := g2.lt
 clear hb g2
 go_wp2_with fail
 refine (H2.out _ hB1).mono ?_
 rintro e w2 ⟨bq, rfl, hbq, hP2, hb2⟩
 have hB2 : Below w.heap.size w w2 := bel_trans hB1 hb2
 have HP := Lib.hid (And.intro (hP.grow hb2) hP2); clear hP hP2
 refine Veil.out ?_
 obtain ⟨dv, hpast, _⟩ := HP.out.1.past
 obtain ⟨dv2, hpast2, _⟩ := HP.out.2.past
 refine Veil.on ?_
 have cp := hpast.cell
 have lp := hpast.lt
 have cq := hpast2.cell
 have lq := hpast2.lt
 clear hpast hpast2 cg lg hb2
 go_wp2_with fail
 refine wp_region_inv Grows (fun _ _ => True) [Is (.pointer (some ⟨bp, 0, none⟩)), Is (.pointer (some ⟨bq, 0, none⟩)), Is (.pointer (some ⟨bp, 0, none⟩)), Is (.pointer (some ⟨bp, 0, none⟩)), Is (.pointer (some ⟨bp, 0, none⟩)), Is (.pointer (some ⟨bp, 0, none⟩)), Is (.agg #[.int .u64 (pl blank 0), .int .u64 (pl blank 1), .int .u64 (pl blank 2), .int .u64 (pl blank 3), .int .u64 (pl blank 4), .int .u64 (pl blank 5), .int .u64 (pl blank 6), .int .u64 (pl blank 7)]), Is (.pointer (some ⟨bq, 0, none⟩)), Is (.pointer (some ⟨bq, 0, none⟩)), Is (.pointer (some ⟨bq, 0, none⟩)), Is (.pointer (some ⟨bq, 0, none⟩)), Is (.agg #[.int .u64 (pl blank2 0), .int .u64 (pl blank2 1), .int .u64 (pl blank2 2), .int .u64 (pl blank2 3), .int .u64 (pl blank2 4), .int .u64 (pl blank2 5), .int .u64 (pl blank2 6), .int .u64 (pl blank2 7)]), Is (.bool false), Is (.bool false), Is undef, Is undef, Is undef, Is undef, Is undef, Is undef, Is undef, Is undef, Is undef, Is undef, Is undef, Is (.bool false), Is (.pointer (some ⟨bp, 0, none⟩)), Is (.pointer (some ⟨bq, 0, none⟩)), Is (.bool false), Is (.int .i64 0)] (by kernel_rfl) (by kernel_rfl) rfl Grows.refl (fun _ _ _ => Grows.trans) (stable_mem ⟨fun _ _ _ h _ => h, fun _ _ _ h _ => h, fun _ _ _ h _ => h, fun _ _ _ h _ => h, fun _ _ _ h _ => h, fun _ _ _ h _ => h, fun _ _ _ h _ => h, fun _ _ _ h _ => h, fun _ _ _ h _ => h, fun _ _ _ h _ => h, fun _ _ _ h _ => h, fun _ _ _ h _ => h, fun _ _ _ h _ => h, fun _ _ _ h _ => h, fun _ _ _ h _ => h, fun _ _ _ h _ => h, fun _ _ _ h _ => h, fun _ _ _ h _ => h, fun _ _ _ h _ => h, fun _ _ _ h _ => h, fun _ _ _ h _ => h, fun _ _ _ h _ => h, fun _ _ _ h _ => h, fun _ _ _ h _ => h, fun _ _ _ h _ => h, fun _ _ _ h _ => h, fun _ _ _ h _ => h, fun _ _ _ h _ => h, fun _ _ _ h _ => h, fun _ _ _ h _ => h, trivial⟩) _ (Below.drew (Below.refl _ _)) trivial ?_
 iterate 2 (refine inv_cons ?_ (fun _ => ?_); · intro L w1 hat hb hI hF; have hc := (Grows.cells hb).1; (try simp [factsI, Region.binds, Is] at hF); go_simp; (try first | exact Grows.refl _ | exact trivial | rfl))
 refine inv_cons ?_ (fun v2 => ?_)
 ·intro L w1 hat hb hI hF; have hc := (Grows.cells hb).1; try simp [factsI, Region.binds, Is] at hF
  go_simp
  try first | exact Grows.refl _ | exact trivial | rfl
 iterate 27 (refine inv_cons ?_ (fun _ => ?_); · intro L w1 hat hb hI hF; have hc := (Grows.cells hb).1; (try simp [factsI, Region.binds, Is] at hF); go_simp; (try first | exact Grows.refl _ | exact trivial | rfl))
 refine inv_nil ?_
 intro w1 hb hI hF
 simp [Is, Nat.forall_lt_succ_right] at hF
 simp only [Act.put, List.setIfInBounds_toArray, List.set_cons_succ, List.set_cons_zero, hF]
 clear hF
 go_wp2_with fail
 refine bodyPost_ret (by simp [results, Tryz.results107, go_sem]) rfl ⟨_, _, rfl, HP.out.1.grow hb, HP.out.2.grow hb, bel_trans hB2 hb⟩
end Go.Proofs.YtccnkebkgegohaaGreatDoor
end
