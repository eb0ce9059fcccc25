import Derived.Test.YtkfimbonmnoglaaGreatDoorG32
import Derived.Deep.Cut
/-
  Given contracts of functions of the program, and laws for them, one behind the other.
-/
set_option linter.unusedVariables false
set_option linter.unusedSimpArgs false
set_option linter.unusedSectionVars false
section
namespace Go.Proofs.YtkfimbonmnoglaaGreatDoor
open Go.RowKit Go.Rel Go.Draw Go.Solid
set_option maxRecDepth 100000
attribute [local go_sem] Oper.semAt_some
/-! SolidFilled -/
def fillP (s : Sol) (i : Nat) : Sol := ((cavsS s).take i).foldl (fun a b => a ||| b) s
theorem fillP_zero (s : Sol) : fillP s 0 = s := rfl
theorem fillP_end (s : Sol) : fillP s (cavsS s).length = fillS s := by unfold fillP fillS; rw [List.take_length]
theorem fillP_step {s K : Sol} {i : Nat} (h : (cavsS s)[i]? = some K) : fillP s i ||| K = fillP s (i + 1) ∧ fillP s i &&& K = 0 ∧ (K == 0#512) = false := by
 have hi : i < (cavsS s).length := (List.getElem?_eq_some_iff.1 h).1
 have hK : (cavsS s)[i] = K := (List.getElem?_eq_some_iff.1 h).2
 refine ⟨?_, ?_, ?_⟩
 ·unfold fillP
  rw [List.take_add_one, h, List.foldl_append]; rfl
 ·unfold fillP
  refine cav_meet (post := (cavsS s).drop (i + 1)) ?_
  rw [← hK, List.getElem_cons_drop, List.take_append_drop]
 ·have hm : K ∈ cavsS s := List.mem_of_getElem? h
  unfold cavsS at hm
  exact beq_eq_false_iff_ne.2 (classes_ne (steps_sym true) (List.mem_filter.1 hm).1)
/-- in how many of the first k there is a part -/
def inP (K : Sol) (L : List Sol) (k : Nat) : Nat := ((L.take k).filter fun x => subS K x).length
theorem inP_zero (K : Sol) (L : List Sol) : inP K L 0 = 0 := rfl
theorem inP_step {K x : Sol} {L : List Sol} {k : Nat} (h : L[k]? = some x) : inP K L (k + 1) = if (K &&& x == K) then inP K L k + 1 else inP K L k := by
 unfold inP
 rw [List.take_add_one, h, List.filter_append, List.length_append]
 have e : subS K x = (K &&& x == K) := rfl
 cases hs : (K &&& x == K)
 ·simp [e, hs]
 ·simp [e, hs]
theorem inP_le (K : Sol) (L : List Sol) (k : Nat) : inP K L k ≤ k := Nat.le_trans (List.length_filter_le _ _) (List.length_take_le _ _)
theorem inP_end {s K : Sol} {i : Nat} (h : (partsS s)[i]? = some K) : inP K (partsS (fillS s)) (partsS (fillS s)).length = 1 := by
 unfold inP
 rw [List.take_length]
 exact part_in (fill_sub s) (List.mem_of_getElem? h)
/-- a list of solids in memory, opened -/
def SlO (W : World) (a : Option Addr) (l : List Sol) : Prop := l = [] ∨ ∃ b off, a = some ⟨b, off, none⟩ ∧ Cells W b off 8 (l.map solL)
theorem SlO.mono {W W' : World} {a : Option Addr} {l : List Sol} (h : SlO W a l) (hb : Below W.heap.size W W') : SlO W' a l := by
 rcases h with h | ⟨b, off, h1, h2⟩
 ·exact .inl h
 ·exact .inr ⟨b, off, h1, h2.mono hb h2.1⟩
theorem SlO.at {W : World} {a : Option Addr} {l : List Sol} (h : SlO W a l) {k : Nat} {x : Sol} (hx : l[k]? = some x) : ∃ b off, a = some ⟨b, off, none⟩ ∧ Cells W b off 8 (l.map solL) := by
 rcases h with rfl | h
 ·cases hx
 ·exact h
theorem SlS.opened {W : World} {v : Value} {l : List Sol} (h : SlS W v l) : ∃ a c, v = .slice a l.length c ∧ SlO W a l := by
 obtain ⟨a, c, hv, _, _, hc⟩ := h
 refine ⟨a, c, by rw [hv, List.length_map], ?_⟩
 rcases hc with hc | hc
 ·exact .inl (List.map_eq_nil_iff.1 hc)
 ·exact .inr hc
theorem Cells.row {W : World} {b off k : Nat} {xs : List (List Value)} (h : Cells W b off k xs) {g : Nat} (hne : b ≠ g) (cs : Array Value) : Cells (W.setRow g cs) b off k xs :=
 ⟨by rw [setRow_size]; exact h.1, fun i j u hu => (cell_row_other _ _ _ _ _ hne).trans (h.2 i j u hu)⟩
theorem parts_open (s : Sol) (w : World) (hT : Tab w) : Calls Tryz.prog 37 #[solV s] w fun e w' => (∃ a c, e = .returned (.slice a (partsS s).length c) ∧ SlO w' a (partsS s)) ∧ Below w.heap.size w w' := (parts_spec s w hT).mono fun e w' he => by
 obtain ⟨⟨u, h1, h2⟩, h3⟩ := he
 obtain ⟨a, c, hv, ho⟩ := SlS.opened h2.sl
 exact ⟨⟨a, c, by rw [h1, hv], ho⟩, h3⟩
theorem cavs_open (s : Sol) (w : World) (hT : Tab w) : Calls Tryz.prog 39 #[solV s] w fun e w' => (∃ a c, e = .returned (.slice a (cavsS s).length c) ∧ SlO w' a (cavsS s)) ∧ Below w.heap.size w w' := (cavs_spec s w hT).mono fun e w' he => by
 obtain ⟨⟨u, h1, h2⟩, h3⟩ := he
 obtain ⟨a, c, hv, ho⟩ := SlS.opened h2.sl
 exact ⟨⟨a, c, by rw [h1, hv], ho⟩, h3⟩
set_option maxHeartbeats 16000000 in
theorem SolidFilled_walk (s : Sol) (w : World) (hT : Tab w) (hC : ∀ W, Below w.heap.size w W → Calls Tryz.prog 25 #[] W fun e w' => e = .returned (.bool true) ∧ Below W.heap.size W w') :
  Calls Tryz.prog 12 #[solV s] w fun e w' => e = .returned (.bool true) ∧ Below w.heap.size w w' := by
 have HT := Lib.hid (fun W (hb : Below w.heap.size w W) => hT.grow hb)
 have HC := Lib.hid hC
 clear hT hC
 have HV := Lib.hid fun W (hb : Below w.heap.size w W) => cavs_open s W (HT.out W hb)
 have HVf := Lib.hid fun W (hb : Below w.heap.size w W) => cavs_open (fillS s) W (HT.out W hb)
 have HP := Lib.hid fun W (hb : Below w.heap.size w W) => parts_open s W (HT.out W hb)
 have HPf := Lib.hid fun W (hb : Below w.heap.size w W) => parts_open (fillS s) W (HT.out W hb)
 have hcl := cavs_len s
 have hpl : (partsS s).length ≤ 512 := classes_len _ _
 have hwl : (partsS (fillS s)).length ≤ 512 := classes_len _ _
 have hfs : ∀ (i : Nat) (K : Sol), (cavsS s)[i]? = some K → fillP s i ||| K = fillP s (i + 1) ∧ fillP s i &&& K = 0 ∧ (K == 0#512) = false := fun i K h => fillP_step h
 have hf0 := fillP_zero s
 have hfe := fillP_end s
 have hnone : (cavsS (fillS s)).length = 0 := by rw [fill_none]; rfl
 rw [hnone] at HVf
 have hin : ∀ (i : Nat) (K : Sol), (partsS s)[i]? = some K → inP K (partsS (fillS s)) (partsS (fillS s)).length = 1 := fun i K h => inP_end h
 obtain ⟨F, hF⟩ : ∃ F, F = fillS s := ⟨_, rfl⟩
 rw [← hF] at HVf HPf hwl hfe hin
 obtain ⟨L, hL⟩ : ∃ L, L = cavsS s := ⟨_, rfl⟩
 rw [← hL] at HV hcl hfs hfe
 obtain ⟨M, hM⟩ : ∃ L, L = partsS s := ⟨_, rfl⟩
 rw [← hM] at HP hpl hin
 obtain ⟨N, hN⟩ : ∃ L, L = partsS F := ⟨_, rfl⟩
 rw [← hN] at HPf hwl hin
 obtain ⟨n, hn⟩ : ∃ n, n = L.length := ⟨_, rfl⟩
 rw [← hn] at HV hcl hfe
 obtain ⟨pn, hpn⟩ : ∃ n, n = M.length := ⟨_, rfl⟩
 rw [← hpn] at HP hpl
 obtain ⟨wn, hwn⟩ : ∃ n, n = N.length := ⟨_, rfl⟩
 rw [← hwn] at HPf hwl hin
 have HFS := Lib.hid hfs
 have HF0 := Lib.hid hf0
 have HFE := Lib.hid hfe
 have HIN := Lib.hid hin
 have HLn := Lib.hid hn
 have HMn := Lib.hid hpn
 have HNn := Lib.hid hwn
 clear hfs hf0 hfe hin hn hpn hwn hF hL hM hN hnone
 obtain ⟨fP, hfP⟩ : ∃ f, f = fillP s := ⟨_, rfl⟩
 rw [← hfP] at HFS HF0 HFE
 clear hfP
 go_enter Tryz.func12, Tryz.ntmps12
 go_wp2_with fail
 obtain ⟨wO, hw1⟩ : ∃ wO, wO = w.alloc (.cells #[.int .u64 (pl s 0), .int .u64 (pl s 1), .int .u64 (pl s 2), .int .u64 (pl s 3), .int .u64 (pl s 4), .int .u64 (pl s 5), .int .u64 (pl s 6), .int .u64 (pl s 7)] 26) := ⟨_, rfl⟩
 have bs : Blk wO w.heap.size #[.int .u64 (pl s 0), .int .u64 (pl s 1), .int .u64 (pl s 2), .int .u64 (pl s 3), .int .u64 (pl s 4), .int .u64 (pl s 5), .int .u64 (pl s 6), .int .u64 (pl s 7)] 26 ∧ Below w.heap.size w wO := by
  rw [hw1]
  exact ⟨Blk.new _ _ _, bel_alloc (bel_refl w) _⟩
 rw [← hw1]
 have HB := Lib.hid bs
 clear hw1 bs
 refine (HV.out _ HB.out.2).mono ?_
 rintro e1 w2 ⟨⟨a, c, rfl, hso⟩, hb⟩
 have HB2 := Lib.hid (And.intro (HB.out.1.grow hb) (And.intro (bel_trans HB.out.2 hb) hso))
 clear hb hso
 have cs := HB2.out.1.cell; have ls := HB2.out.1.lt
 go_wp2_with fail
 clear cs ls
 obtain ⟨wA, hwA⟩ : ∃ x, x = w2.alloc (.cells #[.int .u64 (pl s 0), .int .u64 (pl s 1), .int .u64 (pl s 2), .int .u64 (pl s 3), .int .u64 (pl s 4), .int .u64 (pl s 5), .int .u64 (pl s 6), .int .u64 (pl s 7)] 26) := ⟨_, rfl⟩
 have hA : Blk wA w2.heap.size #[.int .u64 (pl s 0), .int .u64 (pl s 1), .int .u64 (pl s 2), .int .u64 (pl s 3), .int .u64 (pl s 4), .int .u64 (pl s 5), .int .u64 (pl s 6), .int .u64 (pl s 7)] 26 ∧ Blk wA w.heap.size #[.int .u64 (pl s 0), .int .u64 (pl s 1), .int .u64 (pl s 2), .int .u64 (pl s 3), .int .u64 (pl s 4), .int .u64 (pl s 5), .int .u64 (pl s 6), .int .u64 (pl s 7)] 26 ∧ Below w.heap.size w wA ∧ SlO wA a L := by
  rw [hwA]
  exact ⟨Blk.new _ _ _, HB2.out.1.alloc _, bel_alloc HB2.out.2.1 _, HB2.out.2.2.mono (bel_alloc (bel_refl _) _)⟩
 have ho : w.heap.size < w2.heap.size := HB2.out.1.lt
 have hap : ∀ b off, a = some ⟨b, off, none⟩ → L ≠ [] → b < w2.heap.size := fun b off h hl => by
  rcases HB2.out.2.2 with h2 | ⟨b', off', h1, h2⟩
  ·exact absurd h2 hl
  ·rw [h1] at h; cases h; exact h2.1
 obtain ⟨g, hg⟩ : ∃ x, x = w2.heap.size := ⟨_, rfl⟩
 rw [← hwA, ← hg]
 rw [← hg] at hA ho hap
 clear hwA hg HB HB2
 have HA := Lib.hid hA
 have HO := Lib.hid (And.intro ho hap)
 clear hA ho hap
 go_loopw [5] (fun iv wx => ∃ i : Nat, i ≤ n ∧ iv = .int .i64 i ∧ Hid (Blk wx g #[.int .u64 (pl (fP i) 0), .int .u64 (pl (fP i) 1), .int .u64 (pl (fP i) 2), .int .u64 (pl (fP i) 3), .int .u64 (pl (fP i) 4), .int .u64 (pl (fP i) 5), .int .u64 (pl (fP i) 6), .int .u64 (pl (fP i) 7)] 26 ∧ Blk wx w.heap.size #[.int .u64 (pl s 0), .int .u64 (pl s 1), .int .u64 (pl s 2), .int .u64 (pl s 3), .int .u64 (pl s 4), .int .u64 (pl s 5), .int .u64 (pl s 6), .int .u64 (pl s 7)] 26 ∧ Below w.heap.size w wx ∧ SlO wx a L)) (fun iv _ => n - (intOf iv).toNat)
 case atStart => exact ⟨0, by omega, rfl, Lib.hid (by rw [HF0.out]; exact HA.out)⟩
 case round =>
  obtain ⟨i, hi, rfl, HM⟩ := hrel
  by_cases hin : i < n
  ·have hx : ∃ x, L[i]? = some x := ⟨L[i]'(by rw [← HLn.out]; exact hin), by simp [← HLn.out, hin]⟩
   obtain ⟨K, hK⟩ := hx
   obtain ⟨h1, h2, h3⟩ := HFS.out i K hK
   obtain ⟨P, hP⟩ : ∃ P, P = fP i := ⟨_, rfl⟩
   obtain ⟨Q, hQ⟩ : ∃ P, P = fP (i + 1) := ⟨_, rfl⟩
   rw [← hP] at HM h1 h2
   rw [← hQ] at h1
   have HMe := Lib.hid fun W (hb : Below w.heap.size w W) => meet_spec P K W
   have HJo := Lib.hid fun W (hb : Below w.heap.size w W) => join_spec P K W
   obtain ⟨Z, hZ⟩ : ∃ Z, Z = P &&& K := ⟨_, rfl⟩
   rw [← hZ] at HMe
   have hz0 : (Z == 0#512) = true := beq_iff_eq.2 (hZ.trans h2)
   clear hZ
   rw [h1] at HJo
   have HQ := Lib.hid hQ
   obtain ⟨b, off, rfl, hcs⟩ := HM.out.2.2.2.at hK
   have hbg := HO.out.2 b off rfl (by intro e; rw [e] at hK; cases hK)
   have HCs := Lib.hid hcs
   have hK2 := Lib.hid hK
   have HBG := Lib.hid hbg
   obtain ⟨wR, hwR⟩ : ∃ x, x = wr := ⟨_, rfl⟩
   clear h1 h2 hP hQ hcs hK hbg
   go_wp2_with fail
   rw [← hwR]
   rw [← hwR] at HM HCs
   refine wp_region_val Grows (fun _ _ _ => True) [Is (.slice (some ⟨b, off, none⟩) n c), Is (.int .i64 (i : Nat)), Is (.pointer (some ⟨b, off + i * 8, none⟩)), Is (solV K), Is zeroV, Is (.bool false), Is (.bool false), Is (solV P), Is (.slice (some ⟨b, off, none⟩) n c), Is (.int .i64 (i : Nat)), Is (.pointer (some ⟨b, off + i * 8, none⟩)), Is (solV K), Is (solV Z), Is zeroV, Is (.bool false), Is (.bool false)] (by kernel_rfl) (by kernel_rfl) rfl Grows.refl (fun _ _ _ => Grows.trans) (stable_mem ⟨fun _ _ _ h _ => h, fun _ _ _ h _ => h, fun _ _ _ h _ => h, fun _ _ _ h _ => h, fun _ _ _ h _ => h, fun _ _ _ h _ => h, fun _ _ _ h _ => h, fun _ _ _ h _ => h, fun _ _ _ h _ => h, fun _ _ _ h _ => h, fun _ _ _ h _ => h, fun _ _ _ h _ => h, fun _ _ _ h _ => h, fun _ _ _ h _ => h, fun _ _ _ h _ => h, fun _ _ _ h _ => h, trivial⟩) wR (Below.drew (Below.refl _ _)) trivial ?_
   refine val_cons ?_ (fun v0 => ?_)
   ·intro L vs w1 hvs hat hb hI hF; try simp [factsI, Region.binds, Is] at hF
    have hc := (Grows.cells hb).1
    clear hI
    go_simp
    try simp [upd]
    try first | exact Grows.refl _ | exact trivial | exact ⟨Grows.refl _, trivial⟩
   refine val_cons ?_ (fun v1 => ?_)
   ·intro L vs w1 hvs hat hb hI hF; try simp [factsI, Region.binds, Is] at hF
    have hc := (Grows.cells hb).1
    clear hI
    go_simp
    try simp [upd]
    try first | exact Grows.refl _ | exact trivial | exact ⟨Grows.refl _, trivial⟩
   refine val_cons ?_ (fun v2 => ?_)
   ·intro L vs w1 hvs hat hb hI hF; try simp [factsI, Region.binds, Is] at hF
    have hc := (Grows.cells hb).1
    clear hI
    go_simp
    try simp [upd]
    try first | exact Grows.refl _ | exact trivial | exact ⟨Grows.refl _, trivial⟩
   refine val_cons ?_ (fun v3 => ?_)
   ·intro L vs w1 hvs hat hb hI hF; try simp [factsI, Region.binds, Is] at hF
    have hCw := Cells.mono (HCs.out) (show Below _ _ _ from hb) (HCs.out).1
    have cz := sol_cells hCw hK2.out
    obtain ⟨z0, z1, z2, z3, z4, z5, z6, z7⟩ := cz
    have lz := hCw.1
    clear hCw
    go_simp
    first | exact Grows.refl _ | exact ⟨Grows.refl _, trivial⟩
   refine val_cons ?_ (fun v4 => ?_)
   ·intro L vs w1 hvs hat hb hI hF; try simp [factsI, Region.binds, Is] at hF
    have hc := (Grows.cells hb).1
    clear hI
    go_simp
    try simp [upd]
    try first | exact Grows.refl _ | exact trivial | exact ⟨Grows.refl _, trivial⟩
   refine val_cons ?_ (fun v5 => ?_)
   ·intro L vs w1 hvs hat hb hI hF; try simp [factsI, Region.binds, Is] at hF
    have hc := (Grows.cells hb).1
    clear hI
    go_simp
    try simp [upd]
    try first | exact Grows.refl _ | exact trivial | exact ⟨Grows.refl _, trivial⟩
   refine val_cons ?_ (fun v6 => ?_)
   ·intro L vs w1 hvs hat hb hI hF; try simp [factsI, Region.binds, Is] at hF
    have hc := (Grows.cells hb).1
    clear hI
    go_simp
    try simp [upd]
    try first | exact Grows.refl _ | exact trivial | exact ⟨Grows.refl _, trivial⟩
   refine val_cons ?_ (fun v7 => ?_)
   ·intro L vs w1 hvs hat hb hI hF; try simp [factsI, Region.binds, Is] at hF
    have D := (HM.out.1).grow (show Below _ _ _ from hb); have cD := D.cell; have lD := D.lt; clear D
    go_simp
    first | exact Grows.refl _ | exact ⟨Grows.refl _, trivial⟩
   refine val_cons ?_ (fun v8 => ?_)
   ·intro L vs w1 hvs hat hb hI hF; try simp [factsI, Region.binds, Is] at hF
    have hc := (Grows.cells hb).1
    clear hI
    go_simp
    try simp [upd]
    try first | exact Grows.refl _ | exact trivial | exact ⟨Grows.refl _, trivial⟩
   refine val_cons ?_ (fun v9 => ?_)
   ·intro L vs w1 hvs hat hb hI hF; try simp [factsI, Region.binds, Is] at hF
    have hc := (Grows.cells hb).1
    clear hI
    go_simp
    try simp [upd]
    try first | exact Grows.refl _ | exact trivial | exact ⟨Grows.refl _, trivial⟩
   refine val_cons ?_ (fun v10 => ?_)
   ·intro L vs w1 hvs hat hb hI hF; try simp [factsI, Region.binds, Is] at hF
    have hc := (Grows.cells hb).1
    clear hI
    go_simp
    try simp [upd]
    try first | exact Grows.refl _ | exact trivial | exact ⟨Grows.refl _, trivial⟩
   refine val_cons ?_ (fun v11 => ?_)
   ·intro L vs w1 hvs hat hb hI hF; try simp [factsI, Region.binds, Is] at hF
    have hCw := Cells.mono (HCs.out) (show Below _ _ _ from hb) (HCs.out).1
    have cz := sol_cells hCw hK2.out
    obtain ⟨z0, z1, z2, z3, z4, z5, z6, z7⟩ := cz
    have lz := hCw.1
    clear hCw
    go_simp
    first | exact Grows.refl _ | exact ⟨Grows.refl _, trivial⟩
   refine val_cons ?_ (fun v12 => ?_)
   ·intro L vs w1 hvs hat hb hI hF; try simp [factsI, Region.binds, Is] at hF
    have hb0 := hb
    go_simp
    refine (HMe.out _ (bel_trans HM.out.2.2.1 (show Below _ _ _ from hb0))).mono ?_
    rintro e w2 ⟨rfl, hb2⟩
    first | exact ⟨rfl, hb2⟩ | exact ⟨_, rfl, hb2, trivial, rfl⟩ | exact ⟨_, rfl, hb2, rfl⟩
   refine val_cons ?_ (fun v13 => ?_)
   ·intro L vs w1 hvs hat hb hI hF; try simp [factsI, Region.binds, Is] at hF
    have hc := (Grows.cells hb).1
    clear hI
    go_simp
    try simp [upd]
    try first | exact Grows.refl _ | exact trivial | exact ⟨Grows.refl _, trivial⟩
   refine val_cons ?_ (fun v14 => ?_)
   ·intro L vs w1 hvs hat hb hI hF; try simp [factsI, Region.binds, Is] at hF
    have hc := (Grows.cells hb).1
    clear hI
    go_simp
    try simp [upd]
    try first | exact Grows.refl _ | exact trivial | exact ⟨Grows.refl _, trivial⟩
   refine val_cons ?_ (fun v15 => ?_)
   ·intro L vs w1 hvs hat hb hI hF; try simp [factsI, Region.binds, Is] at hF
    have hc := (Grows.cells hb).1
    clear hI
    go_simp
    try simp [upd]
    try first | exact Grows.refl _ | exact trivial | exact ⟨Grows.refl _, trivial⟩
   refine val_nil ?_
   intro vs w1 hvs hb hI hF
   simp [Is, Nat.forall_lt_succ_right] at hF
   simp only [Act.put, List.setIfInBounds_toArray, List.set_cons_succ, List.set_cons_zero, hF]
   clear hF
   have hb9 : Below wR.heap.size wR w1 := hb
   have HB9 := Lib.hid hb9
   clear hb hI hvs
   obtain ⟨wS, hwS⟩ : ∃ x, x = w1 := ⟨_, rfl⟩
   rw [← hwS] at HB9 ⊢
   clear hb9 hwS
   go_wp2_with fail
   refine wp_region_grow 6 [Is (solV P), Is (.slice (some ⟨b, off, none⟩) n c), Is (.int .i64 (i : Nat)), Is (.pointer (some ⟨b, off + i * 8, none⟩)), Is (solV K), Is (solV Q)] (by kernel_rfl) (by kernel_rfl) rfl ⟨fun _ _ _ h _ => h, fun _ _ _ h _ => h, fun _ _ _ h _ => h, fun _ _ _ h _ => h, fun _ _ _ h _ => h, fun _ _ _ h _ => h, trivial⟩ ?_
   simp only [List.take_succ_cons, List.take_zero, List.drop_succ_cons, List.drop_zero]
   refine rel_cons ?_ (fun v0 => ?_)
   ·intro w1 hb hF; have hc := (Grows.cells hb).1; have hf := (Grows.cells hb).2; try simp [facts, Is] at hF
    have D := (HM.out.1.grow HB9.out).grow (show Below _ _ _ from hb); have cD := D.cell; have lD := D.lt; clear D
    go_simp
    first | exact Grows.refl _ | exact ⟨Grows.refl _, trivial⟩
   iterate 3 (refine rel_cons ?_ (fun _ => ?_); · intro w1 hb hF; have hc := (Grows.cells hb).1; have hf := (Grows.cells hb).2; (try simp [facts, Is] at hF); go_simp; exact Grows.refl _)
   refine rel_cons ?_ (fun v4 => ?_)
   ·intro w1 hb hF; have hc := (Grows.cells hb).1; have hf := (Grows.cells hb).2; try simp [facts, Is] at hF
    have hCw := Cells.mono HCs.out (HB9.out.trans ((show Below _ _ _ from hb).mono HB9.out.size)) HCs.out.1
    obtain ⟨z0, z1, z2, z3, z4, z5, z6, z7⟩ := sol_cells hCw hK2.out
    have lz := hCw.1
    clear hCw
    go_simp
    first | exact Grows.refl _ | exact ⟨Grows.refl _, trivial⟩
   refine rel_cons ?_ (fun v5 => ?_)
   ·intro w1 hb hF; have hc := (Grows.cells hb).1; have hf := (Grows.cells hb).2; try simp [facts, Is] at hF
    have hb0 := hb
    go_simp
    refine (HJo.out _ (bel_trans HM.out.2.2.1 (bel_trans HB9.out (show Below _ _ _ from hb0)))).mono ?_
    rintro e w2 ⟨rfl, hb2⟩
    first | exact ⟨rfl, hb2⟩ | exact ⟨_, rfl, hb2, trivial, rfl⟩
   refine rel_nil ?_
   intro w1 hb hF
   simp [Is, Nat.forall_lt_succ_right] at hF
   simp only [Act.put, List.setIfInBounds_toArray, List.set_cons_succ, List.set_cons_zero, hF]
   clear hF
   have hbw : Below wR.heap.size wR w1 := bel_trans HB9.out (show Below wS.heap.size wS w1 from hb)
   have hM1 := HM.out.1.grow hbw
   have hbg := HBG.out
   have hog := HO.out.1
   have HE : Hid (Blk (w1.setRow g #[.int .u64 (pl Q 0), .int .u64 (pl Q 1), .int .u64 (pl Q 2), .int .u64 (pl Q 3), .int .u64 (pl Q 4), .int .u64 (pl Q 5), .int .u64 (pl Q 6), .int .u64 (pl Q 7)]) g #[.int .u64 (pl Q 0), .int .u64 (pl Q 1), .int .u64 (pl Q 2), .int .u64 (pl Q 3), .int .u64 (pl Q 4), .int .u64 (pl Q 5), .int .u64 (pl Q 6), .int .u64 (pl Q 7)] 26 ∧ Blk (w1.setRow g #[.int .u64 (pl Q 0), .int .u64 (pl Q 1), .int .u64 (pl Q 2), .int .u64 (pl Q 3), .int .u64 (pl Q 4), .int .u64 (pl Q 5), .int .u64 (pl Q 6), .int .u64 (pl Q 7)]) w.heap.size #[.int .u64 (pl s 0), .int .u64 (pl s 1), .int .u64 (pl s 2), .int .u64 (pl s 3), .int .u64 (pl s 4), .int .u64 (pl s 5), .int .u64 (pl s 6), .int .u64 (pl s 7)] 26 ∧ Below w.heap.size w (w1.setRow g #[.int .u64 (pl Q 0), .int .u64 (pl Q 1), .int .u64 (pl Q 2), .int .u64 (pl Q 3), .int .u64 (pl Q 4), .int .u64 (pl Q 5), .int .u64 (pl Q 6), .int .u64 (pl Q 7)]) ∧ SlO (w1.setRow g #[.int .u64 (pl Q 0), .int .u64 (pl Q 1), .int .u64 (pl Q 2), .int .u64 (pl Q 3), .int .u64 (pl Q 4), .int .u64 (pl Q 5), .int .u64 (pl Q 6), .int .u64 (pl Q 7)]) (some ⟨b, off, none⟩) L) := Lib.hid ⟨hM1.rowS _, (HM.out.2.1.grow hbw).rowO _ (by omega), bel_row (bel_trans HM.out.2.2.1 hbw) (by omega) _, .inr ⟨b, off, rfl, (HCs.out.mono hbw HCs.out.1).row (by omega) _⟩⟩
   have rg := hM1.row; have lg2 := hM1.lt
   rw [← hM1.rw]
   clear hM1 hbw hb hbg hog
   go_wp2_with fail
   go_roundw
   case rel =>
    refine ⟨i + 1, by omega, by go_num, Lib.hid ?_⟩
    rw [← HQ.out]
    exact HE.out
   case measure => simp [intOf]; omega
  ·obtain rfl : i = n := by omega
   have hM := HM.out
   rw [HFE.out] at hM
   have cg := hM.1.cell; have lg := hM.1.lt
   have HM1 := Lib.hid hM
   clear hM HM
   go_wp2_with fail
   clear cg lg
   refine (HVf.out _ HM1.out.2.2.1).mono ?_
   rintro e1 w3 ⟨⟨a9, c9, rfl, _⟩, hb⟩
   have HM2 := Lib.hid (And.intro (HM1.out.1.grow hb) (And.intro (HM1.out.2.1.grow hb) (bel_trans HM1.out.2.2.1 hb)))
   clear hb HM1
   have cs := HM2.out.2.1.cell; have ls := HM2.out.2.1.lt
   go_wp2_with fail
   clear cs ls
   refine (HP.out _ HM2.out.2.2).mono ?_
   rintro e1 w4 ⟨⟨a2, c2, rfl, hso2⟩, hb⟩
   have HM3 := Lib.hid (And.intro (HM2.out.1.grow hb) (And.intro hso2 (bel_trans HM2.out.2.2 hb)))
   clear hb HM2 hso2
   have cg := HM3.out.1.cell; have lg := HM3.out.1.lt
   go_wp2_with fail
   clear cg lg
   refine (HPf.out _ HM3.out.2.2).mono ?_
   rintro e1 w5 ⟨⟨a3, c3, rfl, hso3⟩, hb⟩
   have HM4 := Lib.hid (And.intro (HM3.out.2.1.mono hb) (And.intro hso3 (bel_trans HM3.out.2.2 hb)))
   clear hb HM3 hso3
   go_wp2_with fail
   go_loopw [8] (fun iv wx => ∃ i : Nat, i ≤ pn ∧ iv = .int .i64 i ∧ Hid (SlO wx a2 M ∧ SlO wx a3 N ∧ Below w.heap.size w wx)) (fun iv _ => pn - (intOf iv).toNat)
   case atStart => exact ⟨0, by omega, rfl, HM4⟩
   case round =>
    clear HM4
    obtain ⟨i, hi, rfl, HM⟩ := hrel
    by_cases hin : i < pn
    ·have hx : ∃ x, M[i]? = some x := ⟨M[i]'(by rw [← HMn.out]; exact hin), by simp [← HMn.out, hin]⟩
     obtain ⟨K, hK⟩ := hx
     have HEnd := Lib.hid (HIN.out i K hK)
     have hK2 := Lib.hid hK
     obtain ⟨b, off, rfl, _⟩ := HM.out.1.at hK
     clear hK
     go_wp2_with fail
     go_loopw [9, 10] (fun cv kv wx => ∃ k : Nat, k ≤ wn ∧ kv = .int .i64 k ∧ cv = .int .i64 (inP K N k : Nat) ∧ Hid (SlO wx (some ⟨b, off, none⟩) M ∧ SlO wx a3 N ∧ Below w.heap.size w wx)) (fun _ kv _ => wn - (intOf kv).toNat)
     case atStart => exact ⟨0, by omega, rfl, rfl, HM⟩
     case round =>
      clear HM
      obtain ⟨k, hk, rfl, rfl, HM⟩ := hrel
      by_cases hkn : k < wn
      ·have hx : ∃ x, N[k]? = some x := ⟨N[k]'(by rw [← HNn.out]; exact hkn), by simp [← HNn.out, hkn]⟩
       obtain ⟨x, hx⟩ := hx
       have hst := inP_step (K := K) hx
       have hle := inP_le K N k
       obtain ⟨cn, hcn⟩ : ∃ c, c = inP K N k := ⟨_, rfl⟩
       obtain ⟨cm, hcm⟩ : ∃ c, c = inP K N (k + 1) := ⟨_, rfl⟩
       rw [← hcn] at hst hle
       rw [← hcm] at hst
       obtain ⟨q, hq⟩ : ∃ q, q = (K &&& x == K) := ⟨_, rfl⟩
       have HQ := Lib.hid fun W => sin_spec K x W
       rw [← hq] at HQ hst
       obtain ⟨b3, off3, rfl, _⟩ := HM.out.2.1.at hx
       have hcs1 : Cells wr b off 8 (M.map solL) := by
        obtain ⟨_, _, h1, h2⟩ := HM.out.1.at hK2.out
        cases h1; exact h2
       have hcs2 : Cells wr b3 off3 8 (N.map solL) := by
        obtain ⟨_, _, h1, h2⟩ := HM.out.2.1.at hx
        cases h1; exact h2
       have HC1 := Lib.hid hcs1
       have HC2 := Lib.hid hcs2
       have hx2 := Lib.hid hx
       have HCM := Lib.hid hcm
       rw [← hcn]
       have HST := Lib.hid hst
       obtain ⟨wR, hwR⟩ : ∃ x, x = wr := ⟨_, rfl⟩
       clear hcn hcm hq hcs1 hcs2 hx hst
       go_wp2_with fail
       rw [← hwR]
       rw [← hwR] at HM HC1 HC2
       refine wp_region_val Grows (fun _ _ _ => True) [Is (.slice (some ⟨b, off, none⟩) pn c2), Is (.int .i64 (i : Nat)), Is (.pointer (some ⟨b, off + i * 8, none⟩)), Is (solV K), Is (.slice (some ⟨b3, off3, none⟩) wn c3), Is (.int .i64 (k : Nat)), Is (.pointer (some ⟨b3, off3 + k * 8, none⟩)), Is (solV x), Is (.bool q)] (by kernel_rfl) (by kernel_rfl) rfl Grows.refl (fun _ _ _ => Grows.trans) (stable_mem ⟨fun _ _ _ h _ => h, fun _ _ _ h _ => h, fun _ _ _ h _ => h, fun _ _ _ h _ => h, fun _ _ _ h _ => h, fun _ _ _ h _ => h, fun _ _ _ h _ => h, fun _ _ _ h _ => h, fun _ _ _ h _ => h, trivial⟩) wR (Below.drew (Below.refl _ _)) trivial ?_
       refine val_cons ?_ (fun v0 => ?_)
       ·intro L vs w1 hvs hat hb hI hF; try simp [factsI, Region.binds, Is] at hF
        have hc := (Grows.cells hb).1
        clear hI
        go_simp
        try simp [upd]
        try first | exact Grows.refl _ | exact trivial | exact ⟨Grows.refl _, trivial⟩
       refine val_cons ?_ (fun v1 => ?_)
       ·intro L vs w1 hvs hat hb hI hF; try simp [factsI, Region.binds, Is] at hF
        have hc := (Grows.cells hb).1
        clear hI
        go_simp
        try simp [upd]
        try first | exact Grows.refl _ | exact trivial | exact ⟨Grows.refl _, trivial⟩
       refine val_cons ?_ (fun v2 => ?_)
       ·intro L vs w1 hvs hat hb hI hF; try simp [factsI, Region.binds, Is] at hF
        have hc := (Grows.cells hb).1
        clear hI
        go_simp
        try simp [upd]
        try first | exact Grows.refl _ | exact trivial | exact ⟨Grows.refl _, trivial⟩
       refine val_cons ?_ (fun v3 => ?_)
       ·intro L vs w1 hvs hat hb hI hF; try simp [factsI, Region.binds, Is] at hF
        have hCw := Cells.mono (HC1.out) (show Below _ _ _ from hb) (HC1.out).1
        have cz := sol_cells hCw hK2.out
        obtain ⟨z0, z1, z2, z3, z4, z5, z6, z7⟩ := cz
        have lz := hCw.1
        clear hCw
        go_simp
        first | exact Grows.refl _ | exact ⟨Grows.refl _, trivial⟩
       refine val_cons ?_ (fun v4 => ?_)
       ·intro L vs w1 hvs hat hb hI hF; try simp [factsI, Region.binds, Is] at hF
        have hc := (Grows.cells hb).1
        clear hI
        go_simp
        try simp [upd]
        try first | exact Grows.refl _ | exact trivial | exact ⟨Grows.refl _, trivial⟩
       refine val_cons ?_ (fun v5 => ?_)
       ·intro L vs w1 hvs hat hb hI hF; try simp [factsI, Region.binds, Is] at hF
        have hc := (Grows.cells hb).1
        clear hI
        go_simp
        try simp [upd]
        try first | exact Grows.refl _ | exact trivial | exact ⟨Grows.refl _, trivial⟩
       refine val_cons ?_ (fun v6 => ?_)
       ·intro L vs w1 hvs hat hb hI hF; try simp [factsI, Region.binds, Is] at hF
        have hc := (Grows.cells hb).1
        clear hI
        go_simp
        try simp [upd]
        try first | exact Grows.refl _ | exact trivial | exact ⟨Grows.refl _, trivial⟩
       refine val_cons ?_ (fun v7 => ?_)
       ·intro L vs w1 hvs hat hb hI hF; try simp [factsI, Region.binds, Is] at hF
        have hCw := Cells.mono (HC2.out) (show Below _ _ _ from hb) (HC2.out).1
        have cz := sol_cells hCw hx2.out
        obtain ⟨z0, z1, z2, z3, z4, z5, z6, z7⟩ := cz
        have lz := hCw.1
        clear hCw
        go_simp
        first | exact Grows.refl _ | exact ⟨Grows.refl _, trivial⟩
       refine val_cons ?_ (fun v8 => ?_)
       ·intro L vs w1 hvs hat hb hI hF; try simp [factsI, Region.binds, Is] at hF
        have hb0 := hb
        go_simp
        refine (HQ.out _).mono ?_
        rintro e w2 ⟨rfl, hb2⟩
        first | exact ⟨rfl, hb2⟩ | exact ⟨_, rfl, hb2, trivial, rfl⟩ | exact ⟨_, rfl, hb2, rfl⟩
       refine val_nil ?_
       intro vs w1 hvs hb hI hF
       simp [Is, Nat.forall_lt_succ_right] at hF
       simp only [Act.put, List.setIfInBounds_toArray, List.set_cons_succ, List.set_cons_zero, hF]
       clear hF
       have HM9 := Lib.hid (And.intro (HM.out.1.mono (show Below wR.heap.size wR w1 from hb)) (And.intro (HM.out.2.1.mono (show Below wR.heap.size wR w1 from hb)) (bel_trans HM.out.2.2 (show Below wR.heap.size wR w1 from hb))))
       clear hb hI hvs
       cases q
       ·have hst : cm = cn := HST.out
        go_wp2_with fail
        go_roundw
        case rel => exact ⟨k + 1, by omega, by go_num, by rw [← HCM.out, hst], HM9⟩
        case measure => simp [intOf]; omega
       ·have hst : cm = cn + 1 := HST.out
        go_wp2_with fail
        go_roundw
        case rel => exact ⟨k + 1, by omega, by go_num, by rw [← HCM.out, hst]; first | rfl | go_num, HM9⟩
        case measure => simp [intOf]; omega
      ·obtain rfl : k = wn := by omega
       rw [HEnd.out]
       go_wp2_with fail
       go_roundw
       case rel => exact ⟨i + 1, by omega, by go_num, HM⟩
       case measure => simp [intOf]; omega
    ·obtain rfl : i = pn := by omega
     go_wp2_with fail
     refine (HC.out _ HM.out.2.2).mono ?_
     rintro e1 w8 ⟨rfl, hb⟩
     have H9 := Lib.hid (bel_trans HM.out.2.2 hb)
     clear hb
     go_wp2_with fail
     go_ret
     exact ⟨rfl, H9.out⟩
end Go.Proofs.YtkfimbonmnoglaaGreatDoor
end
