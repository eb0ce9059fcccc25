import Derived.Test.YtccnkebkgegohaaGreatDoorHE5
/-
  Given contracts of functions of the program, and laws for them, one behind the other.
-/
set_option linter.unusedVariables false
set_option linter.unusedSimpArgs false
set_option linter.unusedSectionVars false
section
namespace Go.Proofs.YtccnkebkgegohaaGreatDoor
open Go.RowKit Go.Rel
set_option maxRecDepth 100000
/-! the law of exchanges -/
theorem Indep_fine {b : Sol} {l : List Sol} {m : List Ac} (hp : chkPat b l = 0) (F : Fine l m) {x y : Ac} (hx : x ∈ m) (hy : y ∈ m) {v : Value} (w : World) (Hv : SlS w v l) :
    Calls Tryz.prog 32 #[.agg #[.int .u64 (pl b 0), .int .u64 (pl b 1), .int .u64 (pl b 2), .int .u64 (pl b 3), .int .u64 (pl b 4), .int .u64 (pl b 5), .int .u64 (pl b 6), .int .u64 (pl b 7), v], .agg #[.int .u8 x.1, .int .i64 x.2.1, .int .u64 (pl x.2.2 0), .int .u64 (pl x.2.2 1), .int .u64 (pl x.2.2 2), .int .u64 (pl x.2.2 3), .int .u64 (pl x.2.2 4), .int .u64 (pl x.2.2 5), .int .u64 (pl x.2.2 6), .int .u64 (pl x.2.2 7)], .agg #[.int .u8 y.1, .int .i64 y.2.1, .int .u64 (pl y.2.2 0), .int .u64 (pl y.2.2 1), .int .u64 (pl y.2.2 2), .int .u64 (pl y.2.2 3), .int .u64 (pl y.2.2 4), .int .u64 (pl y.2.2 5), .int .u64 (pl y.2.2 6), .int .u64 (pl y.2.2 7)]] w fun e w' => e = .returned (.tuple #[.bool (!depA l x y), .int .i64 0]) ∧ Below w.heap.size w w' := by
  have hs := Independent_spec b v l x y w Hv
  have hx0 : chkAc b l x = 0 := by unfold chkAc; rw [if_pos hp, if_pos (F.fit x hx)]
  have hy0 : chkAc b l y = 0 := by unfold chkAc; rw [if_pos hp, if_pos (F.fit y hy)]
  have hi : indErr b l x y = 0 := by unfold indErr; rw [if_pos hx0, hy0]
  have ha : apartB l x y = !depA l x y := by unfold apartB; exact apart_dep F hx
  rw [hi, ha] at hs
  exact hs
theorem exch_spec {b : Sol} {p q uq : Option Addr} {n c k d un ud : Nat} {l : List Sol} {m : List Ac} {t : StB} (R : Runs b l m t) (bs : List (Fin 256)) (w : World) (Hv : SlS w (.slice p n c) l) (Hav : SlA w (.slice q k d) m) (HU : Sl w 1 (.slice uq un ud) (bs.map u8L)) (h40 : un ≤ 40) :
    Calls Tryz.prog 54 #[.agg #[.int .u64 (pl b 0), .int .u64 (pl b 1), .int .u64 (pl b 2), .int .u64 (pl b 3), .int .u64 (pl b 4), .int .u64 (pl b 5), .int .u64 (pl b 6), .int .u64 (pl b 7), .slice p n c, .slice q k d], .slice uq un ud] w fun e w' => ∃ q' k' d' m', e = .returned (.agg #[.int .u64 (pl b 0), .int .u64 (pl b 1), .int .u64 (pl b 2), .int .u64 (pl b 3), .int .u64 (pl b 4), .int .u64 (pl b 5), .int .u64 (pl b 6), .int .u64 (pl b 7), .slice p n c, .slice q' k' d']) ∧ SlA w' (.slice q' k' d') m' ∧ Tra.Eqv (depA l) m m' ∧ Below w.heap.size w w' := by
  have hk : m.length = k := by obtain ⟨_, _, h, _⟩ := Hav; injection h with _ h _; rw [h, List.length_map]
  have hun : bs.length = un := by obtain ⟨_, _, h, _⟩ := HU; injection h with _ h _; rw [h, List.length_map]
  refine exch_main b p q n c k d l m uq un ud bs w hk (Lib.hid fun w' hb => CloneAc_spec _ m w' (Hav.mono hb) (by have := R.len; omega)) (Lib.hid fun m' e i j x y hx hy w' hb => ?_) (Lib.hid fun j z hz => ?_) hun h40
  · exact Indep_fine R.pat (R.fine.eqv e) (List.mem_of_getElem? hx) (List.mem_of_getElem? hy) w' (Hv.mono hb)
  · rcases HU.cases with ⟨hl, _⟩ | ⟨ub, uo, uc, he, _, _, _, hcs⟩
    · have : bs = [] := by simpa using hl
      subst this; cases hz
    · injection he with h1 _ _
      exact ⟨ub, uo, h1, by have := hcs.2 j 0 (.int .u8 (z.1 : Int)) (by simp [hz]); simpa using this⟩
theorem Equal_t {b : Sol} {l : List Sol} {g h : List Ac} {t u : StB} (R : Runs b l g t) (R2 : Runs b l h u) (e : nrm l g = nrm l h) {v av v2 av2 : Value} (w : World) (Hv : SlS w v l) (Hav : SlA w av g) (Hv2 : SlS w v2 l) (Hav2 : SlA w av2 h) :
    Calls Tryz.prog 42 #[.agg #[.int .u64 (pl b 0), .int .u64 (pl b 1), .int .u64 (pl b 2), .int .u64 (pl b 3), .int .u64 (pl b 4), .int .u64 (pl b 5), .int .u64 (pl b 6), .int .u64 (pl b 7), v, av], .agg #[.int .u64 (pl b 0), .int .u64 (pl b 1), .int .u64 (pl b 2), .int .u64 (pl b 3), .int .u64 (pl b 4), .int .u64 (pl b 5), .int .u64 (pl b 6), .int .u64 (pl b 7), v2, av2]] w fun e w' => e = .returned (.tuple #[.bool true, .int .i64 0]) ∧ Below w.heap.size w w' := by
  have := Equal_r R R2 w Hv Hav Hv2 Hav2
  rw [e] at this
  simpa using this
theorem Normal_rE {b : Sol} {l : List Sol} {m N : List Ac} {t : StB} (R : Runs b l m t) (e : nrm l m = N) {v av : Value} (w : World) (Hv : SlS w v l) (Hav : SlA w av m) : Calls Tryz.prog 55 #[.agg #[.int .u64 (pl b 0), .int .u64 (pl b 1), .int .u64 (pl b 2), .int .u64 (pl b 3), .int .u64 (pl b 4), .int .u64 (pl b 5), .int .u64 (pl b 6), .int .u64 (pl b 7), v, av]] w (HRes b l N 0 w) := by
  subst e; exact Normal_r R w Hv Hav
set_option maxHeartbeats 8000000 in
theorem TraceExchanged_many (b : Sol) (p0 q0 : Option Addr) (n0 c0 k0 d0 : Nat) (uq : Option Addr) (un ud : Nat) (w : World) (hm : many k0 n0 = true) (HAL : AliveH w) :
    Calls Tryz.prog 9 #[.agg #[.int .u64 (pl b 0), .int .u64 (pl b 1), .int .u64 (pl b 2), .int .u64 (pl b 3), .int .u64 (pl b 4), .int .u64 (pl b 5), .int .u64 (pl b 6), .int .u64 (pl b 7), .slice p0 n0 c0, .slice q0 k0 d0], .slice uq un ud] w fun e w' => e = .returned (.bool true) ∧ Below w.heap.size w w' := by
  go_enter Tryz.func9, Tryz.ntmps9
  go_wp2_with fail
  refine (few1 (b := b) (p := p0) (q := q0) (n := n0) (c := c0) (k := k0) (d := d0) (t := 30) _ bks_by).mono ?_
  rw [hm]
  rintro e w1 ⟨rfl, hb⟩
  have g0 : Blk w1 (w.heap.size) #[.int .u64 (pl b 0), .int .u64 (pl b 1), .int .u64 (pl b 2), .int .u64 (pl b 3), .int .u64 (pl b 4), .int .u64 (pl b 5), .int .u64 (pl b 6), .int .u64 (pl b 7), .slice p0 n0 c0, .slice q0 k0 d0] 30 := Blk.grow bks_by hb
  have hB : Below w.heap.size w w1 := bel_trans bni hb
  clear hb
  have c_g0 := g0.cell
  have l_g0 := g0.lt
  go_wp2_with fail
  clear c_g0 l_g0
  refine (HAL.out _ (bel_trans hB bni)).mono ?_
  rintro e w2 ⟨rfl, hb⟩
  have hbb : Below w1.heap.size w1 w2 := bel_trans bni hb
  replace hB := bel_trans hB hbb
  replace g0 := g0.grow hbb
  clear hb hbb
  have c_g0 := g0.cell
  have l_g0 := g0.lt
  go_wp2_with fail
  clear c_g0 l_g0
  refine bodyPost_ret (v := .bool true) (by simp [results, Tryz.results9, go_sem]) rfl ⟨rfl, hB⟩
set_option maxHeartbeats 8000000 in
theorem TraceExchanged_long (b : Sol) (p0 q0 : Option Addr) (n0 c0 k0 d0 : Nat) (uq : Option Addr) (un ud : Nat) (w : World) (hm : many k0 n0 = false) (hl : 40 < un) (HAL : AliveH w) :
    Calls Tryz.prog 9 #[.agg #[.int .u64 (pl b 0), .int .u64 (pl b 1), .int .u64 (pl b 2), .int .u64 (pl b 3), .int .u64 (pl b 4), .int .u64 (pl b 5), .int .u64 (pl b 6), .int .u64 (pl b 7), .slice p0 n0 c0, .slice q0 k0 d0], .slice uq un ud] w fun e w' => e = .returned (.bool true) ∧ Below w.heap.size w w' := by
  go_enter Tryz.func9, Tryz.ntmps9
  go_wp2_with fail
  refine (few1 (b := b) (p := p0) (q := q0) (n := n0) (c := c0) (k := k0) (d := d0) (t := 30) _ bks_by).mono ?_
  rw [hm]
  rintro e w1 ⟨rfl, hb⟩
  have g0 : Blk w1 (w.heap.size) #[.int .u64 (pl b 0), .int .u64 (pl b 1), .int .u64 (pl b 2), .int .u64 (pl b 3), .int .u64 (pl b 4), .int .u64 (pl b 5), .int .u64 (pl b 6), .int .u64 (pl b 7), .slice p0 n0 c0, .slice q0 k0 d0] 30 := Blk.grow bks_by hb
  have hB : Below w.heap.size w w1 := bel_trans bni hb
  clear hb
  have c_g0 := g0.cell
  have l_g0 := g0.lt
  go_wp2_with fail
  clear c_g0 l_g0
  refine (HAL.out _ (bel_trans hB bni)).mono ?_
  rintro e w2 ⟨rfl, hb⟩
  have hbb : Below w1.heap.size w1 w2 := bel_trans bni hb
  replace hB := bel_trans hB hbb
  replace g0 := g0.grow hbb
  clear hb hbb
  have c_g0 := g0.cell
  have l_g0 := g0.lt
  go_wp2_with fail
  clear c_g0 l_g0
  refine bodyPost_ret (v := .bool true) (by simp [results, Tryz.results9, go_sem]) rfl ⟨rfl, hB⟩
set_option maxHeartbeats 8000000 in
theorem TraceExchanged_bad (b : Sol) (p0 q0 : Option Addr) (n0 c0 k0 d0 : Nat) (uq : Option Addr) (un ud : Nat) (w : World) (hm : many k0 n0 = false) (hl : un ≤ 40) (x y : Int) (hy : (y != 0) = true) (H27 : Hid (∀ w', Below w.heap.size w w' → Calls Tryz.prog 27 #[.agg #[.int .u64 (pl b 0), .int .u64 (pl b 1), .int .u64 (pl b 2), .int .u64 (pl b 3), .int .u64 (pl b 4), .int .u64 (pl b 5), .int .u64 (pl b 6), .int .u64 (pl b 7), .slice p0 n0 c0, .slice q0 k0 d0]] w' fun e w'' => e = .returned (.tuple #[.int .i64 x, .int .i64 y]) ∧ Below w'.heap.size w' w'')) (HAL : AliveH w) :
    Calls Tryz.prog 9 #[.agg #[.int .u64 (pl b 0), .int .u64 (pl b 1), .int .u64 (pl b 2), .int .u64 (pl b 3), .int .u64 (pl b 4), .int .u64 (pl b 5), .int .u64 (pl b 6), .int .u64 (pl b 7), .slice p0 n0 c0, .slice q0 k0 d0], .slice uq un ud] w fun e w' => e = .returned (.bool true) ∧ Below w.heap.size w w' := by
  go_enter Tryz.func9, Tryz.ntmps9
  go_wp2_with fail
  refine (few1 (b := b) (p := p0) (q := q0) (n := n0) (c := c0) (k := k0) (d := d0) (t := 30) _ bks_by).mono ?_
  rw [hm]
  rintro e w1 ⟨rfl, hb⟩
  have g0 : Blk w1 (w.heap.size) #[.int .u64 (pl b 0), .int .u64 (pl b 1), .int .u64 (pl b 2), .int .u64 (pl b 3), .int .u64 (pl b 4), .int .u64 (pl b 5), .int .u64 (pl b 6), .int .u64 (pl b 7), .slice p0 n0 c0, .slice q0 k0 d0] 30 := Blk.grow bks_by hb
  have hB : Below w.heap.size w w1 := bel_trans bni hb
  clear hb
  have c_g0 := g0.cell
  have l_g0 := g0.lt
  go_wp2_with fail
  clear c_g0 l_g0
  refine (H27.out _ (bel_trans hB bni)).mono ?_
  rintro e w2 ⟨rfl, hb⟩
  have hbb : Below w1.heap.size w1 w2 := bel_trans bni hb
  replace hB := bel_trans hB hbb
  replace g0 := g0.grow hbb
  clear hb hbb
  have c_g0 := g0.cell
  have l_g0 := g0.lt
  go_wp2_with fail
  clear c_g0 l_g0
  refine (HAL.out _ (bel_trans hB bni)).mono ?_
  rintro e w3 ⟨rfl, hb⟩
  have hbb : Below w2.heap.size w2 w3 := bel_trans bni hb
  replace hB := bel_trans hB hbb
  replace g0 := g0.grow hbb
  clear hb hbb
  have c_g0 := g0.cell
  have l_g0 := g0.lt
  go_wp2_with fail
  clear c_g0 l_g0
  refine bodyPost_ret (v := .bool true) (by simp [results, Tryz.results9, go_sem]) rfl ⟨rfl, hB⟩
set_option maxHeartbeats 8000000 in
theorem TraceExchanged_main (b : Sol) (p0 q0 : Option Addr) (n0 c0 k0 d0 : Nat) (uq : Option Addr) (un ud : Nat) (w : World) (hm : many k0 n0 = false) (hl : un ≤ 40) {l : List Sol} {m : List Ac} {t : StB} (HR : Hid (Runs b l m t)) (HS0 : Hid (SlS w (.slice p0 n0 c0) l ∧ SlA w (.slice q0 k0 d0) m)) (H27 : Hid (∀ w', Below w.heap.size w w' → Calls Tryz.prog 27 #[.agg #[.int .u64 (pl b 0), .int .u64 (pl b 1), .int .u64 (pl b 2), .int .u64 (pl b 3), .int .u64 (pl b 4), .int .u64 (pl b 5), .int .u64 (pl b 6), .int .u64 (pl b 7), .slice p0 n0 c0, .slice q0 k0 d0]] w' fun e w'' => e = .returned (.tuple #[.int .i64 0, .int .i64 0]) ∧ Below w'.heap.size w' w'')) (H54 : Hid (∀ w', Below w.heap.size w w' → Calls Tryz.prog 54 #[.agg #[.int .u64 (pl b 0), .int .u64 (pl b 1), .int .u64 (pl b 2), .int .u64 (pl b 3), .int .u64 (pl b 4), .int .u64 (pl b 5), .int .u64 (pl b 6), .int .u64 (pl b 7), .slice p0 n0 c0, .slice q0 k0 d0], .slice uq un ud] w' fun e w'' => ∃ q' k' d' m', e = .returned (.agg #[.int .u64 (pl b 0), .int .u64 (pl b 1), .int .u64 (pl b 2), .int .u64 (pl b 3), .int .u64 (pl b 4), .int .u64 (pl b 5), .int .u64 (pl b 6), .int .u64 (pl b 7), .slice p0 n0 c0, .slice q' k' d']) ∧ SlA w'' (.slice q' k' d') m' ∧ Tra.Eqv (depA l) m m' ∧ Below w'.heap.size w' w'')) (HAL : AliveH w) :
    Calls Tryz.prog 9 #[.agg #[.int .u64 (pl b 0), .int .u64 (pl b 1), .int .u64 (pl b 2), .int .u64 (pl b 3), .int .u64 (pl b 4), .int .u64 (pl b 5), .int .u64 (pl b 6), .int .u64 (pl b 7), .slice p0 n0 c0, .slice q0 k0 d0], .slice uq un ud] w fun e w' => e = .returned (.bool true) ∧ Below w.heap.size w w' := by
  go_enter Tryz.func9, Tryz.ntmps9
  go_wp2_with fail
  refine (few1 (b := b) (p := p0) (q := q0) (n := n0) (c := c0) (k := k0) (d := d0) (t := 30) _ bks_by).mono ?_
  rw [hm]
  rintro e w1 ⟨rfl, hb⟩
  have g0 : Blk w1 (w.heap.size) #[.int .u64 (pl b 0), .int .u64 (pl b 1), .int .u64 (pl b 2), .int .u64 (pl b 3), .int .u64 (pl b 4), .int .u64 (pl b 5), .int .u64 (pl b 6), .int .u64 (pl b 7), .slice p0 n0 c0, .slice q0 k0 d0] 30 := Blk.grow bks_by hb
  have hB : Below w.heap.size w w1 := bel_trans bni hb
  replace HS0 := Lib.hid (And.intro (HS0.out.1.mono hB) (HS0.out.2.mono hB))
  clear hb
  have c_g0 := g0.cell
  have l_g0 := g0.lt
  go_wp2_with fail
  clear c_g0 l_g0
  refine (H27.out _ (bel_trans hB bni)).mono ?_
  rintro e w2 ⟨rfl, hb⟩
  have hbb : Below w1.heap.size w1 w2 := bel_trans bni hb
  replace hB := bel_trans hB hbb
  replace g0 := g0.grow hbb
  replace HS0 := Lib.hid (And.intro (HS0.out.1.mono hbb) (HS0.out.2.mono hbb))
  clear hb hbb
  have c_g0 := g0.cell
  have l_g0 := g0.lt
  go_wp2_with fail
  clear c_g0 l_g0
  refine (H54.out _ (bel_trans hB bni)).mono ?_
  rintro e w3 ⟨q7, k7, d7, m7, rfl, A7, HE7, hb⟩
  have hbb : Below w2.heap.size w2 w3 := bel_trans bni hb
  replace hB := bel_trans hB hbb
  replace g0 := g0.grow hbb
  replace HS0 := Lib.hid (And.intro (HS0.out.1.mono hbb) (HS0.out.2.mono hbb))
  clear hb hbb
  have c_g0 := g0.cell
  have l_g0 := g0.lt
  have HS7 := Lib.hid (And.intro HS0.out.1 A7)
  have HE := Lib.hid HE7
  clear A7 HE7
  go_wp2_with fail
  clear c_g0 l_g0
  refine (Stand_r HR.out _ (HS0.out.1.mono bni) (HS0.out.2.mono bni)).mono ?_
  rintro e w4 ⟨rfl, hb⟩
  have g7 : Blk w4 (w3.heap.size) #[.int .u64 (pl b 0), .int .u64 (pl b 1), .int .u64 (pl b 2), .int .u64 (pl b 3), .int .u64 (pl b 4), .int .u64 (pl b 5), .int .u64 (pl b 6), .int .u64 (pl b 7), .slice p0 n0 c0, .slice q7 k7 d7] 30 := Blk.grow bks_by hb
  have hbb : Below w3.heap.size w3 w4 := bel_trans bni hb
  replace hB := bel_trans hB hbb
  replace g0 := g0.grow hbb
  replace HS0 := Lib.hid (And.intro (HS0.out.1.mono hbb) (HS0.out.2.mono hbb))
  replace HS7 := Lib.hid (And.intro (HS7.out.1.mono hbb) (HS7.out.2.mono hbb))
  clear hb hbb
  generalize w3.heap.size = B4 at *
  have c_g0 := g0.cell
  have l_g0 := g0.lt
  have c_g7 := g7.cell
  have l_g7 := g7.lt
  go_wp2_with fail
  clear c_g0 l_g0
  clear c_g7 l_g7
  refine (Stand_r (HR.out.eqv HE.out) _ (HS7.out.1.mono bni) (HS7.out.2.mono bni)).mono ?_
  rintro e w5 ⟨rfl, hb⟩
  have g8 : Blk w5 (w4.heap.size) #[.int .u64 (pl t.1 0), .int .u64 (pl t.1 1), .int .u64 (pl t.1 2), .int .u64 (pl t.1 3), .int .u64 (pl t.1 4), .int .u64 (pl t.1 5), .int .u64 (pl t.1 6), .int .u64 (pl t.1 7), .int .u8 (t.2.toNat : Int)] 37 := Blk.grow bks_by hb
  have hbb : Below w4.heap.size w4 w5 := bel_trans bni hb
  replace hB := bel_trans hB hbb
  replace g0 := g0.grow hbb
  replace g7 := g7.grow hbb
  replace HS0 := Lib.hid (And.intro (HS0.out.1.mono hbb) (HS0.out.2.mono hbb))
  replace HS7 := Lib.hid (And.intro (HS7.out.1.mono hbb) (HS7.out.2.mono hbb))
  clear hb hbb
  generalize w4.heap.size = B5 at *
  have c_g0 := g0.cell
  have l_g0 := g0.lt
  have c_g7 := g7.cell
  have l_g7 := g7.lt
  have c_g8 := g8.cell
  have l_g8 := g8.lt
  go_wp2_with fail
  clear c_g0 l_g0
  clear c_g7 l_g7
  clear c_g8 l_g8
  refine (Equal_t (HR.out.eqv HE.out) HR.out ((nrm_iff l).2 HE.out.symm) _ (HS7.out.1.mono bni) (HS7.out.2.mono bni) (HS0.out.1.mono bni) (HS0.out.2.mono bni)).mono ?_
  rintro e w6 ⟨rfl, hb⟩
  have g10 : Blk w6 (w5.heap.size) #[.int .u64 (pl t.1 0), .int .u64 (pl t.1 1), .int .u64 (pl t.1 2), .int .u64 (pl t.1 3), .int .u64 (pl t.1 4), .int .u64 (pl t.1 5), .int .u64 (pl t.1 6), .int .u64 (pl t.1 7), .int .u8 (t.2.toNat : Int)] 37 := Blk.grow bks_by hb
  have hbb : Below w5.heap.size w5 w6 := bel_trans bni hb
  replace hB := bel_trans hB hbb
  replace g0 := g0.grow hbb
  replace g7 := g7.grow hbb
  replace g8 := g8.grow hbb
  replace HS0 := Lib.hid (And.intro (HS0.out.1.mono hbb) (HS0.out.2.mono hbb))
  replace HS7 := Lib.hid (And.intro (HS7.out.1.mono hbb) (HS7.out.2.mono hbb))
  clear hb hbb
  generalize w5.heap.size = B6 at *
  have c_g0 := g0.cell
  have l_g0 := g0.lt
  have c_g7 := g7.cell
  have l_g7 := g7.lt
  have c_g8 := g8.cell
  have l_g8 := g8.lt
  have c_g10 := g10.cell
  have l_g10 := g10.lt
  go_wp2_with fail
  clear c_g0 l_g0
  clear c_g7 l_g7
  clear c_g8 l_g8
  clear c_g10 l_g10
  refine (Normal_r HR.out _ (HS0.out.1.mono bni) (HS0.out.2.mono bni)).mono ?_
  rintro e w7 ⟨p8, n8, c8, q8, k8, d8, rfl, S8, A8, hb⟩
  have hbb : Below w6.heap.size w6 w7 := bel_trans bni hb
  replace hB := bel_trans hB hbb
  replace g0 := g0.grow hbb
  replace g7 := g7.grow hbb
  replace g8 := g8.grow hbb
  replace g10 := g10.grow hbb
  replace HS0 := Lib.hid (And.intro (HS0.out.1.mono hbb) (HS0.out.2.mono hbb))
  replace HS7 := Lib.hid (And.intro (HS7.out.1.mono hbb) (HS7.out.2.mono hbb))
  clear hb hbb
  have HS8 := Lib.hid (And.intro S8 A8)
  clear S8 A8
  have c_g0 := g0.cell
  have l_g0 := g0.lt
  have c_g7 := g7.cell
  have l_g7 := g7.lt
  have c_g8 := g8.cell
  have l_g8 := g8.lt
  have c_g10 := g10.cell
  have l_g10 := g10.lt
  go_wp2_with fail
  clear c_g0 l_g0
  clear c_g7 l_g7
  clear c_g8 l_g8
  clear c_g10 l_g10
  refine (Normal_rE (HR.out.eqv HE.out) ((nrm_iff l).2 HE.out.symm) _ (HS7.out.1.mono bni) (HS7.out.2.mono bni)).mono ?_
  rintro e w8 ⟨p9, n9, c9, q9, k9, d9, rfl, S9, A9, hb⟩
  have g14 : Blk w8 (w7.heap.size) #[.int .u64 (pl b 0), .int .u64 (pl b 1), .int .u64 (pl b 2), .int .u64 (pl b 3), .int .u64 (pl b 4), .int .u64 (pl b 5), .int .u64 (pl b 6), .int .u64 (pl b 7), .slice p8 n8 c8, .slice q8 k8 d8] 30 := Blk.grow bks_by hb
  have hbb : Below w7.heap.size w7 w8 := bel_trans bni hb
  replace hB := bel_trans hB hbb
  replace g0 := g0.grow hbb
  replace g7 := g7.grow hbb
  replace g8 := g8.grow hbb
  replace g10 := g10.grow hbb
  replace HS0 := Lib.hid (And.intro (HS0.out.1.mono hbb) (HS0.out.2.mono hbb))
  replace HS7 := Lib.hid (And.intro (HS7.out.1.mono hbb) (HS7.out.2.mono hbb))
  replace HS8 := Lib.hid (And.intro (HS8.out.1.mono hbb) (HS8.out.2.mono hbb))
  clear hb hbb
  generalize w7.heap.size = B8 at *
  have HS9 := Lib.hid (And.intro S9 A9)
  clear S9 A9
  have c_g0 := g0.cell
  have l_g0 := g0.lt
  have c_g7 := g7.cell
  have l_g7 := g7.lt
  have c_g8 := g8.cell
  have l_g8 := g8.lt
  have c_g10 := g10.cell
  have l_g10 := g10.lt
  have c_g14 := g14.cell
  have l_g14 := g14.lt
  go_wp2_with fail
  clear c_g0 l_g0
  clear c_g7 l_g7
  clear c_g8 l_g8
  clear c_g10 l_g10
  clear c_g14 l_g14
  refine (HAL.out _ (bel_trans hB bni)).mono ?_
  rintro e w9 ⟨rfl, hb⟩
  have g16 : Blk w9 (w8.heap.size) #[.int .u64 (pl b 0), .int .u64 (pl b 1), .int .u64 (pl b 2), .int .u64 (pl b 3), .int .u64 (pl b 4), .int .u64 (pl b 5), .int .u64 (pl b 6), .int .u64 (pl b 7), .slice p9 n9 c9, .slice q9 k9 d9] 30 := Blk.grow bks_by hb
  have hbb : Below w8.heap.size w8 w9 := bel_trans bni hb
  replace hB := bel_trans hB hbb
  replace g0 := g0.grow hbb
  replace g7 := g7.grow hbb
  replace g8 := g8.grow hbb
  replace g10 := g10.grow hbb
  replace g14 := g14.grow hbb
  replace HS0 := Lib.hid (And.intro (HS0.out.1.mono hbb) (HS0.out.2.mono hbb))
  replace HS7 := Lib.hid (And.intro (HS7.out.1.mono hbb) (HS7.out.2.mono hbb))
  replace HS8 := Lib.hid (And.intro (HS8.out.1.mono hbb) (HS8.out.2.mono hbb))
  replace HS9 := Lib.hid (And.intro (HS9.out.1.mono hbb) (HS9.out.2.mono hbb))
  clear hb hbb
  generalize w8.heap.size = B9 at *
  have c_g0 := g0.cell
  have l_g0 := g0.lt
  have c_g7 := g7.cell
  have l_g7 := g7.lt
  have c_g8 := g8.cell
  have l_g8 := g8.lt
  have c_g10 := g10.cell
  have l_g10 := g10.lt
  have c_g14 := g14.cell
  have l_g14 := g14.lt
  have c_g16 := g16.cell
  have l_g16 := g16.lt
  go_wp2_with fail
  clear c_g0 l_g0
  clear c_g7 l_g7
  clear c_g8 l_g8
  clear c_g10 l_g10
  clear c_g14 l_g14
  clear c_g16 l_g16
  refine (Same_eq _ (HS8.out.1.mono bni) (HS8.out.2.mono bni) (HS9.out.1.mono bni) (HS9.out.2.mono bni)).mono ?_
  rintro e w10 ⟨rfl, hb⟩
  have hbb : Below w9.heap.size w9 w10 := bel_trans bni hb
  replace hB := bel_trans hB hbb
  replace g0 := g0.grow hbb
  replace g7 := g7.grow hbb
  replace g8 := g8.grow hbb
  replace g10 := g10.grow hbb
  replace g14 := g14.grow hbb
  replace g16 := g16.grow hbb
  replace HS0 := Lib.hid (And.intro (HS0.out.1.mono hbb) (HS0.out.2.mono hbb))
  replace HS7 := Lib.hid (And.intro (HS7.out.1.mono hbb) (HS7.out.2.mono hbb))
  replace HS8 := Lib.hid (And.intro (HS8.out.1.mono hbb) (HS8.out.2.mono hbb))
  replace HS9 := Lib.hid (And.intro (HS9.out.1.mono hbb) (HS9.out.2.mono hbb))
  clear hb hbb
  have c_g0 := g0.cell
  have l_g0 := g0.lt
  have c_g7 := g7.cell
  have l_g7 := g7.lt
  have c_g8 := g8.cell
  have l_g8 := g8.lt
  have c_g10 := g10.cell
  have l_g10 := g10.lt
  have c_g14 := g14.cell
  have l_g14 := g14.lt
  have c_g16 := g16.cell
  have l_g16 := g16.lt
  go_wp2_with fail
  clear c_g0 l_g0
  clear c_g7 l_g7
  clear c_g8 l_g8
  clear c_g10 l_g10
  clear c_g14 l_g14
  clear c_g16 l_g16
  refine bodyPost_ret (v := .bool true) (by simp [results, Tryz.results9, go_sem]) rfl ⟨rfl, hB⟩
theorem TraceExchanged_walk (b0 : Sol) (u0 : Value) (l0 : List Sol) (av0 : Value) (g : List Ac) (u : Value) (bs : List (Fin 256)) (w : World)
    (S0 : SlS w u0 l0) (A0 : SlA w av0 g) (_ : ∀ n c, av0 = .slice none n c → c = 0) (HU : Sl w 1 u (bs.map u8L)) (hT : w.cell? ⟨5, 15, none⟩ = some (.int .u8 4)) :
    Calls Tryz.prog 9 #[.agg #[.int .u64 (pl b0 0), .int .u64 (pl b0 1), .int .u64 (pl b0 2), .int .u64 (pl b0 3), .int .u64 (pl b0 4), .int .u64 (pl b0 5), .int .u64 (pl b0 6), .int .u64 (pl b0 7), u0, av0], u] w fun e w' => e = .returned (.bool true) ∧ Below w.heap.size w w' := by
  have HAL := alive_h w hT
  have T0 := S0
  have X0 := A0
  have U0 := HU
  obtain ⟨p0, c0, rfl, _, _⟩ := T0
  obtain ⟨q0, d0, rfl, _, _⟩ := X0
  obtain ⟨uq, ud, rfl, _, _⟩ := U0
  generalize (g.map acL).length = k0 at *
  generalize (l0.map solL).length = n0 at *
  generalize (bs.map u8L).length = un at *
  cases hm : many k0 n0 with
  | true => exact TraceExchanged_many b0 p0 q0 n0 c0 k0 d0 uq un ud w hm HAL
  | false =>
    by_cases hl : 40 < un
    · exact TraceExchanged_long b0 p0 q0 n0 c0 k0 d0 uq un ud w hm hl HAL
    · have hl' : un ≤ 40 := by omega
      rcases bad_or (b := b0) (l := l0) (m := g) with hb | ⟨t, R⟩
      · obtain ⟨x, y, hy, HC⟩ := Check_any b0 l0 g
        exact TraceExchanged_bad b0 p0 q0 n0 c0 k0 d0 uq un ud w hm hl' x y (hy hb) (Lib.hid fun w' hb => HC w' (S0.mono hb) (A0.mono hb)) HAL
      · exact TraceExchanged_main b0 p0 q0 n0 c0 k0 d0 uq un ud w hm hl' (Lib.hid R) (Lib.hid ⟨S0, A0⟩) (Lib.hid fun w' hb => Check_ok R w' (S0.mono hb) (A0.mono hb)) (Lib.hid fun w' hb => exch_spec R bs w' (S0.mono hb) (A0.mono hb) (HU.mono hb) hl') HAL
end Go.Proofs.YtccnkebkgegohaaGreatDoor
end
