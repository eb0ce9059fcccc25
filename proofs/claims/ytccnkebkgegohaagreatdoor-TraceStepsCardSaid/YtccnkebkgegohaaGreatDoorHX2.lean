import Derived.Test.YtccnkebkgegohaaGreatDoorHZ2
import Derived.Test.YtccnkebkgegohaaGreatDoorHZ7
/-
  Given contracts of functions of the program, and laws for them, one behind the other.
-/
set_option linter.unusedVariables false
set_option linter.unusedSimpArgs false
set_option linter.unusedSectionVars false
section
namespace Go.Proofs.YtccnkebkgegohaaGreatDoor
open Go.RowKit Go.Rel
set_option maxRecDepth 100000
set_option maxHeartbeats 8000000 in
theorem TraceSteps_many (b : Sol) (p0 q0 : Option Addr) (n0 c0 k0 d0 : Nat) (w : World) (hm : many k0 n0 = true) (HAL : AliveH w) :
  Calls Tryz.prog 15 #[.agg #[.int .u64 (pl b 0), .int .u64 (pl b 1), .int .u64 (pl b 2), .int .u64 (pl b 3), .int .u64 (pl b 4), .int .u64 (pl b 5), .int .u64 (pl b 6), .int .u64 (pl b 7), .slice p0 n0 c0, .slice q0 k0 d0]] w fun e w' => e = .returned (.bool true) ∧ Below w.heap.size w w' := by
 go_enter Tryz.func15, Tryz.ntmps15
 go_wp2_with fail
 refine (few1 (b := b) (p := p0) (q := q0) (n := n0) (c := c0) (k := k0) (d := d0) (t := 30) _ bks_by).mono ?_
 rw [hm]
 rintro e w1 ⟨rfl, hb⟩
 have g0 : Blk w1 (w.heap.size) #[.int .u64 (pl b 0), .int .u64 (pl b 1), .int .u64 (pl b 2), .int .u64 (pl b 3), .int .u64 (pl b 4), .int .u64 (pl b 5), .int .u64 (pl b 6), .int .u64 (pl b 7), .slice p0 n0 c0, .slice q0 k0 d0] 30 := Blk.grow bks_by hb
 have hB : Below w.heap.size w w1 := bel_trans bni hb
 clear hb
 have c_g0 := g0.cell
 have l_g0 := g0.lt
 go_wp2_with fail
 clear c_g0 l_g0
 refine (HAL.out _ (bel_trans hB bni)).mono ?_
 rintro e w2 ⟨rfl, hb⟩
 have hbb : Below w1.heap.size w1 w2 := bel_trans bni hb
 replace hB := bel_trans hB hbb
 replace g0 := g0.grow hbb
 clear hb hbb
 have c_g0 := g0.cell
 have l_g0 := g0.lt
 go_wp2_with fail
 clear c_g0 l_g0
 refine bodyPost_ret (v := .bool true) (by simp [results, Tryz.results15, go_sem]) rfl ⟨rfl, hB⟩
set_option maxHeartbeats 8000000 in
theorem TraceSteps_bad (b : Sol) (p0 q0 : Option Addr) (n0 c0 k0 d0 : Nat) (w : World) (hm : many k0 n0 = false) (y : Int) (hne : (y != 0) = true) (H69 : Hid (∀ w', Below w.heap.size w w' → Calls Tryz.prog 69 #[.agg #[.int .u64 (pl b 0), .int .u64 (pl b 1), .int .u64 (pl b 2), .int .u64 (pl b 3), .int .u64 (pl b 4), .int .u64 (pl b 5), .int .u64 (pl b 6), .int .u64 (pl b 7), .slice p0 n0 c0, .slice q0 k0 d0]] w' fun e w'' => e = .returned (.tuple #[.slice none 0 0, .int .i64 y]) ∧ Below w'.heap.size w' w'')) (HAL : AliveH w) :
  Calls Tryz.prog 15 #[.agg #[.int .u64 (pl b 0), .int .u64 (pl b 1), .int .u64 (pl b 2), .int .u64 (pl b 3), .int .u64 (pl b 4), .int .u64 (pl b 5), .int .u64 (pl b 6), .int .u64 (pl b 7), .slice p0 n0 c0, .slice q0 k0 d0]] w fun e w' => e = .returned (.bool true) ∧ Below w.heap.size w w' := by
 go_enter Tryz.func15, Tryz.ntmps15
 go_wp2_with fail
 refine (few1 (b := b) (p := p0) (q := q0) (n := n0) (c := c0) (k := k0) (d := d0) (t := 30) _ bks_by).mono ?_
 rw [hm]
 rintro e w1 ⟨rfl, hb⟩
 have g0 : Blk w1 (w.heap.size) #[.int .u64 (pl b 0), .int .u64 (pl b 1), .int .u64 (pl b 2), .int .u64 (pl b 3), .int .u64 (pl b 4), .int .u64 (pl b 5), .int .u64 (pl b 6), .int .u64 (pl b 7), .slice p0 n0 c0, .slice q0 k0 d0] 30 := Blk.grow bks_by hb
 have hB : Below w.heap.size w w1 := bel_trans bni hb
 clear hb
 have c_g0 := g0.cell
 have l_g0 := g0.lt
 go_wp2_with fail
 clear c_g0 l_g0
 refine (H69.out _ (bel_trans hB bni)).mono ?_
 rintro e w2 ⟨rfl, hb⟩
 have hbb : Below w1.heap.size w1 w2 := bel_trans bni hb
 replace hB := bel_trans hB hbb
 replace g0 := g0.grow hbb
 clear hb hbb
 have c_g0 := g0.cell
 have l_g0 := g0.lt
 go_wp2_with fail
 clear c_g0 l_g0
 refine (HAL.out _ (bel_trans hB bni)).mono ?_
 rintro e w3 ⟨rfl, hb⟩
 have hbb : Below w2.heap.size w2 w3 := bel_trans bni hb
 replace hB := bel_trans hB hbb
 replace g0 := g0.grow hbb
 clear hb hbb
 have c_g0 := g0.cell
 have l_g0 := g0.lt
 go_wp2_with fail
 clear c_g0 l_g0
 refine bodyPost_ret (v := .bool true) (by simp [results, Tryz.results15, go_sem]) rfl ⟨rfl, hB⟩
theorem stepsOk_pair {α : Type} {D : α → α → Bool} : ∀ {ss : List (List α)} {k : Nat} {s : List α}, Tra.StepsOk D ss → ss[k]? = some s → s.Pairwise fun x y => D x y = false
 | [s], 0, _, h, e => by cases e; exact h
 | s :: t :: r, 0, _, h, e => by cases e; exact h.1
 | [s], k + 1, _, h, e => by simp at e
 | s :: t :: r, k + 1, s', h, e => stepsOk_pair (ss := t :: r) (k := k) h.2.2 (by simpa using e)
theorem stepsOk_next {α : Type} {D : α → α → Bool} : ∀ {ss : List (List α)} {k : Nat} {s t : List α}, Tra.StepsOk D ss → ss[k]? = some s → ss[k + 1]? = some t → ∀ x ∈ t, ∃ y ∈ s, D y x = true
 | [s], k, _, _, h, _, e => by simp at e
 | s :: t :: r, 0, s', t', h, e1, e2 => by
  have h1 : s = s' := by simpa using e1
  have h2 : t = t' := by simpa using e2
  subst h1
  subst h2
  exact h.2.1
 | s :: t :: r, k + 1, s', t', h, e1, e2 => stepsOk_next (ss := t :: r) (k := k) h.2.2 (by simpa using e1) (by simpa using e2)
theorem any_apart {l : List Sol} {g s : List Ac} {x : Ac} (F : Fine l g) (hx : x ∈ g) (hd : ∀ z ∈ s, depA l z x = false) : (s.any fun z => !apartB l x z) = false := by
 rw [List.any_eq_false]
 intro z hz
 have h1 := hd z hz
 rw [depA_symm l, depA_meets (F.ne x hx)] at h1
 unfold apartB
 simp [h1]
theorem any_hang {l : List Sol} {g s : List Ac} {x : Ac} (F : Fine l g) (hx : x ∈ g) (hd : ∃ z ∈ s, depA l z x = true) : (s.any fun z => !apartB l x z) = true := by
 obtain ⟨z, hz, h1⟩ := hd
 rw [List.any_eq_true]
 refine ⟨z, hz, ?_⟩
 rw [depA_symm l, depA_meets (F.ne x hx)] at h1
 unfold apartB
 simp [h1]
set_option maxHeartbeats 16000000 in
theorem TraceSteps_good (b : Sol) (p0 q0 : Option Addr) (n0 c0 k0 d0 : Nat) (w : World) (hm : many k0 n0 = false) {l : List Sol} {g : List Ac} {t : StB} (HR : Hid (Runs b l g t)) (HV : Hid (SlS w (.slice p0 n0 c0) l ∧ SlA w (.slice q0 k0 d0) g))
  (H69 : Hid (∀ w', Below w.heap.size w w' → Calls Tryz.prog 69 #[.agg #[.int .u64 (pl b 0), .int .u64 (pl b 1), .int .u64 (pl b 2), .int .u64 (pl b 3), .int .u64 (pl b 4), .int .u64 (pl b 5), .int .u64 (pl b 6), .int .u64 (pl b 7), .slice p0 n0 c0, .slice q0 k0 d0]] w' fun e w'' => ∃ u ps, e = .returned (.tuple #[u, .int .i64 0]) ∧ (List.map (fun p : Value × List Ac => p.2) ps = stpL l g ∧ Sl w'' 1 u (ps.map fun p => [p.1]) ∧ ∀ p ∈ ps, SlN w'' p.1 p.2) ∧ Below w'.heap.size w' w'')) (HAL : AliveH w) :
  Calls Tryz.prog 15 #[.agg #[.int .u64 (pl b 0), .int .u64 (pl b 1), .int .u64 (pl b 2), .int .u64 (pl b 3), .int .u64 (pl b 4), .int .u64 (pl b 5), .int .u64 (pl b 6), .int .u64 (pl b 7), .slice p0 n0 c0, .slice q0 k0 d0]] w fun e w' => e = .returned (.bool true) ∧ Below w.heap.size w w' := by
 go_enter Tryz.func15, Tryz.ntmps15
 go_wp2_with fail
 refine (few1 (b := b) (p := p0) (q := q0) (n := n0) (c := c0) (k := k0) (d := d0) (t := 30) _ bks_by).mono ?_
 rw [hm]
 rintro e w1 ⟨rfl, hb⟩
 have g0 : Blk w1 (w.heap.size) #[.int .u64 (pl b 0), .int .u64 (pl b 1), .int .u64 (pl b 2), .int .u64 (pl b 3), .int .u64 (pl b 4), .int .u64 (pl b 5), .int .u64 (pl b 6), .int .u64 (pl b 7), .slice p0 n0 c0, .slice q0 k0 d0] 30 := Blk.grow bks_by hb
 have hB : Below w.heap.size w w1 := bel_trans bni hb
 clear hb
 have c_g0 := g0.cell
 have l_g0 := g0.lt
 go_wp2_with fail
 refine (H69.out _ (bel_trans hB bni)).mono ?_
 rintro e w2 ⟨u, ps, rfl, ⟨hps, hSl, hPS⟩, hb⟩
 have hB2 : Below w.heap.size w w2 := bel_trans hB (bel_trans bni hb)
 have G0 : Blk w2 w.heap.size #[.int .u64 (pl b 0), .int .u64 (pl b 1), .int .u64 (pl b 2), .int .u64 (pl b 3), .int .u64 (pl b 4), .int .u64 (pl b 5), .int .u64 (pl b 6), .int .u64 (pl b 7), .slice p0 n0 c0, .slice q0 k0 d0] 30 := g0.grow (bel_trans bni hb)
 have HPS := Lib.hid (And.intro hps (And.intro hSl hPS))
 have hs : ∃ q c, u = .slice q ps.length c := by obtain ⟨a, c, h, _⟩ := hSl; exact ⟨a, c, by rw [h]; simp⟩
 refine Veil.out ?_
 obtain ⟨qs, cs, rfl⟩ := hs
 refine Veil.on ?_
 have hpl : ps.length ≤ 60 := by
  have h1 := congrArg List.length hps
  have h2 := stpL_len (l := l) _ (Nat.le_refl g.length)
  have h3 := HR.out.len
  rw [List.length_map] at h1; omega
 clear hb hps hSl hPS g0 hB H69 c_g0 l_g0
 have hmf' := hmf
 go_wp2_with fail
 have gF : Blk (w2.alloc (.cells (#[.func (.func 70) #[] #[.pointer (some ⟨w.heap.size, 0, none⟩)]] : Array Value) 86)) w2.heap.size #[.func (.func 70) #[] #[.pointer (some ⟨w.heap.size, 0, none⟩)]] 86 := Blk.new _ _ _
 have hbe : Below w2.heap.size w2 (w2.alloc (.cells (#[.func (.func 70) #[] #[.pointer (some ⟨w.heap.size, 0, none⟩)]] : Array Value) 86)) := bel_alloc (bel_refl _) _
 have hB3 := bel_trans hB2 hbe
 have HP3 := Lib.hid (And.intro HPS.out.1 (LLst.mono (show LLst w2 _ ps from ⟨HPS.out.2.1, HPS.out.2.2⟩) hbe))
 have HG3 := Lib.hid (And.intro (G0.grow hbe) gF)
 clear G0 gF hbe HPS hB2
 generalize (w2.alloc (.cells (#[.func (.func 70) #[] #[.pointer (some ⟨w.heap.size, 0, none⟩)]] : Array Value) 86)) = w3 at *
 generalize w2.heap.size = bf at *
 have HFR : Hid (∀ x ∈ g, ∀ y ∈ g, ∀ w', Below w3.heap.size w3 w' → Calls Tryz.prog 70 #[.agg #[.int .u8 x.1, .int .i64 x.2.1, .int .u64 (pl x.2.2 0), .int .u64 (pl x.2.2 1), .int .u64 (pl x.2.2 2), .int .u64 (pl x.2.2 3), .int .u64 (pl x.2.2 4), .int .u64 (pl x.2.2 5), .int .u64 (pl x.2.2 6), .int .u64 (pl x.2.2 7)], .agg #[.int .u8 y.1, .int .i64 y.2.1, .int .u64 (pl y.2.2 0), .int .u64 (pl y.2.2 1), .int .u64 (pl y.2.2 2), .int .u64 (pl y.2.2 3), .int .u64 (pl y.2.2 4), .int .u64 (pl y.2.2 5), .int .u64 (pl y.2.2 6), .int .u64 (pl y.2.2 7)], .pointer (some ⟨w.heap.size, 0, none⟩)] w' fun e w'' => e = .returned (.bool (apartB l x y)) ∧ Below w'.heap.size w' w'') := Lib.hid fun x hx y hy w' hb => free70 HR.out.pat HR.out.fine hx hy w.heap.size w' (HV.out.1.mono (bel_trans hB3 hb)) (HG3.out.1.grow hb)
 have HMEM : Hid (∀ s ∈ ps.map (·.2), ∀ x ∈ s, x ∈ g) := Lib.hid (by
  intro s hs x hx
  rw [HP3.out.1] at hs
  exact ((stpL_eqv (l := l) (m := g)).mem (depA_refl l)).1 (List.mem_flatten.2 ⟨s, hs, hx⟩))
 have HOK := Lib.hid (stpL_ok (l := l) (m := g))
 rw [← HP3.out.1] at HOK
 have hrefl : Below w3.heap.size w3 w3 := Below.refl _ _
 go_loopw [6, 7, 8, 9, 33] (fun _ _ _ _ iv wr => ∃ n : Nat, n ≤ ps.length ∧ iv = .int .i64 n ∧ Below w3.heap.size w3 wr) (fun _ _ _ _ iv _ => ps.length - (intOf iv).toNat)
 case atStart => exact ⟨0, Nat.zero_le _, rfl, hrefl⟩
 case round =>
  clear hrefl
  obtain ⟨n, hn, rfl, hb3⟩ := hrel
  obtain ⟨W1, hW⟩ : ∃ W1, W1 = wr := ⟨_, rfl⟩
  subst hW
  by_cases hlt : n < ps.length
  ·have e1 : (ps.map fun p => [p.1]) = (ps.map (·.1)).map fun x => [x] := by rw [List.map_map]; rfl
   have hsl := HP3.out.2.1
   rw [e1] at hsl
   have hP : ps[n]? = some (ps[n]'hlt) := by simp
   have hPm : (ps[n]'hlt) ∈ ps := List.getElem_mem _
   generalize ps[n]'hlt = P at hP hPm
   have hx1 : (ps.map (·.1))[n]? = some P.1 := by simp [hP]
   have hs1 : (ps.map (·.2))[n]? = some P.2 := by simp [hP]
   have hA := HP3.out.2.2 P hPm
   have hMm := HMEM.out P.2 (List.mem_of_getElem? hs1)
   obtain ⟨sb, so, rfl, lsb, hsc⟩ := sl1_at hsl hx1
   have hc1 := hsc W1 hb3 n _ hx1
   have HSC := Lib.hid (And.intro hsc hsl)
   have lsb1 : sb < W1.heap.size := Nat.lt_of_lt_of_le lsb hb3.size
   obtain ⟨pv, s⟩ := P
   simp only at hx1 hs1 hA hMm hc1
   have hPa : ∃ qa ca, pv = .slice qa s.length ca ∧ s.length ≤ ca ∧ ca ≤ 9223372036854775807 := by obtain ⟨⟨a, c, h, h2, h3, _⟩, _⟩ := hA; rw [List.length_map] at h h2; exact ⟨a, c, h, h2, h3⟩
   refine Veil.out ?_
   obtain ⟨qa, ca, rfl, hsca, hcam⟩ := hPa
   refine Veil.on ?_
   have HA := Lib.hid (And.intro hA (And.intro hs1 hMm))
   clear hP hPm hx1 hs1 hA hMm hsc hsl e1
   go_wp2_with fail
   clear hc1
   go_loopw [8, 9, 40] (fun _ _ jv wr => ∃ j : Nat, j ≤ s.length ∧ jv = .int .i64 j ∧ Below w3.heap.size w3 wr) (fun _ _ jv _ => s.length - (intOf jv).toNat)
   case atStart => exact ⟨0, Nat.zero_le _, rfl, hb3⟩
   case round =>
    clear hb3 lsb1
    obtain ⟨j, hj, rfl, hb4⟩ := hrel
    by_cases hlj : j < s.length
    ·have hx : s[j]? = some (s[j]'hlj) := by simp
     have hxm := HA.out.2.2 _ (List.getElem_mem hlj)
     have hpr : ∀ z ∈ s.take j, depA l z (s[j]'hlj) = false := by
      intro z hz
      obtain ⟨i, hi, rfl⟩ := List.getElem_of_mem hz
      rw [List.getElem_take]
      exact List.pairwise_iff_getElem.1 (stepsOk_pair HOK.out HA.out.2.1) i j (by rw [List.length_take] at hi; omega) hlj (by rw [List.length_take] at hi; omega)
     have hnx : ∀ m s', n = m + 1 → (ps.map (·.2))[m]? = some s' → ∃ z ∈ s', depA l z (s[j]'hlj) = true := fun m s' e h1 => stepsOk_next HOK.out h1 (by rw [← e]; exact HA.out.2.1) _ (List.getElem_mem hlj)
     generalize s[j]'hlj = x at hx hxm hpr hnx
     obtain ⟨ab, ao, rfl, hcs⟩ := acs_at HA.out.1.1 hx
     have lab : ab < wr.heap.size := Nat.lt_of_lt_of_le hcs.1 hb4.size
     have lsb1 : sb < wr.heap.size := Nat.lt_of_lt_of_le lsb hb4.size
     obtain ⟨a0, a1, a2, a3, a4, a5, a6, a7, a8, a9⟩ := ac_cells (hcs.mono hb4 hcs.1) hx
     have HX := Lib.hid (And.intro hxm (And.intro (any_apart HR.out.fine hxm hpr) hnx))
     clear hx hxm hpr hnx hcs
     have hjca : j ≤ ca := by omega
     go_wp2_with fail
     have gA : Blk (wr.alloc (.cells (#[.int .u8 x.1, .int .i64 x.2.1, .int .u64 (pl x.2.2 0), .int .u64 (pl x.2.2 1), .int .u64 (pl x.2.2 2), .int .u64 (pl x.2.2 3), .int .u64 (pl x.2.2 4), .int .u64 (pl x.2.2 5), .int .u64 (pl x.2.2 6), .int .u64 (pl x.2.2 7)] : Array Value) 46)) wr.heap.size #[.int .u8 x.1, .int .i64 x.2.1, .int .u64 (pl x.2.2 0), .int .u64 (pl x.2.2 1), .int .u64 (pl x.2.2 2), .int .u64 (pl x.2.2 3), .int .u64 (pl x.2.2 4), .int .u64 (pl x.2.2 5), .int .u64 (pl x.2.2 6), .int .u64 (pl x.2.2 7)] 46 := Blk.new _ _ _
     have hb5 : Below w3.heap.size w3 (wr.alloc (.cells (#[.int .u8 x.1, .int .i64 x.2.1, .int .u64 (pl x.2.2 0), .int .u64 (pl x.2.2 1), .int .u64 (pl x.2.2 2), .int .u64 (pl x.2.2 3), .int .u64 (pl x.2.2 4), .int .u64 (pl x.2.2 5), .int .u64 (pl x.2.2 6), .int .u64 (pl x.2.2 7)] : Array Value) 46)) := bel_alloc hb4 _
     generalize (wr.alloc (.cells (#[.int .u8 x.1, .int .i64 x.2.1, .int .u64 (pl x.2.2 0), .int .u64 (pl x.2.2 1), .int .u64 (pl x.2.2 2), .int .u64 (pl x.2.2 3), .int .u64 (pl x.2.2 4), .int .u64 (pl x.2.2 5), .int .u64 (pl x.2.2 6), .int .u64 (pl x.2.2 7)] : Array Value) 46)) = w5 at *
     generalize wr.heap.size = ba at *
     have HK := ContainsFunc71_72 _ (s.take j) (.pointer (some ⟨bf, 0, none⟩)) (.pointer (some ⟨ba, 0, none⟩)) (fun z => !apartB l x z) w5 (sln_takeC (HA.out.1.mono hb5) (Nat.le_of_lt hlj)).1 (fun w' hw z hz => not72 w.heap.size bf ba w' ((HG3.out.2.grow hb5).grow hw) (gA.grow hw) (Lib.hid fun w'' hw2 => HFR.out x HX.out.1 z (HA.out.2.2 z (List.mem_of_mem_take hz)) w'' (bel_trans (bel_trans hb5 hw) hw2)))
     rw [HX.out.2.1] at HK
     have HKK := Lib.hid HK
     clear HK a0 a1 a2 a3 a4 a5 a6 a7 a8 a9 hb4 lab
     refine HKK.out.mono ?_
     rintro e w6 ⟨rfl, hb⟩
     have hb6 := bel_trans hb5 hb
     have gA6 := gA.grow hb
     have lsb6 : sb < w6.heap.size := Nat.lt_of_lt_of_le lsb hb6.size
     clear hb hb5 gA HKK lsb1
     by_cases hz : (0 : Int) < (n : Int)
     ·have hPQ : ∃ pv' s', ps[n - 1]? = some (pv', s') := ⟨(ps[n - 1]'(by omega)).1, (ps[n - 1]'(by omega)).2, by rw [List.getElem?_eq_getElem (by omega)]⟩
      obtain ⟨pv', s', hP⟩ := hPQ
      have hPm := List.mem_of_getElem? hP
      have hx1 : (ps.map (·.1))[n - 1]? = some pv' := by simp [hP]
      have hs1 : (ps.map (·.2))[n - 1]? = some s' := by simp [hP]
      have hA : SlN w3 pv' s' := HP3.out.2.2 _ hPm
      have hMm := HMEM.out s' (List.mem_of_getElem? hs1)
      have hc1 := HSC.out.1 w6 hb6 (n - 1) _ hx1
      have hPa : ∃ qa ca, pv' = .slice qa s'.length ca := by obtain ⟨⟨a, c, h, _⟩, _⟩ := hA; exact ⟨a, c, by rw [h]; simp⟩
      have hany := any_hang HR.out.fine HX.out.1 (HX.out.2.2 (n - 1) s' (by omega) hs1)
      have HA' := Lib.hid (And.intro hA (And.intro hany hMm))
      refine Veil.out ?_
      obtain ⟨qb, cb, rfl⟩ := hPa
      refine Veil.on ?_
      clear hP hPm hx1 hs1 hA hMm hany
      go_wp2_with fail
      have HK := ContainsFunc71_73 (.slice qb s'.length cb) s' (.pointer (some ⟨bf, 0, none⟩)) (.pointer (some ⟨ba, 0, none⟩)) (fun z => !apartB l x z) w6 (HA'.out.1.1.mono hb6) (fun w' hw z hz => not73 w.heap.size bf ba w' ((HG3.out.2.grow hb6).grow hw) (gA6.grow hw) (Lib.hid fun w'' hw2 => HFR.out x HX.out.1 z (HA'.out.2.2 z hz) w'' (bel_trans (bel_trans hb6 hw) hw2)))
      rw [HA'.out.2.1] at HK
      have HKK := Lib.hid HK
      clear HK hc1
      refine HKK.out.mono ?_
      rintro e w7 ⟨rfl, hb⟩
      have hb7 := bel_trans hb6 hb
      clear hb hb6 HKK gA6 lsb6
      go_wp2_with fail
      go_roundw
      case rel => exact ⟨j + 1, by omega, by go_num, hb7⟩
      case measure => simp [intOf]; omega
     ·go_wp2_with fail
      go_roundw
      case rel => exact ⟨j + 1, by omega, by go_num, hb6⟩
      case measure => simp [intOf]; omega
    ·have hjs : j = s.length := by omega
     subst hjs
     go_wp2_with fail
     go_roundw
     case rel => exact ⟨n + 1, by omega, by go_num, hb4⟩
     case measure => simp [intOf]; omega
  ·have hnl : n = ps.length := by omega
   subst hnl
   have hcat : catM ps = (stpL l g).flatten := by unfold catM; rw [HP3.out.1]
   have hcl : (catM ps).length = g.length := by rw [hcat]; exact (stpL_eqv (l := l) (m := g)).len (depA_refl l)
   have RJ := HR.out.eqv (stpL_eqv (l := l) (m := g)).symm
   have hnrm : (nrm l g == nrm l (stpL l g).flatten) = true := by
    have : nrm l g = nrm l (stpL l g).flatten := (nrm_iff l).2 (stpL_eqv (l := l) (m := g)).symm
    rw [this]; simp
   have h60 := HR.out.len
   have HJ := Lib.hid (And.intro hcat (And.intro hcl (And.intro RJ hnrm)))
   have g0 := HG3.out.1.grow hb3
   have cz := g0.cell
   have lz := g0.lt
   have hBz := bel_trans hB3 hb3
   clear hcat hcl RJ hnrm g0
   go_wp2_with fail
   refine wp_region_inv Grows (fun _ _ => True) [Is (.agg #[.int .u64 (pl b 0), .int .u64 (pl b 1), .int .u64 (pl b 2), .int .u64 (pl b 3), .int .u64 (pl b 4), .int .u64 (pl b 5), .int .u64 (pl b 6), .int .u64 (pl b 7), .slice p0 n0 c0, .slice q0 k0 d0]), Is (.pointer (some ⟨w.heap.size, 0, none⟩)), Is (.agg #[.int .u64 (pl b 0), .int .u64 (pl b 1), .int .u64 (pl b 2), .int .u64 (pl b 3), .int .u64 (pl b 4), .int .u64 (pl b 5), .int .u64 (pl b 6), .int .u64 (pl b 7), .slice p0 n0 c0]), Is (.slice qs ps.length cs), VAc w.heap.size (catM ps), VHd w.heap.size b p0 n0 c0 (catM ps), Is (.tuple #[.bool true, .int .i64 0]), Is (.tuple #[.bool true, .int .i64 0]), Is (.bool true), Is (.int .i64 0), Is (.bool true), Is (.int .i64 0)] (by kernel_rfl) (by kernel_rfl) rfl Grows.refl (fun _ _ _ => Grows.trans) (stable_mem ⟨fun _ _ _ h _ => h, fun _ _ _ h _ => h, fun _ _ _ h _ => h, fun _ _ _ h _ => h, VAc.stable, VHd.stab, fun _ _ _ h _ => h, fun _ _ _ h _ => h, fun _ _ _ h _ => h, fun _ _ _ h _ => h, fun _ _ _ h _ => h, fun _ _ _ h _ => h, trivial⟩) _ (Below.drew (Below.refl _ _)) trivial ?_
   iterate 4 (refine inv_cons ?_ (fun _ => ?_); · intro L w1 hat hb hI hF; have hc := (Grows.cells hb).1; (try simp [factsI, Region.binds, Is] at hF); go_simp; (try first | exact Grows.refl _ | exact trivial | rfl))
   refine inv_cons ?_ (fun v4 => ?_)
   ·intro L w1 hat hb hI hF; have hc := (Grows.cells hb).1; try simp [factsI, Region.binds, Is] at hF
    have hbw := bel_trans hb3 hb
    have hsz := (bel_trans hBz hb).size
    go_simp
    refine (Concat_spec _ ps w1 (HP3.out.2.mono hbw).1 (HP3.out.2.mono hbw).2 (by rw [HJ.out.2.1]; omega)).mono ?_
    rintro e w' ⟨x, rfl, hO, hB⟩
    exact ⟨_, rfl, hB, by unfold VAc; exact own_weak hO (by omega)⟩
   refine inv_cons ?_ (fun v5 => ?_)
   ·intro L w1 hat hb hI hF; have hc := (Grows.cells hb).1; try simp [factsI, Region.binds, Is] at hF
    have hV := hF.2
    have h0 := hF.1
    clear hF
    subst h0
    unfold VAc at hV
    refine Exists.elim (own_shape' hV) (fun p' h => Exists.elim h (fun c' h => ?_))
    have hv := h.1
    subst hv
    have HH := Lib.hid hV
    clear hV h
    go_simp
    exact ⟨Grows.refl _, by unfold VHd; exact ⟨_, rfl, HH.out⟩⟩
   refine inv_cons ?_ (fun v6 => ?_)
   ·intro L w1 hat hb hI hF; have hc := (Grows.cells hb).1; try simp [factsI, Region.binds, Is] at hF
    have h0 := hF.1
    have hV := hF.2.1
    clear hF
    subst h0
    unfold VHd at hV
    refine Exists.elim hV (fun bv h => ?_)
    have hv := h.1
    subst hv
    have hbw := bel_trans hBz hb
    have hq : (nrm l g == nrm l (catM ps)) = true := by rw [HJ.out.1]; exact HJ.out.2.2.2
    have hE := Equal_r HR.out (show Runs b l (catM ps) t by rw [HJ.out.1]; exact HJ.out.2.2.1) w1 (HV.out.1.mono hbw) (HV.out.2.mono hbw) (HV.out.1.mono hbw) (OwnA.sl h.2)
    rw [hq] at hE
    have HE := Lib.hid hE
    clear hE hq h hV
    go_simp
    refine HE.out.mono ?_
    rintro e w3 ⟨rfl, hb3⟩
    exact ⟨rfl, hb3⟩
   iterate 5 (refine inv_cons ?_ (fun _ => ?_); · intro L w1 hat hb hI hF; have hc := (Grows.cells hb).1; (try simp [factsI, Region.binds, Is] at hF); go_simp; (try first | exact Grows.refl _ | exact trivial | rfl))
   refine inv_nil ?_
   intro w1 hb hI hF
   simp [Is, Nat.forall_lt_succ_right] at hF
   have e0 := hF.1.1.1.1.1.1.1.1.1.1.1
   have e1 := hF.1.1.1.1.1.1.1.1.1.1.2
   have e2 := hF.1.1.1.1.1.1.1.1.1.2
   have e3 := hF.1.1.1.1.1.1.1.1.2
   have e4 := hF.1.1.1.1.1.1.1.2
   have e5 := hF.1.1.1.1.1.1.2
   have e6 := hF.1.1.1.1.1.2
   have e7 := hF.1.1.1.1.2
   have e8 := hF.1.1.1.2
   have e9 := hF.1.1.2
   have e10 := hF.1.2
   have e11 := hF.2
   clear hF
   simp only [Act.put, List.setIfInBounds_toArray, List.set_cons_succ, List.set_cons_zero, e0, e1, e2, e3, e6, e7, e8, e9, e10, e11]
   clear e0 e1 e2 e3 e6 e7 e8 e9 e10 e11
   have hBy := bel_trans hBz hb
   clear e4 e5
   go_wp2_with fail
   refine (HAL.out _ hBy).mono ?_
   rintro e w9 ⟨rfl, hb9⟩
   have hBx := bel_trans hBy hb9
   go_wp2_with fail
   refine bodyPost_ret (v := .bool true) (by simp [results, Tryz.results15, go_sem]) rfl ⟨rfl, hBx⟩
theorem TraceSteps_walk (b0 : Sol) (u0 : Value) (l0 : List Sol) (av0 : Value) (g : List Ac) (w : World)
  (S0 : SlS w u0 l0) (A0 : SlA w av0 g) (N0 : ∀ n c, av0 = .slice none n c → c = 0) (hT : w.cell? ⟨5, 15, none⟩ = some (.int .u8 4)) :
  Calls Tryz.prog 15 #[.agg #[.int .u64 (pl b0 0), .int .u64 (pl b0 1), .int .u64 (pl b0 2), .int .u64 (pl b0 3), .int .u64 (pl b0 4), .int .u64 (pl b0 5), .int .u64 (pl b0 6), .int .u64 (pl b0 7), u0, av0]] w fun e w' => e = .returned (.bool true) ∧ Below w.heap.size w w' := by
 have HAL := alive_h w hT
 have T0 := S0
 have X0 := A0
 obtain ⟨p0, c0, rfl, _, _⟩ := T0
 obtain ⟨q0, d0, rfl, _, _⟩ := X0
 generalize (g.map acL).length = k0 at *
 generalize (l0.map solL).length = n0 at *
 cases hm : many k0 n0 with
 | true => exact TraceSteps_many b0 p0 q0 n0 c0 k0 d0 w hm HAL
 | false =>
  cases hg : begunM b0 l0 g with
  | inl x => exact TraceSteps_bad b0 p0 q0 n0 c0 k0 d0 w hm x.2 (begunM_bad hg) (Lib.hid fun w' hb => Steps_bad hg w' (S0.mono hb) (A0.mono hb)) HAL
  | inr s =>
   obtain ⟨t, R, _⟩ := Runs.of hg
   exact TraceSteps_good b0 p0 q0 n0 c0 k0 d0 w hm (Lib.hid R) (Lib.hid ⟨S0, A0⟩) (Lib.hid fun w' hb => Steps_good hg R.fine R.len w' (S0.mono hb) (A0.mono hb)) HAL
end Go.Proofs.YtccnkebkgegohaaGreatDoor
end
