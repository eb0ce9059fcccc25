import Derived.Test.YtlbhjikkpbknnaaGreatDoorHQ45
/-
  Given contracts of functions of the program, and laws for them, one behind the other.
-/
set_option linter.unusedVariables false
set_option linter.unusedSimpArgs false
set_option linter.unusedSectionVars false
section
namespace Go.Proofs.YtlbhjikkpbknnaaGreatDoor
open Go.RowKit Go.Rel Go.Draw
set_option maxRecDepth 100000
/-! Read of the program -/
/-- what the calls into the library want of the world -/
structure Env (w : World) : Prop where
 mx : ∃ m, w.cell? ⟨5, 0, none⟩ = some (.int .i64 m)
 sy : ∃ te pe, w.cell? ⟨2, 0, none⟩ = some (.iface te pe)
 rg : ∃ te pe, w.cell? ⟨3, 0, none⟩ = some (.iface te pe)
theorem Env.grow {w w' : World} (h : Env w) (hb : Below w.heap.size w w') : Env w' := by
 obtain ⟨⟨m, h1⟩, ⟨a, b, h2⟩, ⟨c, d, h3⟩⟩ := h
 exact ⟨⟨m, (hb.cell (Lib.lt_of_cell h1)).trans h1⟩, ⟨a, b, (hb.cell (Lib.lt_of_cell h2)).trans h2⟩, ⟨c, d, (hb.cell (Lib.lt_of_cell h3)).trans h3⟩⟩
theorem Atoi_any {w : World} (hE : Env w) (s : ByteArray) (hs : s.size ≤ 1000) : Calls Tryz.prog 116 #[.string s] w fun e w' => ∃ er, e = .returned (.tuple #[.int .i64 (atoiL s.data.toList), er]) ∧ Below w.heap.size w w' := by
 cases h : Lib.atoiAll s.data.toList
 ·rename_i v
  refine (Tryz.strconv_Atoi_ok s (by omega) v h w).mono ?_
  rintro e w' ⟨rfl, hw⟩
  refine ⟨_, by unfold atoiL; rw [h], ?_⟩
  rcases hw with rfl | ⟨t, rfl⟩
  ·exact Below.refl _ _
  ·exact Lib.bytesWorld_below _ _ _
 ·obtain ⟨te, pe, hv⟩ := hE.sy
  refine (Tryz.strconv_Atoi_syntax s (by omega) h _ w hv (.inr ⟨te, pe, rfl⟩)).mono ?_
  rintro e w' ⟨N, rfl, _, _, hb⟩
  exact ⟨_, by unfold atoiL; rw [h], hb⟩
 ·obtain ⟨te, pe, hv⟩ := hE.rg
  refine (Tryz.strconv_Atoi_range s (by omega) h _ w hv (.inr ⟨te, pe, rfl⟩)).mono ?_
  rintro e w' ⟨N, rfl, _, _, hb⟩
  exact ⟨_, by unfold atoiL; rw [h], hb⟩
theorem bytes_ext {a b : ByteArray} : a = b ↔ a.data.toList = b.data.toList := by
 constructor
 ·rintro rfl; rfl
 ·intro h
  apply ByteArray.ext
  exact Array.toList_inj.1 h
theorem idxFrom_L (x : ByteArray) : ∀ (zs : List ByteArray) (i : Nat), Lib.idxFromS zs x i = idxL x.data.toList (zs.map (·.data.toList)) i
 | [], i => rfl
 | z :: zs, i => by
  unfold Lib.idxFromS
  rw [List.map_cons]
  unfold idxL
  rw [idxFrom_L x zs (i + 1)]
  by_cases h : z = x
  ·rw [if_pos h, if_pos (bytes_ext.1 h)]
  ·rw [if_neg h, if_neg (fun e => h (bytes_ext.2 e))]
theorem idx_spec {W : World} {g : Nat} {t : TypeId} (h : Blk W g #[.string ⟨#[117, 112]⟩, .string ⟨#[101, 97, 115, 116]⟩, .string ⟨#[115, 111, 117, 116, 104]⟩, .string ⟨#[119, 101, 115, 116]⟩, .string ⟨#[110, 111, 114, 116, 104]⟩] t) (x : ByteArray) : Calls Tryz.prog 117 #[.slice (some ⟨g, 0, none⟩) 5 5, .string x] W fun e w' => e = .returned (.int .i64 (idxL x.data.toList [wordU 0, wordU 1, wordU 2, wordU 3, wordU 4] 0)) ∧ w' = W := by
 have hc : ∀ j, j < ([⟨#[117, 112]⟩, ⟨#[101, 97, 115, 116]⟩, ⟨#[115, 111, 117, 116, 104]⟩, ⟨#[119, 101, 115, 116]⟩, ⟨#[110, 111, 114, 116, 104]⟩] : List ByteArray).length → W.cell? ⟨g, 0 + j, none⟩ = some (.string (([⟨#[117, 112]⟩, ⟨#[101, 97, 115, 116]⟩, ⟨#[115, 111, 117, 116, 104]⟩, ⟨#[119, 101, 115, 116]⟩, ⟨#[110, 111, 114, 116, 104]⟩] : List ByteArray).getD j ByteArray.empty)) := fun j hj => by
  rw [Nat.zero_add, h.cell]
  have hj5 : j < 5 := hj
  obtain rfl | rfl | rfl | rfl | rfl : j = 0 ∨ j = 1 ∨ j = 2 ∨ j = 3 ∨ j = 4 := by omega
  all_goals rfl
 refine (Tryz.slices_Index_string g 0 5 5 [⟨#[117, 112]⟩, ⟨#[101, 97, 115, 116]⟩, ⟨#[115, 111, 117, 116, 104]⟩, ⟨#[119, 101, 115, 116]⟩, ⟨#[110, 111, 114, 116, 104]⟩] x W (by decide) (by decide) hc).mono ?_
 rintro e w' ⟨rfl, rfl⟩
 refine ⟨?_, rfl⟩
 unfold Lib.idxOfS
 rw [idxFrom_L]; rfl
theorem splitK_le (sep : List UInt8) : ∀ (k : Nat) (s x : List UInt8), x ∈ Lib.splitK sep 0 k s → x.length ≤ s.length
 | 0, s, x, h => by
  rw [Lib.splitK] at h
  simp at h
  rw [h]; exact Nat.le_refl _
 | k + 1, s, x, h => by
  rw [Lib.splitK] at h
  split at h
  ·simp at h
   rw [h]; exact Nat.le_refl _
  ·rw [List.mem_cons] at h
   rcases h with rfl | h
   ·rw [List.length_take]; omega
   ·have := splitK_le sep k _ x h
    rw [List.length_drop] at this; omega
def JR (N : Nat) (a b : Int) (done : Bool) (W : World) : Prop := (done = false → Blk W N #[.int .i64 a, .int .i64 0, .int .i64 0] 25) ∧ (done = true → Blk W N #[.int .i64 a, .int .i64 b, .int .i64 0] 25)
theorem rdM_cases {s : List UInt8} {x : MvI} (h : readL (wsL s) = some x) : rdM s = if wrE x = 0 ∧ wrI x = s then some x else none := by
 unfold rdM
 rw [h]
 simp only
 unfold wrE
 cases h1 : okW x with
 | false => simp
 | true =>
  by_cases h2 : wrI x = s
  ·simp [h2]
  ·simp [h2]
set_option maxHeartbeats 32000000 in
theorem Read_n {w : World} {s : List UInt8} (hsl : s.length ≤ 1000) (hE : Env w) : Calls Tryz.prog 64 #[.string ⟨s.toArray⟩] w fun e w' => e = .returned (rdV (rdM s)) ∧ Below w.heap.size w w' := by
 obtain ⟨R, hR⟩ : ∃ R, R = rdM s := ⟨_, rfl⟩
 rw [← hR]
 obtain ⟨n, hn⟩ : ∃ n, n = Lib.countB (⟨s.toArray⟩ : ByteArray) ⟨#[32]⟩ := ⟨_, rfl⟩
 obtain ⟨ws, hws⟩ : ∃ ws, ws = Lib.splitB ⟨#[32]⟩ 0 n (⟨s.toArray⟩ : ByteArray) := ⟨_, rfl⟩
 have hlen : ws.length = n + 1 := by rw [hws]; exact Lib.splitB_all _ (by decide) 0 n _ hn.symm
 have hmap : ws.map (·.data.toList) = wsL s := by
  rw [hws, Lib.splitB_data, hn]
  unfold wsL
  rfl
 obtain ⟨K, hK⟩ : ∃ K, K = n + 1 := ⟨_, rfl⟩
 have hsmall : ∀ x ∈ ws, x.size ≤ 1000 := fun x hx => by
  have h1 : x.data.toList ∈ wsL s := by rw [← hmap]; exact List.mem_map.2 ⟨x, hx, rfl⟩
  have h2 := splitK_le _ _ _ _ h1
  have h3 : x.size = x.data.toList.length := by show x.data.size = _; rw [Array.length_toList]
  omega
 have HSp : Hid (∀ W, Below w.heap.size w W → Calls Tryz.prog 115 #[.string ⟨s.toArray⟩, .string ⟨#[32]⟩] W fun e w' => e = .returned (.slice (some ⟨W.heap.size, 0, none⟩) K K) ∧ w' = W.alloc (.cells ((ws.map Value.string).toArray) 9)) := Lib.hid fun W hb => by
  obtain ⟨m, hm⟩ := (hE.grow hb).mx
  have h1 := Tryz.strings_Split (⟨s.toArray⟩ : ByteArray) ⟨#[32]⟩ m W (by show s.toArray.size < _; simp; omega) hm (by decide)
  rw [← hn, ← hws, ← hK] at h1
  exact h1
 have HAt := Lib.hid fun W (h : Below w.heap.size w W) (a : ByteArray) (ha : a ∈ ws) => Atoi_any (hE.grow h) a (hsmall a ha)
 have HRR : Hid (R = rdM s ∧ ws.map (·.data.toList) = wsL s ∧ ws.length = K ∧ s.length ≤ 1000) := Lib.hid ⟨hR, hmap, by rw [hlen, hK], hsl⟩
 clear hR hn hws hlen hmap hK hsmall hE hsl
 go_enter Tryz.func64, Tryz.ntmps64
 go_wp2_with fail
 refine (HSp.out _ (bel_alloc (bel_refl w) _)).mono ?_
 rintro e w1 ⟨rfl, hw1⟩
 have H1 : Hid (Blk w1 w.heap.size #[.int .i64 0, .int .i64 0, .int .i64 0] 25 ∧ Blk w1 (w.heap.size + 1) ((ws.map Value.string).toArray) 9 ∧ Below w.heap.size w w1) := Lib.hid ⟨by rw [hw1]; exact (by repeat (first | with_reducible assumption | (refine Blk.at _ _ ?_; (simp; done)) | with_reducible refine Blk.alloc ?_ _ | with_reducible refine Blk.drew ?_ | with_reducible refine Blk.rowS ?_ _ | with_reducible refine Blk.rowO ?_ _ (by simp))), by rw [hw1]; exact Blk.at _ _ (by simp), by rw [hw1]; exact (by repeat (first | with_reducible exact bel_refl _ | with_reducible assumption | with_reducible refine bel_drewN ?_ _ | with_reducible refine bel_drew ?_ | with_reducible refine bel_alloc ?_ _ | with_reducible refine bel_row ?_ ?_ _ | with_reducible refine bel_set ?_ ?_ _ | refine bel_trans ?_ (by with_reducible assumption) | (simp; done) | (simp; omega)))⟩
 clear hw1 HSp
 simp only [World.size_alloc]
 obtain ⟨N, hN⟩ : ∃ N, N = w.heap.size := ⟨_, rfl⟩
 have HN := Lib.hid hN
 have H1' : Hid (Blk w1 N #[.int .i64 0, .int .i64 0, .int .i64 0] 25 ∧ Blk w1 (N + 1) ((ws.map Value.string).toArray) 9 ∧ Below w.heap.size w w1) := Lib.hid (by rw [hN]; exact H1.out)
 rw [← hN]
 clear hN H1
 by_cases hK2 : K < 2
 ·have hki : (K : Int) < 2 := by omega
  have hdk : decide ((K : Int) < 2) = true := decide_eq_true hki
  have hRn : R = none := by
   rw [HRR.out.1]
   have h3 := HRR.out.2.2.1
   have h2 := HRR.out.2.1
   unfold rdM
   rw [← h2]
   cases ws with
   | nil => rfl
   | cons a t =>
    cases t with
    | nil => rfl
    | cons b t => simp at h3; omega
  subst hRn
  have BA := H1'.out.1
  have d0 := BA.cell 0; have d1 := BA.cell 1; have d2 := BA.cell 2; have f0 := BA.free 0; have f1 := BA.free 1; have f2 := BA.free 2; have l0 := BA.lt
  simp only [List.getElem?_toArray, List.getElem?_cons_zero, List.getElem?_cons_succ] at d0 d1 d2
  have HBA := Lib.hid BA; clear BA
  go_wp2_with fail
  have BS := mv_store HBA.out (.int .i64 0) (.int .i64 0) (.int .i64 0)
  have s0 := BS.cell 0; have s1 := BS.cell 1; have s2 := BS.cell 2
  simp only [List.getElem?_toArray, List.getElem?_cons_zero, List.getElem?_cons_succ] at s0 s1 s2
  refine bodyPost_ret (v := .tuple #[.agg #[.int .i64 0, .int .i64 0, .int .i64 0], .int .i64 4]) (by simp [results, Tryz.results64, go_sem, s0, s1, s2]) rfl ⟨rfl, mv_store_bel H1'.out.2.2 (by rw [HN.out]; exact Nat.le_refl _) _ _ _⟩
 ·have hki : ¬ ((K : Int) < 2) := by omega
  have hdk : decide ((K : Int) < 2) = false := decide_eq_false hki
  have h0K : (0 : Int) < (K : Int) := by omega
  have h1K : (1 : Int) < (K : Int) := by omega
  obtain ⟨a0, a1, rest, rfl⟩ : ∃ a0 a1 rest, ws = a0 :: a1 :: rest := by
   have h3 := HRR.out.2.2.1
   match ws, h3 with
   | a :: b :: t, _ => exact ⟨a, b, t, rfl⟩
   | [a], h => simp at h; omega
   | [], h => simp at h; omega
  go_wp2_with fail
  obtain ⟨wa, hwa⟩ : ∃ wa, wa = w1.alloc (.cells #[.int .i64 0, .int .i64 0, .int .i64 0] 25) := ⟨_, rfl⟩
  have hba : Below w1.heap.size w1 wa := by subst hwa; exact bel_alloc (bel_refl _) _
  have Ha : Hid (Blk wa N #[.int .i64 0, .int .i64 0, .int .i64 0] 25 ∧ Blk wa (N + 1) (((a0 :: a1 :: rest).map Value.string).toArray) 9 ∧ Blk wa w1.heap.size #[.int .i64 0, .int .i64 0, .int .i64 0] 25 ∧ Below w.heap.size w wa ∧ N < w1.heap.size ∧ N + 1 < w1.heap.size) := Lib.hid ⟨H1'.out.1.grow hba, H1'.out.2.1.grow hba, by subst hwa; exact Blk.new _ _ _, bel_trans H1'.out.2.2 hba, H1'.out.1.lt, H1'.out.2.1.lt⟩
  rw [← hwa]
  clear hwa hba
  obtain ⟨M, hM⟩ : ∃ M, M = w1.heap.size := ⟨_, rfl⟩
  rw [← hM] at Ha ⊢
  clear hM H1'
  refine (words_spec wa).mono ?_
  rintro e w2 ⟨rfl, hb2⟩
  rw [show (Value.agg #[bsV (wordU 0), bsV (wordU 1), bsV (wordU 2), bsV (wordU 3), bsV (wordU 4)]) = .agg #[.string ⟨#[117, 112]⟩, .string ⟨#[101, 97, 115, 116]⟩, .string ⟨#[115, 111, 117, 116, 104]⟩, .string ⟨#[119, 101, 115, 116]⟩, .string ⟨#[110, 111, 114, 116, 104]⟩] from rfl]
  obtain ⟨wc, hwc⟩ : ∃ wc, wc = w2.alloc (.cells #[.string ⟨#[117, 112]⟩, .string ⟨#[101, 97, 115, 116]⟩, .string ⟨#[115, 111, 117, 116, 104]⟩, .string ⟨#[119, 101, 115, 116]⟩, .string ⟨#[110, 111, 114, 116, 104]⟩] 146) := ⟨_, rfl⟩
  have hbc : Below wa.heap.size wa wc := bel_trans hb2 (by subst hwc; exact bel_alloc (bel_refl _) _)
  have Hc : Hid (Blk wc N #[.int .i64 0, .int .i64 0, .int .i64 0] 25 ∧ Blk wc (N + 1) (((a0 :: a1 :: rest).map Value.string).toArray) 9 ∧ Blk wc M #[.int .i64 0, .int .i64 0, .int .i64 0] 25 ∧ Below w.heap.size w wc ∧ Blk wc w2.heap.size #[.string ⟨#[117, 112]⟩, .string ⟨#[101, 97, 115, 116]⟩, .string ⟨#[115, 111, 117, 116, 104]⟩, .string ⟨#[119, 101, 115, 116]⟩, .string ⟨#[110, 111, 114, 116, 104]⟩] 146 ∧ M < w2.heap.size) := Lib.hid ⟨Ha.out.1.grow hbc, Ha.out.2.1.grow hbc, Ha.out.2.2.1.grow hbc, bel_trans Ha.out.2.2.2.1 hbc, by subst hwc; exact Blk.new _ _ _, (Ha.out.2.2.1.grow hb2).lt⟩
  have hNM := Lib.hid (And.intro Ha.out.2.2.2.2.1 Ha.out.2.2.2.2.2)
  obtain ⟨N6, hN6⟩ : ∃ M, M = w2.heap.size := ⟨_, rfl⟩
  rw [← hN6] at Hc
  have HN6 := Lib.hid (And.intro hwc hN6)
  have x0 : wc.cell? ⟨N + 1, 0, none⟩ = some (.string a0) := Hc.out.2.1.cell 0
  have lx := Hc.out.2.1.lt
  have x0' : ∀ o, (w2.alloc o).cell? ⟨N + 1, 0, none⟩ = some (.string a0) := fun o => ((bel_alloc (bel_refl w2) o).cell (p := ⟨N + 1, 0, none⟩) (by have := hNM.out.2; have := Hc.out.2.2.2.2.2; rw [hN6] at this; show N + 1 < _; omega)).trans (by have h := (Ha.out.2.1.grow hb2).cell 0; exact h)
  have lx' : N + 1 < w2.heap.size := (Ha.out.2.1.grow hb2).lt
  clear hwc hbc hb2 hN6 x0 lx Ha
  go_wp2_with fail
  rw [← HN6.out.1, ← HN6.out.2]
  clear x0' lx'
  refine (HAt.out _ Hc.out.2.2.2.1 a0 (by simp)).mono ?_
  rintro e w3 ⟨er, rfl, hb3⟩
  obtain ⟨pA, hpA⟩ : ∃ x, x = atoiL a0.data.toList := ⟨_, rfl⟩
  obtain ⟨iB, hiB⟩ : ∃ x, x = idxL a1.data.toList [wordU 0, wordU 1, wordU 2, wordU 3, wordU 4] 0 := ⟨_, rfl⟩
  obtain ⟨pB, hpB⟩ : ∃ x, x = max 0 iB := ⟨_, rfl⟩
  rw [← hpA]
  have HIx := Lib.hid fun W (g : Nat) (h : Blk W g #[.string ⟨#[117, 112]⟩, .string ⟨#[101, 97, 115, 116]⟩, .string ⟨#[115, 111, 117, 116, 104]⟩, .string ⟨#[119, 101, 115, 116]⟩, .string ⟨#[110, 111, 114, 116, 104]⟩] 146) => idx_spec h a1
  rw [← hiB] at HIx
  have HAB := Lib.hid (And.intro hpA (And.intro hiB hpB))
  have hmx : max 0 iB = pB := hpB.symm
  have H3 : Hid (Blk w3 N #[.int .i64 0, .int .i64 0, .int .i64 0] 25 ∧ Blk w3 (N + 1) (((a0 :: a1 :: rest).map Value.string).toArray) 9 ∧ Blk w3 M #[.int .i64 0, .int .i64 0, .int .i64 0] 25 ∧ Below w.heap.size w w3 ∧ Blk w3 N6 #[.string ⟨#[117, 112]⟩, .string ⟨#[101, 97, 115, 116]⟩, .string ⟨#[115, 111, 117, 116, 104]⟩, .string ⟨#[119, 101, 115, 116]⟩, .string ⟨#[110, 111, 114, 116, 104]⟩] 146) := Lib.hid ⟨Hc.out.1.grow hb3, Hc.out.2.1.grow hb3, Hc.out.2.2.1.grow hb3, bel_trans Hc.out.2.2.2.1 hb3, Hc.out.2.2.2.2.1.grow hb3⟩
  have hM6 := Lib.hid (show M < N6 from Hc.out.2.2.2.2.2)
  clear hpA hiB hpB hb3 Hc HN6
  have BM := H3.out.2.2.1
  have d0 : w3.cell? ⟨M, 0, none⟩ = some (.int .i64 0) := BM.cell 0
  have f0 := BM.free 0; have l0 := BM.lt
  clear BM
  go_wp2_with fail
  obtain ⟨w4, hw4⟩ : ∃ w4, w4 = w3.setCell ⟨M, 0, none⟩ (.int .i64 pA) := ⟨_, rfl⟩
  have hg4 : w3.grownBy w4 (some M) := by subst hw4; exact gb_set (gb_refl _ _) _ rfl _
  have H4 : Hid (Blk w4 N #[.int .i64 0, .int .i64 0, .int .i64 0] 25 ∧ Blk w4 (N + 1) (((a0 :: a1 :: rest).map Value.string).toArray) 9 ∧ Blk w4 M #[.int .i64 pA, .int .i64 0, .int .i64 0] 25 ∧ Below w.heap.size w w4 ∧ Blk w4 N6 #[.string ⟨#[117, 112]⟩, .string ⟨#[101, 97, 115, 116]⟩, .string ⟨#[115, 111, 117, 116, 104]⟩, .string ⟨#[119, 101, 115, 116]⟩, .string ⟨#[110, 111, 114, 116, 104]⟩] 146) := Lib.hid ⟨H3.out.1.gb hg4 (by have := hNM.out; simp; omega), H3.out.2.1.gb hg4 (by have := hNM.out; simp; omega), by subst hw4; exact H3.out.2.2.1.set 0 _, H3.out.2.2.2.1.grown hg4 H3.out.2.2.2.1.size (fun j e => by cases e; have := hNM.out; rw [HN.out] at this; omega), H3.out.2.2.2.2.gb hg4 (by have := hM6.out; simp; omega)⟩
  rw [← hw4]
  clear hw4 hg4 d0 f0 l0 H3
  refine wp_region_val (GbN M) (fun L vs W => JR M pA pB (L 7) W) [Is (.slice (some ⟨N6, 0, none⟩) 5 5), Is (.slice (some ⟨N + 1, 0, none⟩) K K), Is (.pointer (some ⟨N + 1, 1, none⟩)), Is (.string a1), Is (.int .i64 iB), Is (.int .i64 pB), Is (.pointer (some ⟨M, 1, none⟩)), AnyV] (by kernel_rfl) (by kernel_rfl) rfl (fun W => gb_refl W _) (GbN.trans M) (stable_mem ⟨fun _ _ _ h _ => h, fun _ _ _ h _ => h, fun _ _ _ h _ => h, fun _ _ _ h _ => h, fun _ _ _ h _ => h, fun _ _ _ h _ => h, fun _ _ _ h _ => h, fun _ _ _ h _ => h, trivial⟩) w4 (gb_drew (gb_refl _ _)) (⟨fun _ => H4.out.2.2.1, fun e => (by cases e)⟩) ?_
  refine val_cons ?_ (fun v0 => ?_)
  ·intro L vs w1 hvs hat hb hI hF; try simp [factsI, Region.binds, Is] at hF
   have HI2 := Lib.hid hI; clear hI
   go_simp
   first | exact ⟨gb_refl _ _, HI2.out⟩ | exact HI2.out | exact ⟨HI2.out, trivial⟩
  refine val_cons ?_ (fun v1 => ?_)
  ·intro L vs w1 hvs hat hb hI hF; try simp [factsI, Region.binds, Is] at hF
   have HI2 := Lib.hid hI; clear hI
   go_simp
   first | exact ⟨gb_refl _ _, HI2.out⟩ | exact HI2.out | exact ⟨HI2.out, trivial⟩
  refine val_cons ?_ (fun v2 => ?_)
  ·intro L vs w1 hvs hat hb hI hF; try simp [factsI, Region.binds, Is] at hF
   have HI2 := Lib.hid hI; clear hI
   go_simp
   first | exact ⟨gb_refl _ _, HI2.out⟩ | exact HI2.out | exact ⟨HI2.out, trivial⟩
  refine val_cons ?_ (fun v3 => ?_)
  ·intro L vs w1 hvs hat hb hI hF; try simp [factsI, Region.binds, Is] at hF
   have B5 := H4.out.2.1.gb hb (by have := hNM.out; simp; omega)
   have c7 : w1.cell? ⟨N + 1, 1, none⟩ = some (.string a1) := B5.cell 1
   have l7 := B5.lt
   clear B5
   have HI2 := Lib.hid hI; clear hI
   go_simp
   first | exact ⟨gb_refl _ _, HI2.out⟩ | exact HI2.out | exact ⟨HI2.out, trivial⟩
  refine val_cons ?_ (fun v4 => ?_)
  ·intro L vs w1 hvs hat hb hI hF; try simp [factsI, Region.binds, Is] at hF
   have HI2 := Lib.hid hI; clear hI
   have B6 := H4.out.2.2.2.2.gb hb (by have := hM6.out; simp; omega)
   go_simp
   refine (HIx.out _ N6 B6).mono ?_
   rintro e w6 ⟨rfl, rfl⟩
   first | exact ⟨rfl, gb_refl _ _, HI2.out⟩ | exact ⟨gb_refl _ _, HI2.out, rfl⟩ | exact ⟨_, rfl, gb_refl _ _, HI2.out, rfl⟩ | trace_state
  refine val_cons ?_ (fun v5 => ?_)
  ·intro L vs w1 hvs hat hb hI hF; try simp [factsI, Region.binds, Is] at hF
   have HI2 := Lib.hid hI; clear hI
   go_simp
   first | exact ⟨gb_refl _ _, HI2.out⟩ | exact HI2.out | exact ⟨HI2.out, trivial⟩
  refine val_cons ?_ (fun v6 => ?_)
  ·intro L vs w1 hvs hat hb hI hF; try simp [factsI, Region.binds, Is] at hF
   have HI2 := Lib.hid hI; clear hI
   go_simp
   first | exact ⟨gb_refl _ _, HI2.out⟩ | exact HI2.out | exact ⟨HI2.out, trivial⟩
  refine val_cons ?_ (fun v7 => ?_)
  ·intro L vs w1 hvs hat hb hI hF; try simp [factsI, Region.binds, Is] at hF
   have h15 := Lib.hid hat.self
   have hB := hI.1 h15.out
   have l6 := hB.lt
   have f6 := hB.free 1
   have e6 : w1.cell? ⟨M, 1, none⟩ = some (.int .i64 0) := hB.cell 1
   have HW := Lib.hid hB
   clear hI hB
   go_simp
   exact ⟨gb_set (gb_refl _ _) _ rfl _, ⟨fun e => (by cases e), fun _ => HW.out.set 1 _⟩, trivial⟩
  refine val_nil ?_
  intro vs w1 hvs hb hI hF
  simp [Is, Nat.forall_lt_succ_right] at hF
  have e0 := hF.1.1.1.1.1.1.1
  have e1 := hF.1.1.1.1.1.1.2
  have e2 := hF.1.1.1.1.1.2
  have e3 := hF.1.1.1.1.2
  have e4 := hF.1.1.1.2
  have e5 := hF.1.1.2
  have e6 := hF.1.2
  have e7 := hF.2
  clear hF
  simp only [Act.put, List.setIfInBounds_toArray, List.set_cons_succ, List.set_cons_zero, e0, e1, e2, e3, e4, e5, e6]
  clear e0 e1 e2 e3 e4 e5 e6
  have hg5 := hb
  have H5 : Hid (Blk w1 N #[.int .i64 0, .int .i64 0, .int .i64 0] 25 ∧ Blk w1 (N + 1) (((a0 :: a1 :: rest).map Value.string).toArray) 9 ∧ Blk w1 M #[.int .i64 pA, .int .i64 pB, .int .i64 0] 25 ∧ Below w.heap.size w w1) := Lib.hid ⟨H4.out.1.gb hg5 (by have := hNM.out; simp; omega), H4.out.2.1.gb hg5 (by have := hNM.out; simp; omega), hI.2 rfl, H4.out.2.2.2.1.grown hg5 H4.out.2.2.2.1.size (fun j e => by cases e; have := hNM.out; rw [HN.out] at this; omega)⟩
  clear hvs hI hb hg5 H4 e7
  by_cases hK3 : 2 < K
  ·have hk3 : (2 : Int) < (K : Int) := by omega
   have hd3 : decide ((2 : Int) < (K : Int)) = true := decide_eq_true hk3
   obtain ⟨a2, rest2, rfl⟩ : ∃ a2 r, rest = a2 :: r := by
    have h3 := HRR.out.2.2.1
    match rest, h3 with
    | a :: t, _ => exact ⟨a, t, rfl⟩
    | [], h => simp at h; omega
   have c2 : w1.cell? ⟨N + 1, 2, none⟩ = some (.string a2) := H5.out.2.1.cell 2
   have l2 := H5.out.2.1.lt
   go_wp2_with fail
   refine (HAt.out _ H5.out.2.2.2 a2 (by simp)).mono ?_
   rintro e w6 ⟨er2, rfl, hb6⟩
   obtain ⟨pC, hpC⟩ : ∃ x, x = atoiL a2.data.toList := ⟨_, rfl⟩
   rw [← hpC]
   have H6 : Hid (Blk w6 N #[.int .i64 0, .int .i64 0, .int .i64 0] 25 ∧ Blk w6 M #[.int .i64 pA, .int .i64 pB, .int .i64 0] 25 ∧ Below w.heap.size w w6) := Lib.hid ⟨H5.out.1.grow hb6, H5.out.2.2.1.grow hb6, bel_trans H5.out.2.2.2 hb6⟩
   have hread : Hid (readL (wsL s) = some (pA, pB, pC)) := Lib.hid (by rw [← HRR.out.2.1, HAB.out.2.2, HAB.out.1, HAB.out.2.1, hpC]; rfl)
   have BM := H6.out.2.1
   have d2 : w6.cell? ⟨M, 2, none⟩ = some (.int .i64 0) := BM.cell 2
   have d0 : w6.cell? ⟨M, 0, none⟩ = some (.int .i64 pA) := BM.cell 0
   have d1 : w6.cell? ⟨M, 1, none⟩ = some (.int .i64 pB) := BM.cell 1
   have f2 := BM.free 2; have l0 := BM.lt
   have HWR := Lib.hid fun W => Write_n (w := W) pA pB pC
   obtain ⟨T, hT⟩ : ∃ T, T = wrI (pA, pB, pC) := ⟨_, rfl⟩
   obtain ⟨E, hE⟩ : ∃ E, E = wrE (pA, pB, pC) := ⟨_, rfl⟩
   rw [← hT, ← hE] at HWR
   have HTE := Lib.hid (And.intro hT hE)
   have hg7 : w6.grownBy (w6.setCell ⟨M, 2, none⟩ (.int .i64 pC)) (some M) := gb_set (gb_refl _ _) _ rfl _
   have H7 : Hid (Blk (w6.setCell ⟨M, 2, none⟩ (.int .i64 pC)) N #[.int .i64 0, .int .i64 0, .int .i64 0] 25 ∧ Blk (w6.setCell ⟨M, 2, none⟩ (.int .i64 pC)) M #[.int .i64 pA, .int .i64 pB, .int .i64 pC] 25 ∧ Below w.heap.size w (w6.setCell ⟨M, 2, none⟩ (.int .i64 pC))) := Lib.hid ⟨H6.out.1.gb hg7 (by have := hNM.out; simp; omega), BM.set 2 _, H6.out.2.2.grown hg7 H6.out.2.2.size (fun j e => by cases e; have := hNM.out; rw [HN.out] at this; omega)⟩
   clear BM hpC hb6 c2 l2 hg7 hT hE H5
   go_wp2_with fail
   refine (HWR.out _).mono ?_
   rintro e w7 ⟨rfl, hb7⟩
   have H8 : Hid (Blk w7 N #[.int .i64 0, .int .i64 0, .int .i64 0] 25 ∧ Blk w7 M #[.int .i64 pA, .int .i64 pB, .int .i64 pC] 25 ∧ Below w.heap.size w w7) := Lib.hid ⟨H7.out.1.grow hb7, H7.out.2.1.grow hb7, bel_trans H7.out.2.2 hb7⟩
   have HRf := Lib.hid (HRR.out.1.trans (rdM_cases hread.out))
   clear hb7 H7 d0 d1 d2 l0
   unfold bsV
   have BA := H8.out.1
   have d0 := BA.cell 0; have d1 := BA.cell 1; have d2 := BA.cell 2; have f0 := BA.free 0; have f1 := BA.free 1; have f2' := BA.free 2; have l0 := BA.lt
   have BX := H8.out.2.1
   have x0 := BX.cell 0; have x1 := BX.cell 1; have x2 := BX.cell 2; have lx := BX.lt
   simp only [List.getElem?_toArray, List.getElem?_cons_zero, List.getElem?_cons_succ] at d0 d1 d2 x0 x1 x2
   have HBA := Lib.hid BA; clear BA BX
   by_cases hm : E = 0 ∧ T = s
   ·obtain ⟨rfl, rfl⟩ := hm
    have hRx : R = some (pA, pB, pC) := by rw [HRf.out, if_pos ⟨HTE.out.2.symm, HTE.out.1.symm⟩]
    subst hRx
    go_wp2_with fail
    have BS := mv_store HBA.out (.int .i64 pA) (.int .i64 pB) (.int .i64 pC)
    have s0 := BS.cell 0; have s1 := BS.cell 1; have s2 := BS.cell 2
    simp only [List.getElem?_toArray, List.getElem?_cons_zero, List.getElem?_cons_succ] at s0 s1 s2
    refine bodyPost_ret (v := .tuple #[.agg #[.int .i64 pA, .int .i64 pB, .int .i64 pC], .int .i64 0]) (by simp [results, Tryz.results64, go_sem, s0, s1, s2]) rfl ⟨rfl, mv_store_bel H8.out.2.2 (by rw [HN.out]; exact Nat.le_refl _) _ _ _⟩
   ·have hRx : R = none := by rw [HRf.out, if_neg (fun h => hm ⟨HTE.out.2.trans h.1, HTE.out.1.trans h.2⟩)]
    subst hRx
    by_cases hE0 : E = 0
    ·subst hE0
     have hTs : ¬ (T = s) := fun h => hm ⟨rfl, h⟩
     have hbs : (T == s) = false := by rw [beq_eq_false_iff_ne]; exact hTs
     clear hm
     go_wp2_with fail
     have BS := mv_store HBA.out (.int .i64 0) (.int .i64 0) (.int .i64 0)
     have s0 := BS.cell 0; have s1 := BS.cell 1; have s2 := BS.cell 2
     simp only [List.getElem?_toArray, List.getElem?_cons_zero, List.getElem?_cons_succ] at s0 s1 s2
     refine bodyPost_ret (v := .tuple #[.agg #[.int .i64 0, .int .i64 0, .int .i64 0], .int .i64 4]) (by simp [results, Tryz.results64, go_sem, s0, s1, s2]) rfl ⟨rfl, mv_store_bel H8.out.2.2 (by rw [HN.out]; exact Nat.le_refl _) _ _ _⟩
    ·have hE1 : ¬ (E = 0) := hE0
     clear hm hE0
     go_wp2_with fail
     have BS := mv_store HBA.out (.int .i64 0) (.int .i64 0) (.int .i64 0)
     have s0 := BS.cell 0; have s1 := BS.cell 1; have s2 := BS.cell 2
     simp only [List.getElem?_toArray, List.getElem?_cons_zero, List.getElem?_cons_succ] at s0 s1 s2
     refine bodyPost_ret (v := .tuple #[.agg #[.int .i64 0, .int .i64 0, .int .i64 0], .int .i64 4]) (by simp [results, Tryz.results64, go_sem, s0, s1, s2]) rfl ⟨rfl, mv_store_bel H8.out.2.2 (by rw [HN.out]; exact Nat.le_refl _) _ _ _⟩
  ·have hk3 : ¬ ((2 : Int) < (K : Int)) := by omega
   have hd3 : decide ((2 : Int) < (K : Int)) = false := decide_eq_false hk3
   obtain rfl : rest = [] := by
    have h3 := HRR.out.2.2.1
    match rest, h3 with
    | a :: t, h => simp at h; omega
    | [], _ => rfl
   have hread : Hid (readL (wsL s) = some (pA, pB, 0)) := Lib.hid (by rw [← HRR.out.2.1, HAB.out.2.2, HAB.out.1, HAB.out.2.1]; rfl)
   have H7 : Hid (Blk w1 N #[.int .i64 0, .int .i64 0, .int .i64 0] 25 ∧ Blk w1 M #[.int .i64 pA, .int .i64 pB, .int .i64 0] 25 ∧ Below w.heap.size w w1) := Lib.hid ⟨H5.out.1, H5.out.2.2.1, H5.out.2.2.2⟩
   have BM := H7.out.2.1
   have d0 : w1.cell? ⟨M, 0, none⟩ = some (.int .i64 pA) := BM.cell 0
   have d1 : w1.cell? ⟨M, 1, none⟩ = some (.int .i64 pB) := BM.cell 1
   have d2 : w1.cell? ⟨M, 2, none⟩ = some (.int .i64 0) := BM.cell 2
   have l0 := BM.lt
   obtain ⟨pC, hpC⟩ : ∃ x : Int, x = 0 := ⟨_, rfl⟩
   have HWR := Lib.hid fun W => Write_n (w := W) pA pB 0
   obtain ⟨T, hT⟩ : ∃ T, T = wrI (pA, pB, 0) := ⟨_, rfl⟩
   obtain ⟨E, hE⟩ : ∃ E, E = wrE (pA, pB, 0) := ⟨_, rfl⟩
   rw [← hT, ← hE] at HWR
   replace HWR : Hid (∀ W, Calls Tryz.prog 62 #[.agg #[.int .i64 pA, .int .i64 pB, .int .i64 pC]] W fun e w' => e = .returned (.tuple #[bsV T, .int .i64 E]) ∧ Below W.heap.size W w') := Lib.hid (by rw [hpC]; exact HWR.out)
   replace hT : T = wrI (pA, pB, pC) := by rw [hpC]; exact hT
   replace hE : E = wrE (pA, pB, pC) := by rw [hpC]; exact hE
   replace hread : Hid (readL (wsL s) = some (pA, pB, pC)) := Lib.hid (by rw [hpC]; exact hread.out)
   replace H7 : Hid (Blk w1 N #[.int .i64 0, .int .i64 0, .int .i64 0] 25 ∧ Blk w1 M #[.int .i64 pA, .int .i64 pB, .int .i64 pC] 25 ∧ Below w.heap.size w w1) := Lib.hid (by rw [hpC]; exact H7.out)
   replace d2 : w1.cell? ⟨M, 2, none⟩ = some (.int .i64 pC) := by rw [hpC]; exact d2
   have HpC := Lib.hid hpC
   have HTE := Lib.hid (And.intro hT hE)
   clear BM hT hE H5 hpC
   go_wp2_with fail
   refine (HWR.out _).mono ?_
   rintro e w7 ⟨rfl, hb7⟩
   have H8 : Hid (Blk w7 N #[.int .i64 0, .int .i64 0, .int .i64 0] 25 ∧ Blk w7 M #[.int .i64 pA, .int .i64 pB, .int .i64 pC] 25 ∧ Below w.heap.size w w7) := Lib.hid ⟨H7.out.1.grow hb7, H7.out.2.1.grow hb7, bel_trans H7.out.2.2 hb7⟩
   have HRf := Lib.hid (HRR.out.1.trans (rdM_cases hread.out))
   clear hb7 H7 d0 d1 d2 l0
   unfold bsV
   have BA := H8.out.1
   have d0 := BA.cell 0; have d1 := BA.cell 1; have d2 := BA.cell 2; have f0 := BA.free 0; have f1 := BA.free 1; have f2' := BA.free 2; have l0 := BA.lt
   have BX := H8.out.2.1
   have x0 := BX.cell 0; have x1 := BX.cell 1; have x2 := BX.cell 2; have lx := BX.lt
   simp only [List.getElem?_toArray, List.getElem?_cons_zero, List.getElem?_cons_succ] at d0 d1 d2 x0 x1 x2
   have HBA := Lib.hid BA; clear BA BX
   by_cases hm : E = 0 ∧ T = s
   ·obtain ⟨rfl, rfl⟩ := hm
    have hRx : R = some (pA, pB, pC) := by rw [HRf.out, if_pos ⟨HTE.out.2.symm, HTE.out.1.symm⟩]
    subst hRx
    go_wp2_with fail
    have BS := mv_store HBA.out (.int .i64 pA) (.int .i64 pB) (.int .i64 pC)
    have s0 := BS.cell 0; have s1 := BS.cell 1; have s2 := BS.cell 2
    simp only [List.getElem?_toArray, List.getElem?_cons_zero, List.getElem?_cons_succ] at s0 s1 s2
    refine bodyPost_ret (v := .tuple #[.agg #[.int .i64 pA, .int .i64 pB, .int .i64 pC], .int .i64 0]) (by simp [results, Tryz.results64, go_sem, s0, s1, s2]) rfl ⟨rfl, mv_store_bel H8.out.2.2 (by rw [HN.out]; exact Nat.le_refl _) _ _ _⟩
   ·have hRx : R = none := by rw [HRf.out, if_neg (fun h => hm ⟨HTE.out.2.trans h.1, HTE.out.1.trans h.2⟩)]
    subst hRx
    by_cases hE0 : E = 0
    ·subst hE0
     have hTs : ¬ (T = s) := fun h => hm ⟨rfl, h⟩
     have hbs : (T == s) = false := by rw [beq_eq_false_iff_ne]; exact hTs
     clear hm
     go_wp2_with fail
     have BS := mv_store HBA.out (.int .i64 0) (.int .i64 0) (.int .i64 0)
     have s0 := BS.cell 0; have s1 := BS.cell 1; have s2 := BS.cell 2
     simp only [List.getElem?_toArray, List.getElem?_cons_zero, List.getElem?_cons_succ] at s0 s1 s2
     refine bodyPost_ret (v := .tuple #[.agg #[.int .i64 0, .int .i64 0, .int .i64 0], .int .i64 4]) (by simp [results, Tryz.results64, go_sem, s0, s1, s2]) rfl ⟨rfl, mv_store_bel H8.out.2.2 (by rw [HN.out]; exact Nat.le_refl _) _ _ _⟩
    ·have hE1 : ¬ (E = 0) := hE0
     clear hm hE0
     go_wp2_with fail
     have BS := mv_store HBA.out (.int .i64 0) (.int .i64 0) (.int .i64 0)
     have s0 := BS.cell 0; have s1 := BS.cell 1; have s2 := BS.cell 2
     simp only [List.getElem?_toArray, List.getElem?_cons_zero, List.getElem?_cons_succ] at s0 s1 s2
     refine bodyPost_ret (v := .tuple #[.agg #[.int .i64 0, .int .i64 0, .int .i64 0], .int .i64 4]) (by simp [results, Tryz.results64, go_sem, s0, s1, s2]) rfl ⟨rfl, mv_store_bel H8.out.2.2 (by rw [HN.out]; exact Nat.le_refl _) _ _ _⟩
end Go.Proofs.YtlbhjikkpbknnaaGreatDoor
end
