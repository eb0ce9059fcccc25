import Derived.Test.YtlbhjikkpbknnaaGreatDoorHL1
import Derived.Test.YtlbhjikkpbknnaaGreatDoorHDt1
/-
  Given contracts of functions of the program, and laws for them, one behind the other.
-/
set_option linter.unusedVariables false
set_option linter.unusedSimpArgs false
set_option linter.unusedSectionVars false
section
namespace Go.Draw
set_option maxRecDepth 10000
/-! the reference's Orders: sums over the sets that are not yet done -/
def wsum (f : Nat → Nat) (ws : List Nat) (l : List Nat) : Nat := (l.map fun S => ws.getD S 0 * f S).sum
theorem getD_set (ws : List Nat) (t v S : Nat) (ht : t < ws.length) : (ws.set t v).getD S 0 = if S = t then v else ws.getD S 0 := by
 simp only [List.getD_eq_getElem?_getD, List.getElem?_set]
 by_cases e : t = S
 ·subst e; simp [ht]
 ·rw [if_neg e, if_neg (fun h => e h.symm)]
theorem wsum_out (f : Nat → Nat) (ws : List Nat) {t v : Nat} (ht : t < ws.length) : ∀ l : List Nat, t ∉ l → wsum f (ws.set t v) l = wsum f ws l
 | [], _ => rfl
 | S :: l, h => by
  have ih := wsum_out f ws (v := v) ht l (fun h1 => h (by simp [h1]))
  unfold wsum at *
  rw [List.map_cons, List.sum_cons, List.map_cons, List.sum_cons, ih, getD_set _ _ _ _ ht, if_neg (fun e => h (by simp [e]))]
theorem wsum_set (f : Nat → Nat) (ws : List Nat) {t w : Nat} (ht : t < ws.length) : ∀ l : List Nat, l.Nodup → t ∈ l → wsum f (ws.set t (ws.getD t 0 + w)) l = wsum f ws l + w * f t
 | [], _, h => by cases h
 | S :: l, hn, h => by
  rw [List.nodup_cons] at hn
  by_cases e : S = t
  ·subst e
   have := wsum_out f ws (v := ws.getD S 0 + w) ht l hn.1
   unfold wsum at *
   rw [List.map_cons, List.sum_cons, List.map_cons, List.sum_cons, this, getD_set _ _ _ _ ht, if_pos rfl, Nat.add_mul]
   omega
  ·have htl : t ∈ l := by
    rcases List.mem_cons.1 h with h | h
    ·exact absurd h.symm e
    ·exact h
   have ih := wsum_set f ws (w := w) ht l hn.2 htl
   unfold wsum at *
   rw [List.map_cons, List.sum_cons, List.map_cons, List.sum_cons, ih, getD_set _ _ _ _ ht, if_neg e]
   omega
theorem wsum_ge (f : Nat → Nat) (ws : List Nat) {t : Nat} (h1 : 1 ≤ f t) : ∀ l : List Nat, t ∈ l → ws.getD t 0 ≤ wsum f ws l
 | [], h => by cases h
 | S :: l, h => by
  unfold wsum
  rw [List.map_cons, List.sum_cons]
  rcases List.mem_cons.1 h with rfl | h
  ·have := Nat.le_mul_of_pos_right (ws.getD t 0) h1
   omega
  ·have := wsum_ge f ws h1 l h
   unfold wsum at this
   omega
/-- a set's numbers added to those of the sets behind it; no cap is reached -/
theorem fold_sum (U : Nat → Nat) (hU : ∀ S, 1 ≤ U S) (w : Nat) {l : List Nat} (hl : l.Nodup) (k : Nat) : ∀ (ps : List Nat) (ws : List Nat), (∀ p ∈ ps, k ||| 2 ^ p ∈ l ∧ k ||| 2 ^ p < ws.length) → wsum U ws l + w * (ps.map fun p => U (k ||| 2 ^ p)).sum ≤ 1000000000 →
  (ps.foldl (fun ws p => ws.set (k ||| 2 ^ p) (min (ws.getD (k ||| 2 ^ p) 0 + w) 1000000000)) ws).length = ws.length ∧
  ∀ f : Nat → Nat, wsum f (ps.foldl (fun ws p => ws.set (k ||| 2 ^ p) (min (ws.getD (k ||| 2 ^ p) 0 + w) 1000000000)) ws) l = wsum f ws l + w * (ps.map fun p => f (k ||| 2 ^ p)).sum
 | [], ws, _, _ => ⟨rfl, fun f => by simp⟩
 | p :: ps, ws, h, hb => by
  obtain ⟨h1, h2⟩ := h p (by simp)
  rw [List.map_cons, List.sum_cons, Nat.mul_add] at hb
  have hs := wsum_set U ws (w := w) h2 l hl h1
  have hge := wsum_ge U (ws.set (k ||| 2 ^ p) (ws.getD (k ||| 2 ^ p) 0 + w)) (hU (k ||| 2 ^ p)) l h1
  rw [getD_set _ _ _ _ h2, if_pos rfl] at hge
  have hmin : min (ws.getD (k ||| 2 ^ p) 0 + w) 1000000000 = ws.getD (k ||| 2 ^ p) 0 + w := Nat.min_eq_left (by omega)
  rw [List.foldl_cons, hmin]
  obtain ⟨g1, g2⟩ := fold_sum U hU w hl k ps (ws.set (k ||| 2 ^ p) (ws.getD (k ||| 2 ^ p) 0 + w)) (fun q hq => by rw [List.length_set]; exact h q (by simp [hq])) (by omega)
  refine ⟨by rw [g1, List.length_set], fun f => ?_⟩
  rw [g2 f, wsum_set f ws h2 l hl h1, List.map_cons, List.sum_cons, Nat.mul_add]
  omega
end Go.Draw
end
section
namespace Go.Draw
set_option maxRecDepth 10000
/-! the reference's Orders is the program's -/
def fac : Nat → Nat
 | 0 => 1
 | n + 1 => (n + 1) * fac n
theorem fac_pos : ∀ n, 1 ≤ fac n
 | 0 => Nat.le_refl _
 | n + 1 => Nat.mul_le_mul (show 1 ≤ n + 1 by omega) (fac_pos n)
/-- in how many sequences the pieces that have not gone can go; n of them are left -/
def cntR (m : List Sol) : Nat → U → Nat
 | 0, _ => 1
 | n + 1, G => ((listU (readyM m G)).map fun p => cntR m n (G ||| bit p)).sum
def Bf (m : List Sol) (k : Nat) : Nat := cntR m (m.length - cardU (BitVec.ofNat 64 k)) (BitVec.ofNat 64 k)
def Uf (m : List Sol) (k : Nat) : Nat := fac (m.length - cardU (BitVec.ofNat 64 k))
theorem ofNat_or (k p : Nat) (hp : p < 64) : BitVec.ofNat 64 (k ||| 2 ^ p) = BitVec.ofNat 64 k ||| bit p := by
 apply BitVec.eq_of_getLsbD_eq
 intro i hi
 rw [BitVec.getLsbD_or, BitVec.getLsbD_ofNat, BitVec.getLsbD_ofNat, bit_bit _ _ hp, Nat.testBit_or, Nat.testBit_two_pow]
 simp only [hi, decide_true, Bool.true_and]
 congr 1
 by_cases e : i = p
 ·subst e; simp
 ·simp [e, show ¬ p = i by omega]
theorem card_bit {G : U} {p : Nat} (hp : p < 64) (h : G.getLsbD p = false) : cardU (G ||| bit p) = cardU G + 1 := by
 have hn : (listU G ++ [p]).Nodup := by
  rw [List.nodup_append]
  refine ⟨listU_nodup G, by simp, fun a ha b hb => ?_⟩
  rw [List.mem_singleton.1 hb]
  rintro rfl
  rw [(listU_mem _ _).1 ha] at h; cases h
 have := setF_len hn (fun i hi => (List.mem_append.1 hi).elim (fun h => BitVec.lt_of_getLsbD ((listU_mem _ _).1 h)) (fun h => by rw [List.mem_singleton.1 h]; exact hp))
 rw [setF_snoc, setF_list] at this
 rw [← this]
 simp [cardU]
theorem card_ready {m : List Sol} (hm : m.length ≤ 12) {G : U} (hG : Sub G (allU m.length)) : (listU (readyM m G)).length + cardU G ≤ m.length := by
 have h64 : ∀ (S : U), ∀ i ∈ listU S, i < 64 := fun S i hi => BitVec.lt_of_getLsbD ((listU_mem _ _).1 hi)
 have hn : (listU G ++ listU (readyM m G)).Nodup := by
  rw [List.nodup_append]
  refine ⟨listU_nodup G, listU_nodup _, fun a ha b hb => ?_⟩
  rintro rfl
  have h1 := (listU_mem _ _).1 ha
  have h2 := (listU_mem _ _).1 hb
  rw [ready_bit m (by omega), h1] at h2
  simp at h2
 have h := setF_len hn (fun i hi => (List.mem_append.1 hi).elim (h64 _ i) (h64 _ i))
 rw [setF_append (h64 _) (h64 _), setF_list, setF_list, List.length_append] at h
 have h2 := sub_card (or_sub.2 ⟨hG, ready_all' hm G⟩ : Sub (G ||| readyM m G) (allU m.length))
 rw [card_all _ hm] at h2
 show (listU (readyM m G)).length + (listU G).length ≤ _
 omega
theorem sum_const (c : Nat) : ∀ l : List Nat, (l.map fun _ => c).sum = l.length * c
 | [] => by simp
 | x :: l => by rw [List.map_cons, List.sum_cons, sum_const c l, List.length_cons, Nat.add_mul]; omega
theorem step_facts {m : List Sol} (hm : m.length ≤ 12) {k : Nat} (hk : k < 2 ^ m.length - 1) :
  (∀ p ∈ listU (readyM m (BitVec.ofNat 64 k)), p < m.length ∧ k.testBit p = false) ∧ ((listU (readyM m (BitVec.ofNat 64 k))).map fun p => Bf m (k ||| 2 ^ p)).sum = Bf m k ∧ ((listU (readyM m (BitVec.ofNat 64 k))).map fun p => Uf m (k ||| 2 ^ p)).sum ≤ Uf m k := by
 have hp : 2 ^ m.length ≤ 4096 := Nat.le_trans (Nat.pow_le_pow_right (by omega) hm) (by decide)
 have e : (BitVec.ofNat 64 k).toNat = k := by rw [BitVec.toNat_ofNat]; omega
 have hG : Sub (BitVec.ofNat 64 k) (allU m.length) := (sub_lt hm _).2 (by rw [e]; omega)
 have hc : cardU (BitVec.ofNat 64 k) < m.length := by
  apply Classical.byContradiction
  intro h
  have h2 := sub_card_eq hG (by rw [card_all _ hm]; omega)
  have h3 := (sub_lt hm (allU m.length)).1 (Sub.refl _)
  have h4 : BitVec.ofNat 64 (2 ^ m.length - 1) = allU m.length := (by decide +kernel : ∀ n, n ≤ 12 → BitVec.ofNat 64 (2 ^ n - 1) = allU n) _ hm
  have := congrArg BitVec.toNat (h2.trans h4.symm)
  rw [e, BitVec.toNat_ofNat] at this
  omega
 have hmem : ∀ p ∈ listU (readyM m (BitVec.ofNat 64 k)), p < m.length ∧ (BitVec.ofNat 64 k).getLsbD p = false := fun p hp => by
  have h := (listU_mem _ _).1 hp
  rw [ready_bit m (by omega), Bool.and_eq_true, Bool.and_eq_true, decide_eq_true_eq] at h
  exact ⟨h.1.1, by simpa using h.2⟩
 obtain ⟨j, hj⟩ : ∃ j, m.length - cardU (BitVec.ofNat 64 k) = j + 1 := ⟨m.length - cardU (BitVec.ofNat 64 k) - 1, by omega⟩
 have hcard : ∀ p ∈ listU (readyM m (BitVec.ofNat 64 k)), BitVec.ofNat 64 (k ||| 2 ^ p) = BitVec.ofNat 64 k ||| bit p ∧ m.length - cardU (BitVec.ofNat 64 k ||| bit p) = j := fun p hp => by
  obtain ⟨h1, h2⟩ := hmem p hp
  refine ⟨ofNat_or k p (by omega), ?_⟩
  rw [card_bit (by omega) h2]
  omega
 refine ⟨fun p hp => ?_, ?_, ?_⟩
 ·obtain ⟨h1, h2⟩ := hmem p hp
  refine ⟨h1, ?_⟩
  rw [BitVec.getLsbD_ofNat] at h2
  simpa [show p < 64 by omega] using h2
 ·have hB : Bf m k = ((listU (readyM m (BitVec.ofNat 64 k))).map fun p => cntR m j (BitVec.ofNat 64 k ||| bit p)).sum := by unfold Bf; rw [hj]; rfl
  rw [hB]
  congr 1
  refine List.map_congr_left fun p hp => ?_
  obtain ⟨h1, h2⟩ := hcard p hp
  unfold Bf
  rw [h1, h2]
 ·have : ((listU (readyM m (BitVec.ofNat 64 k))).map fun p => Uf m (k ||| 2 ^ p)) = (listU (readyM m (BitVec.ofNat 64 k))).map fun _ => fac j := by
   refine List.map_congr_left fun p hp => ?_
   obtain ⟨h1, h2⟩ := hcard p hp
   unfold Uf
   rw [h1, h2]
  rw [this, sum_const]
  unfold Uf
  rw [hj]
  have := card_ready hm hG
  exact Nat.mul_le_mul_right (fac j) (by omega)
theorem or_gt {k p : Nat} (h : k.testBit p = false) : k < k ||| 2 ^ p := by
 have h1 : k ≤ k ||| 2 ^ p := Nat.left_le_or
 have h2 : k ≠ k ||| 2 ^ p := fun e => by
  have := congrArg (fun z => z.testBit p) e
  simp only [Nat.testBit_or, Nat.testBit_two_pow_self, Bool.or_true] at this
  rw [h] at this; cases this
 omega
theorem ways_inv {m : List Sol} (hm : m.length ≤ 12) : ∀ k, k ≤ 2 ^ m.length - 1 → ((List.range k).foldl (addWays m) ((List.replicate (2 ^ m.length) 0).set 0 1)).length = 2 ^ m.length ∧
  wsum (Bf m) ((List.range k).foldl (addWays m) ((List.replicate (2 ^ m.length) 0).set 0 1)) (List.range' k (2 ^ m.length - k)) = Bf m 0 ∧
  wsum (Uf m) ((List.range k).foldl (addWays m) ((List.replicate (2 ^ m.length) 0).set 0 1)) (List.range' k (2 ^ m.length - k)) ≤ fac m.length
 | 0, _ => by
  have hpos : 0 < 2 ^ m.length := Nat.pow_pos (by omega)
  have hz : ∀ (f : Nat → Nat) (l : List Nat), wsum f (List.replicate (2 ^ m.length) 0) l = 0 := fun f l => by
   unfold wsum
   have : (l.map fun S => (List.replicate (2 ^ m.length) 0).getD S 0 * f S) = l.map fun _ => 0 := by
    refine List.map_congr_left fun S _ => ?_
    simp only [List.getD_eq_getElem?_getD, List.getElem?_replicate]
    split <;> simp
   rw [this, sum_const]; simp
  have h0 : ∀ f : Nat → Nat, wsum f ((List.replicate (2 ^ m.length) 0).set 0 1) (List.range' 0 (2 ^ m.length)) = f 0 := fun f => by
   have := wsum_set f (List.replicate (2 ^ m.length) 0) (t := 0) (w := 1) (by simpa using hpos) (List.range' 0 (2 ^ m.length)) (List.nodup_range') (by rw [List.mem_range'_1]; omega)
   rw [hz] at this
   have hg : (List.replicate (2 ^ m.length) 0).getD 0 0 = 0 := by
    simp only [List.getD_eq_getElem?_getD, List.getElem?_replicate]
    split <;> rfl
   rw [hg] at this
   rw [this]; omega
  refine ⟨by simp, ?_, ?_⟩
  ·exact h0 (Bf m)
  ·show wsum (Uf m) ((List.replicate (2 ^ m.length) 0).set 0 1) (List.range' 0 (2 ^ m.length)) ≤ _
   rw [h0]
   unfold Uf
   rw [show cardU (BitVec.ofNat 64 0) = 0 by decide]
   exact Nat.le_refl _
 | k + 1, hk => by
  obtain ⟨h1, h2, h3⟩ := ways_inv hm k (by omega)
  rw [List.range_succ, List.foldl_append, List.foldl_cons, List.foldl_nil]
  generalize (List.range k).foldl (addWays m) ((List.replicate (2 ^ m.length) 0).set 0 1) = ws at h1 h2 h3 ⊢
  have hsp : ∀ f : Nat → Nat, wsum f ws (List.range' k (2 ^ m.length - k)) = ws.getD k 0 * f k + wsum f ws (List.range' (k + 1) (2 ^ m.length - (k + 1))) := fun f => by
   rw [show 2 ^ m.length - k = (2 ^ m.length - (k + 1)) + 1 by omega, List.range'_succ]
   unfold wsum
   rw [List.map_cons, List.sum_cons]
  rw [hsp] at h2 h3
  obtain ⟨s1, s2, s3⟩ := step_facts hm (by omega : k < 2 ^ m.length - 1)
  unfold addWays
  by_cases h0 : ws.getD k 0 = 0
  ·rw [if_pos h0]
   rw [h0] at h2 h3
   exact ⟨h1, by omega, by omega⟩
  ·rw [if_neg h0]
   have hfac : fac m.length ≤ 1000000000 := (by decide : ∀ n, n ≤ 12 → fac n ≤ 1000000000) _ hm
   have hmulU := Nat.mul_le_mul_left (ws.getD k 0) s3
   obtain ⟨g1, g2⟩ := fold_sum (Uf m) (fun S => fac_pos _) (ws.getD k 0) (List.nodup_range' (s := k + 1) (n := 2 ^ m.length - (k + 1))) k (listU (readyM m (BitVec.ofNat 64 k))) ws (fun p hp => by
    obtain ⟨q1, q2⟩ := s1 p hp
    have q3 := or_gt q2
    have q4 : k ||| 2 ^ p < 2 ^ m.length := Nat.or_lt_two_pow (by omega) (Nat.pow_lt_pow_right (by omega) q1)
    rw [List.mem_range'_1, h1]
    omega) (by omega)
   refine ⟨by rw [g1, h1], ?_, ?_⟩
   ·rw [g2 (Bf m), s2]; omega
   ·rw [g2 (Uf m)]; omega
theorem orders_ref {m : List Sol} (hm : m.length ≤ 12) : ordersM m = cntR m m.length 0 := by
 have hpos : 0 < 2 ^ m.length := Nat.pow_pos (by omega)
 obtain ⟨h1, h2, _⟩ := ways_inv hm (2 ^ m.length - 1) (Nat.le_refl _)
 unfold ordersM
 rw [show 2 ^ m.length - (2 ^ m.length - 1) = 1 by omega] at h2
 have h4 : BitVec.ofNat 64 (2 ^ m.length - 1) = allU m.length := (by decide +kernel : ∀ n, n ≤ 12 → BitVec.ofNat 64 (2 ^ n - 1) = allU n) _ hm
 have hb : Bf m (2 ^ m.length - 1) = 1 := by unfold Bf; rw [h4, card_all _ hm, Nat.sub_self]; rfl
 have h0 : Bf m 0 = cntR m m.length 0 := by
  unfold Bf
  rw [show cardU (BitVec.ofNat 64 0) = 0 by decide]; rfl
 rw [← h0, ← h2]
 unfold wsum
 simp [hb]
end Go.Draw
end
section
namespace Go.Draw
set_option maxRecDepth 10000
/-! Quick: a shortest order that ends with a piece -/
theorem madeF_len {m : List Sol} (hm : m.length ≤ 12) : ∀ (l : List MvI) (g G : U), madeF m l g = some G → cardU G = cardU g + l.length
 | [], g, G, h => by cases h; rfl
 | x :: l, g, G, h => by
  unfold madeF at h
  split at h
  ·rename_i hg
   obtain ⟨h1, h2, h3, _⟩ := goesI_can hg
   have := madeF_len hm l _ G h
   rw [this, card_bit (by omega) h3, List.length_cons]
   omega
  ·cases h
theorem path_last {m : List Sol} (hm : m.length ≤ 12) {p : Nat} {S : U} (hS : S ∈ pathsM m p) : Fe (canM m) (S &&& ~~~(bit p)) ∧ canM m p (S &&& ~~~(bit p)) = true ∧ (S &&& ~~~(bit p)) ||| bit p = S := by
 obtain ⟨h1, h2, h3⟩ := paths_mem hm hS
 have key : ∀ T, Fe (canM m) T → T = S → Fe (canM m) (S &&& ~~~(bit p)) ∧ canM m p (S &&& ~~~(bit p)) = true ∧ (S &&& ~~~(bit p)) ||| bit p = S := by
  intro T hT he
  cases hT with
  | zero => rw [← he] at h2; simp at h2
  | @add G q hG hq hqG hc =>
   by_cases e : q = p
   ·subst e
    have eG : S &&& ~~~(bit q) = G := by
     apply BitVec.eq_of_getLsbD_eq
     intro i _
     rw [andnot_bit, ← he, or_bit _ _ _ hq, bit_bit _ _ hq]
     by_cases hi : i = q
     ·subst hi; rw [hqG]; simp
     ·simp [hi]
    rw [eG]
    exact ⟨hG, hc, he⟩
   ·have hGS : Sub G S := by rw [← he]; exact sub_or_left _ _
    have hpG : G.getLsbD p = true := by
     rw [← he, or_bit _ _ _ hq] at h2
     have : ¬ p = q := fun h => e h.symm
     simpa [this] using h2
    obtain ⟨l, hl, hls⟩ := paths_below hm (hGS.trans h1) hpG hG
    have := paths_anti l hl S hS (hls.trans hGS)
    subst this
    have hq2 : l.getLsbD q = true := by rw [← he, or_bit _ _ _ hq]; simp
    rw [hls q hq2] at hqG; cases hqG
 exact key S h3 rfl
theorem quick_law {m : List Sol} (hm : m.length ≤ 12) {p : Nat} (hp : p < m.length) {S : U} (hS : S ∈ pathsM m p) : ∃ out x, orderM m (S &&& ~~~(bit p)) = some out ∧ goesM m p (S &&& ~~~(bit p)) = some x ∧ madeM m ((out ++ [x]).map intMv) = some S ∧ (out ++ [x]).length = (listU S).length ∧ x.1 = p := by
 obtain ⟨h1, h2, h3⟩ := path_last hm hS
 obtain ⟨k1, _, _⟩ := paths_mem hm hS
 have hsub : Sub (S &&& ~~~(bit p)) (allU m.length) := (sub_andnot _ _).trans k1
 have hf := (first_iff m hm _ hsub).2 h1
 unfold firstM at hf
 obtain ⟨out, hout⟩ := Option.isSome_iff_exists.1 hf
 unfold canM at h2
 obtain ⟨x, hx⟩ := Option.isSome_iff_exists.1 h2
 have hbit : (S &&& ~~~(bit p)).getLsbD p = false := by
  rw [andnot_bit, bit_bit _ _ (by omega)]; simp
 obtain ⟨g1, g2⟩ := goes_I hx hp hbit
 have hm1 := order_made hm hsub hout
 have hmade : madeM m ((out ++ [x]).map intMv) = some S := by
  unfold madeM at hm1 ⊢
  rw [List.map_append, madeF_append, hm1]
  show (if goesI m (intMv x) (S &&& ~~~(bit p)) = true then some ((S &&& ~~~(bit p)) ||| bit (intMv x).1.toNat) else none) = _
  rw [if_pos g2]
  have : (intMv x).1.toNat = p := by simp [intMv, g1]
  rw [this, h3]
 refine ⟨out, x, hout, hx, hmade, ?_, g1⟩
 have := madeF_len hm _ 0 S hmade
 rw [List.length_map] at this
 have h0 : cardU (0 : U) = 0 := by decide
 rw [h0] at this
 show _ = cardU S
 omega
end Go.Draw
end
section
namespace Go.Proofs.YtlbhjikkpbknnaaGreatDoor
open Go.RowKit Go.Rel Go.Draw
set_option maxRecDepth 100000
/-! the reference's cells: has, shift, IsMove -/
theorem wrapXY {x y : Nat} (hx : x ≤ 7) (hy : y ≤ 7) : IntKind.i64.wrap (IntKind.i64.wrap (8 * (y : Int)) + (x : Int)) = ((8 * y + x : Nat) : Int) := by
 have e1 : IntKind.i64.wrap (8 * (y : Int)) = 8 * (y : Int) := (Go.IntWalk.i64_left _).trans (Go.IntWalk.wrap64_in _ (by omega))
 have e2 : IntKind.i64.wrap (8 * (y : Int) + (x : Int)) = 8 * (y : Int) + (x : Int) := (Go.IntWalk.i64_left _).trans (Go.IntWalk.wrap64_in _ (by omega))
 rw [e1, e2]; omega
theorem has_at (s : Sol) {x y z : Nat} (hx : x ≤ 7) (hy : y ≤ 7) (hz : z ≤ 7) : has s x y z = s.getLsbD (64 * z + (8 * y + x)) := by
 unfold has
 rw [decide_eq_true (by omega), Bool.true_and]
 congr 1; omega
theorem has_off (s : Sol) {x y z : Int} (h : ¬ (0 ≤ x ∧ x ≤ 7 ∧ 0 ≤ y ∧ y ≤ 7 ∧ 0 ≤ z ∧ z ≤ 7)) : has s x y z = false := has_out s x y z h
set_option maxHeartbeats 8000000 in
theorem has_spec {w : World} {s : Sol} (x y z : Int) : Calls Tryz.prog 126 #[solV s, .int .i64 x, .int .i64 y, .int .i64 z] w fun e w' => e = .returned (.bool (has s x y z)) ∧ Below w.heap.size w w' := by
 by_cases h : 0 ≤ x ∧ x ≤ 7 ∧ 0 ≤ y ∧ y ≤ 7 ∧ 0 ≤ z ∧ z ≤ 7
 ·obtain ⟨h1, h2, h3, h4, h5, h6⟩ := h
  obtain ⟨x, rfl⟩ : ∃ n : Nat, x = n := ⟨x.toNat, by omega⟩
  obtain ⟨y, rfl⟩ : ∃ n : Nat, y = n := ⟨y.toNat, by omega⟩
  obtain ⟨z, rfl⟩ : ∃ n : Nat, z = n := ⟨z.toNat, by omega⟩
  have hx : x ≤ 7 := by omega
  have hy : y ≤ 7 := by omega
  have hz : z ≤ 7 := by omega
  have d1 : decide ((x : Int) < 0) = false := decide_eq_false (by omega)
  have d2 : decide ((7 : Int) < (x : Int)) = false := decide_eq_false (by omega)
  have d3 : decide ((y : Int) < 0) = false := decide_eq_false (by omega)
  have d4 : decide ((7 : Int) < (y : Int)) = false := decide_eq_false (by omega)
  have d5 : decide ((z : Int) < 0) = false := decide_eq_false (by omega)
  have d6 : decide ((7 : Int) < (z : Int)) = false := decide_eq_false (by omega)
  have hz8 : (z : Int) < 8 := by omega
  have hw := wrapXY hx hy
  have hT := bitAt1_u (plv s z) (8 * y + x)
  rw [plv_bit _ _ _ (by omega)] at hT
  have HT := Lib.hid hT
  have b1 : Blk (w.alloc (.cells #[.int .u64 (pl s 0), .int .u64 (pl s 1), .int .u64 (pl s 2), .int .u64 (pl s 3), .int .u64 (pl s 4), .int .u64 (pl s 5), .int .u64 (pl s 6), .int .u64 (pl s 7)] 64)) w.heap.size #[.int .u64 (pl s 0), .int .u64 (pl s 1), .int .u64 (pl s 2), .int .u64 (pl s 3), .int .u64 (pl s 4), .int .u64 (pl s 5), .int .u64 (pl s 6), .int .u64 (pl s 7)] 64 := Blk.new _ _ _
  have c1 := (b1.cell z).trans (arr8 s (by omega : z < 8))
  have em : min (8 * y + x) 64 = 8 * y + x := Nat.min_eq_left (by omega)
  have HR := Lib.hid (has_at s hx hy hz)
  clear hT b1 h1 h2 h3 h4 h5 h6 
  go_enter Tryz.func126, Tryz.ntmps126
  go_wp2_with fail
  go_ret
  exact ⟨ret_bool (by rw [HR.out, HT.out]), (by repeat (first | with_reducible exact bel_refl _ | with_reducible assumption | with_reducible refine bel_drewN ?_ _ | with_reducible refine bel_drew ?_ | with_reducible refine bel_alloc ?_ _ | with_reducible refine bel_row ?_ ?_ _ | with_reducible refine bel_set ?_ ?_ _ | refine bel_trans ?_ (by with_reducible assumption) | (simp; done) | (simp; omega)))⟩
 ·have HR := Lib.hid (has_off s h)
  go_enter Tryz.func126, Tryz.ntmps126
  go_wp2_with fail
  all_goals first
   | (exfalso; exact h (by omega))
   | (go_ret; exact ⟨ret_bool HR.out.symm, (by repeat (first | with_reducible exact bel_refl _ | with_reducible assumption | with_reducible refine bel_drewN ?_ _ | with_reducible refine bel_drew ?_ | with_reducible refine bel_alloc ?_ _ | with_reducible refine bel_row ?_ ?_ _ | with_reducible refine bel_set ?_ ?_ _ | refine bel_trans ?_ (by with_reducible assumption) | (simp; done) | (simp; omega)))⟩)
set_option maxHeartbeats 8000000 in
theorem IsMove_spec {w : World} (n : Nat) (a b c : Int) : Calls Tryz.prog 71 #[.int .i64 n, .agg #[.int .i64 a, .int .i64 b, .int .i64 c]] w fun e w' => e = .returned (.bool (decide (0 ≤ a) && decide (a < n) && isMoveI b c)) ∧ Below w.heap.size w w' := by
 go_enter Tryz.func71, Tryz.ntmps71
 go_wp2_with fail
 all_goals (go_ret; refine ⟨ret_bool ?_, (by repeat (first | with_reducible exact bel_refl _ | with_reducible assumption | with_reducible refine bel_drewN ?_ _ | with_reducible refine bel_drew ?_ | with_reducible refine bel_alloc ?_ _ | with_reducible refine bel_row ?_ ?_ _ | with_reducible refine bel_set ?_ ?_ _ | refine bel_trans ?_ (by with_reducible assumption) | (simp; done) | (simp; omega)))⟩; unfold isMoveI; rw [Bool.eq_iff_iff]; simp; first | omega | (simp only [beq_iff_eq, beq_eq_false_iff_ne] at *; first | omega | (intros; omega)))
end Go.Proofs.YtlbhjikkpbknnaaGreatDoor
end
section
namespace Go.Proofs.YtlbhjikkpbknnaaGreatDoor
open Go.RowKit Go.Rel Go.Draw
set_option maxRecDepth 100000
/-! the reference's lists: others, all, left -/
def othersI (n : Nat) (p : Int) : List Nat := (List.range n).filter fun i => decide ((i : Int) ≠ p)
theorem othersI_succ (n : Nat) (p : Int) : othersI (n + 1) p = othersI n p ++ (if (n : Int) = p then [] else [n]) := by
 unfold othersI
 rw [List.range_succ, List.filter_append]
 congr 1
 by_cases h : (n : Int) = p <;> simp [h]
theorem othersI_len (n : Nat) (p : Int) : (othersI n p).length ≤ n := by
 unfold othersI
 have := List.length_filter_le (fun i : Nat => decide ((i : Int) ≠ p)) (List.range n)
 simpa using this
theorem othersI_nat (n p : Nat) : othersI n p = othersL n p := by
 unfold othersI othersL
 congr 1; funext i
 by_cases h : i = p
 ·subst h; simp
 ·have : ¬ ((i : Int) = (p : Int)) := by omega
  simp [h, this]
theorem othersI_all (n : Nat) : othersI n (-1) = List.range n := by
 unfold othersI
 rw [List.filter_eq_self]
 intro i _; simp
set_option maxHeartbeats 4000000 in
theorem others_spec {w : World} (a : Option Addr) (n c : Nat) (p : Int) (hn : n ≤ 1000) : Calls Tryz.prog 85 #[.slice a n c, .int .i64 p] w fun e w' => Below w.heap.size w w' ∧ ∃ o, e = .returned o ∧ OwnI w' w.heap.size o (intsL (othersI n p)) := by
 obtain ⟨i0, hi, hz0, hz1, hz2⟩ := info_parts infoInt
 have HI0 := Lib.hid (And.intro hi (And.intro hz0 (And.intro hz1 hz2))); clear hi hz0 hz1 hz2
 go_enter Tryz.func85, Tryz.ntmps85
 go_wp2_with fail
 go_loopw [5, 6] (fun ov iv wx => ∃ (k : Nat), k ≤ n ∧ iv = .int .i64 k ∧ Hid (OwnI wx w.heap.size ov (intsL (othersI k p)) ∧ Below w.heap.size w wx)) (fun _ iv _ => n - (intOf iv).toNat)
 case atStart => exact ⟨0, by omega, rfl, Lib.hid ⟨World.ownsRow_nil _ _ _ _, Below.refl _ _⟩⟩
 case round =>
  obtain ⟨k, hk, rfl, HI⟩ := hrel
  by_cases hlt : k < n
  ·have hx := HI.out.1
   have hbs : w.heap.size ≤ wr.heap.size := HI.out.2.size
   obtain ⟨p6, n6, c6, hu6⟩ := own_shapeN hx
   subst hu6
   unfold OwnI at hx
   rw [intsL_length] at hx
   have hlen := othersI_len k p
   have HX := Lib.hid hx; clear hx
   by_cases hp : (k : Int) = p
   ·subst hp
    have HP := Lib.hid (rfl : (k : Int) = (k : Int))
    go_wp2_with fail
    refine ⟨⟨k + 1, by omega, by simp, Lib.hid ⟨?_, HI.out.2⟩⟩, by simp [intOf]; omega⟩
    rw [othersI_succ, if_pos HP.out, List.append_nil]
    exact HI.out.1
   ·have HP := Lib.hid hp
    go_wp2_with (first
     | (at_builtin; refine wpList_append_own _ rfl _ _ 23 rfl w.heap.size 3 i0 (.int .i64 0) 1 8 Tryz.underlying23 HI0.out.1 HI0.out.2.1 HI0.out.2.2.1 HI0.out.2.2.2 rfl (by decide) _ _ _ rfl (HX.out.alloc _) ⟨wr.heap.size, 0, none⟩ 1 1 [.int .i64 (k : Int)] rfl rfl (cell_one_new _ _ _) (fun x hx => by simp at hx; subst hx; rfl) (by unfold maxLen; omega) (by omega) (by simp; omega) ?_; intro v' w7 hown' hgrow7 hnil7))
    have hb7 : Below w.heap.size wr w7 := ((bel_alloc (bel_refl wr) (.cells #[.int .i64 (k : Int)] 3)).mono hbs).grown hgrow7 (by simp; omega) (fun j hj => ((HX.out.alloc (.cells #[.int .i64 (k : Int)] 3)).lt j hj).1)
    refine ⟨⟨k + 1, by omega, by simp, Lib.hid ⟨?_, HI.out.2.trans hb7⟩⟩, by simp [intOf]; omega⟩
    rw [othersI_succ, if_neg HP.out]
    unfold OwnI
    rw [intsL_length, List.length_append]
    unfold intsL at *
    rw [List.map_append, List.map_append]
    exact hown'
  ·obtain rfl : k = n := by omega
   go_wp2_with fail
   go_ret
   exact ⟨HI.out.2, _, rfl, HI.out.1⟩
theorem all_ref {w : World} (a : Option Addr) (n c : Nat) (hn : n ≤ 1000) : Calls Tryz.prog 83 #[.slice a n c] w fun e w' => Below w.heap.size w w' ∧ ∃ o, e = .returned o ∧ OwnI w' w.heap.size o (intsL (List.range n)) := by
 have HO := Lib.hid (others_spec (w := w) a n c (-1) hn)
 go_enter Tryz.func83, Tryz.ntmps83
 go_wp2_with fail
 refine HO.out.mono ?_
 rintro e w2 ⟨hb, o, rfl, ho⟩
 rw [othersI_all] at ho
 have HB := Lib.hid (And.intro hb ho); clear hb ho
 go_wp2_with fail
 go_ret
 exact ⟨HB.out.1, _, rfl, HB.out.2⟩
def leftI (n : Nat) (l : List Int) : List Nat := (List.range n).filter fun i => !l.contains (i : Int)
theorem leftI_succ (n : Nat) (l : List Int) : leftI (n + 1) l = leftI n l ++ (if l.contains (n : Int) then [] else [n]) := by
 unfold leftI
 rw [List.range_succ, List.filter_append]
 congr 1
 cases h : l.contains (n : Int) <;> simp only [List.filter_cons, List.filter_nil, h] <;> rfl
theorem leftI_len (n : Nat) (l : List Int) : (leftI n l).length ≤ n := by
 unfold leftI
 have := List.length_filter_le (fun i : Nat => !l.contains (i : Int)) (List.range n)
 simpa using this
set_option maxHeartbeats 4000000 in
theorem left_spec {w : World} (a : Option Addr) (n c : Nat) {v : Value} {l : List Int} (HL : SlI w v l) (hn : n ≤ 1000) : Calls Tryz.prog 98 #[.slice a n c, v] w fun e w' => Below w.heap.size w w' ∧ ∃ o, e = .returned o ∧ OwnI w' w.heap.size o (intsL (leftI n l)) := by
 obtain ⟨i0, hi, hz0, hz1, hz2⟩ := info_parts infoInt
 have HI0 := Lib.hid (And.intro hi (And.intro hz0 (And.intro hz1 hz2))); clear hi hz0 hz1 hz2
 have HH := Lib.hid HL
 clear HL
 go_enter Tryz.func98, Tryz.ntmps98
 go_wp2_with fail
 go_loopw [5, 6] (fun ov iv wx => ∃ (k : Nat), k ≤ n ∧ iv = .int .i64 k ∧ Hid (OwnI wx w.heap.size ov (intsL (leftI k l)) ∧ Below w.heap.size w wx)) (fun _ iv _ => n - (intOf iv).toNat)
 case atStart => exact ⟨0, by omega, rfl, Lib.hid ⟨World.ownsRow_nil _ _ _ _, Below.refl _ _⟩⟩
 case round =>
  obtain ⟨k, hk, rfl, HI⟩ := hrel
  by_cases hlt : k < n
  ·have H1 := Lib.hid (In_spec (k : Int) (HH.out.mono HI.out.2))
   have hx := HI.out.1
   have hbs : w.heap.size ≤ wr.heap.size := HI.out.2.size
   obtain ⟨p6, n6, c6, hu6⟩ := own_shapeN hx
   subst hu6
   unfold OwnI at hx
   rw [intsL_length] at hx
   have hlen := leftI_len k l
   have HX := Lib.hid hx; clear hx
   go_wp2_with fail
   refine H1.out.mono ?_
   rintro e w2 ⟨rfl, hw2⟩
   have hw3 := hw2.symm
   subst hw3
   clear hw2
   cases ha : l.contains (k : Int)
   ·have HA := Lib.hid ha; clear ha
    go_wp2_with (first
     | (at_builtin; refine wpList_append_own _ rfl _ _ 23 rfl w.heap.size 3 i0 (.int .i64 0) 1 8 Tryz.underlying23 HI0.out.1 HI0.out.2.1 HI0.out.2.2.1 HI0.out.2.2.2 rfl (by decide) _ _ _ rfl (HX.out.alloc _) ⟨wr.heap.size, 0, none⟩ 1 1 [.int .i64 (k : Int)] rfl rfl (cell_one_new _ _ _) (fun x hx => by simp at hx; subst hx; rfl) (by unfold maxLen; omega) (by omega) (by simp; omega) ?_; intro v' w7 hown' hgrow7 hnil7))
    have hb7 : Below w.heap.size wr w7 := ((bel_alloc (bel_refl wr) (.cells #[.int .i64 (k : Int)] 3)).mono hbs).grown hgrow7 (by simp; omega) (fun j hj => ((HX.out.alloc (.cells #[.int .i64 (k : Int)] 3)).lt j hj).1)
    refine ⟨⟨k + 1, by omega, by simp, Lib.hid ⟨?_, HI.out.2.trans hb7⟩⟩, by simp [intOf]; omega⟩
    rw [leftI_succ, HA.out, if_neg (by simp)]
    unfold OwnI
    rw [intsL_length, List.length_append]
    unfold intsL at *
    rw [List.map_append, List.map_append]
    exact hown'
   ·have HA := Lib.hid ha; clear ha
    go_wp2_with fail
    refine ⟨⟨k + 1, by omega, by simp, Lib.hid ⟨?_, HI.out.2⟩⟩, by simp [intOf]; omega⟩
    rw [leftI_succ, HA.out, if_pos rfl, List.append_nil]
    exact HI.out.1
  ·obtain rfl : k = n := by omega
   go_wp2_with fail
   go_ret
   exact ⟨HI.out.2, _, rfl, HI.out.1⟩
end Go.Proofs.YtlbhjikkpbknnaaGreatDoor
end
section
namespace Go.Proofs.YtlbhjikkpbknnaaGreatDoor
open Go.RowKit Go.Rel Go.Draw
set_option maxRecDepth 100000
/-! the reference's shift, piece -/
abbrev shV (dx dy up : Int) (on : Bool) : Value := .tuple #[.int .i64 dx, .int .i64 dy, .int .i64 up, .bool on]
set_option maxHeartbeats 8000000 in
theorem shift_core {w : World} (p : Int) (side far t : Nat) (hs : side ≤ 4) (hf : far ≤ 7) (ht : t ≤ 16) : Calls Tryz.prog 125 #[.agg #[.int .i64 p, .int .i64 (side : Int), .int .i64 (far : Int)], .int .i64 (t : Int)] w fun e w' => e = .returned (shV (dxS side * (min t far : Nat)) (dyS side * (min t far : Nat)) (t - min t far : Nat) (decide (t - min t far ≤ 8))) ∧ Below w.heap.size w w' := by
 obtain ⟨k, hk⟩ : ∃ k, k = min t far := ⟨_, rfl⟩
 have hk7 : k ≤ 7 := by omega
 have hkt : k ≤ t := by omega
 have hkI : min (t : Int) (far : Int) = (k : Int) := by omega
 have HK := Lib.hid hk
 clear hk
 obtain ⟨u, hu⟩ : ∃ u : Nat, u = t - k := ⟨_, rfl⟩
 have huI : (t : Int) - (k : Int) = (u : Int) := by omega
 have hu16 : u ≤ 16 := by omega
 rw [← HK.out, ← hu]
 clear hu
 obtain rfl | rfl | rfl | rfl | rfl : side = 0 ∨ side = 1 ∨ side = 2 ∨ side = 3 ∨ side = 4 := by omega
 all_goals
  go_enter Tryz.func125, Tryz.ntmps125
  go_wp2_with fail
 all_goals
  have HK' := HK.out
  refine bodyPost_ret (v := shV _ _ _ _) (by simp [results, Tryz.results125, go_sem]; exact ⟨rfl, rfl, rfl, rfl⟩) rfl ⟨?_, (by repeat (first | with_reducible exact bel_refl _ | with_reducible assumption | with_reducible refine bel_drewN ?_ _ | with_reducible refine bel_drew ?_ | with_reducible refine bel_alloc ?_ _ | with_reducible refine bel_row ?_ ?_ _ | with_reducible refine bel_set ?_ ?_ _ | refine bel_trans ?_ (by with_reducible assumption) | (simp; done) | (simp; omega)))⟩
  simp [dxS, dyS]
  try omega
set_option maxHeartbeats 4000000 in
theorem piece_spec {w : World} {v : Value} {m : List Sol} (H : SlS w v m) {n : Nat} (hn : n < 512) : Calls Tryz.prog 127 #[v, .int .i64 ((n % 8 : Nat) : Int), .int .i64 ((n / 8 % 8 : Nat) : Int), .int .i64 ((n / 64 : Nat) : Int)] w fun e w' => e = .returned (.int .i64 (pieceR m n)) ∧ Below w.heap.size w w' := by
 obtain ⟨ai, nn, c, rfl, hnn, hc, hcm⟩ := H.out
 subst hnn
 have HH := Lib.hid H
 clear H
 obtain ⟨x, hx⟩ : ∃ x : Nat, x = n % 8 := ⟨_, rfl⟩
 obtain ⟨y, hy⟩ : ∃ x : Nat, x = n / 8 % 8 := ⟨_, rfl⟩
 obtain ⟨z, hz⟩ : ∃ x : Nat, x = n / 64 := ⟨_, rfl⟩
 rw [← hx, ← hy, ← hz]
 have HX := Lib.hid (And.intro hx (And.intro hy (And.intro hz hn)))
 clear hx hy hz hn
 go_enter Tryz.func127, Tryz.ntmps127
 go_wp2_with fail
 go_loopw [9] (fun iv wx => ∃ (k : Nat), k ≤ m.length ∧ iv = .int .i64 k ∧ Hid ((List.range k).find? (fun i => (m.getD i 0).getLsbD n) = none ∧ Below w.heap.size w wx)) (fun iv _ => m.length - (intOf iv).toNat)
 case atStart => exact ⟨0, Nat.zero_le _, rfl, Lib.hid ⟨rfl, Below.refl _ _⟩⟩
 case round =>
  obtain ⟨k, hk, rfl, HI⟩ := hrel
  by_cases hlt : k < m.length
  ·obtain ⟨s, hs⟩ : ∃ x, m[k]? = some x := ⟨_, List.getElem?_eq_getElem hlt⟩
   obtain ⟨b, off, c1, he, _, _, hb, hcs⟩ := sol_at_piece HH.out hs
   obtain ⟨rfl, -, rfl⟩ : ai = some ⟨b, off, none⟩ ∧ True ∧ c = c1 := by
    simp only [Value.slice.injEq] at he; exact ⟨he.1, trivial, he.2.2⟩
   have hcells := sol_cells (hcs.mono HI.out.2 hb) hs
   have lb : b < wr.heap.size := Nat.lt_of_lt_of_le hb HI.out.2.size
   have HG := Lib.hid (show m.getD k 0 = s by simp [List.getD, hs])
   clear he hs hcs
   have HHAS := Lib.hid fun W => has_spec (w := W) (s := s) (x : Int) (y : Int) (z : Int)
   go_wp2_with fail
   refine (HHAS.out _).mono ?_
   rintro e w2 ⟨rfl, hb2⟩
   have HB2 := Lib.hid hb2; clear hb2
   have hbit : has s (x : Int) (y : Int) (z : Int) = (m.getD k 0).getLsbD n := by
    rw [HG.out, HX.out.1, HX.out.2.1, HX.out.2.2.1, has_bit s n HX.out.2.2.2]
   rw [hbit]
   cases hp : (m.getD k 0).getLsbD n
   ·have HP := Lib.hid hp; clear hp hbit
    go_wp2_with fail
    refine ⟨⟨k + 1, by omega, by simp, Lib.hid ⟨?_, HI.out.2.trans (HB2.out.mono HI.out.2.size)⟩⟩, by simp [intOf]; omega⟩
    rw [List.range_succ, List.find?_append, HI.out.1]
    have hf : (m.getD k 0).getLsbD n = false := HP.out
    simp only [List.find?_cons, List.find?_nil, hf]; rfl
   ·have HP := Lib.hid hp; clear hp hbit
    go_wp2_with fail
    go_ret
    refine ⟨?_, HI.out.2.trans (HB2.out.mono HI.out.2.size)⟩
    have hr : (List.range m.length).find? (fun i => (m.getD i 0).getLsbD n) = some k := by
     have hpre : List.range k ++ [k] <+: List.range m.length := by
      rw [← List.range_succ, show List.range (k + 1) = (List.range m.length).take (k + 1) by rw [List.take_range, Nat.min_eq_left (by omega)]]
      exact List.take_prefix _ _
     exact find_at _ hpre (by
      intro q hq
      have := List.find?_eq_none.1 HI.out.1 q hq
      simpa using this) HP.out
    have he : pieceR m n = (k : Int) := by unfold pieceR; rw [hr]
    rw [he]; rfl
  ·obtain rfl : k = m.length := by omega
   go_wp2_with fail
   go_ret
   refine ⟨?_, HI.out.2⟩
   have he : pieceR m n = -1 := by unfold pieceR; rw [HI.out.1]
   rw [he]; rfl
end Go.Proofs.YtlbhjikkpbknnaaGreatDoor
end
