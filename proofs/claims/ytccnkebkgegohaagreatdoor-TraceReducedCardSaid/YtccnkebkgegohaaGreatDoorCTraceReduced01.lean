import Derived.Test.YtccnkebkgegohaaGreatDoorCTraceReduced00
/-
  For every input that is opened, the statement TraceReduced returns true and the input reads as before; with the contracts and laws that this wants. No conditions beyond the row.
-/
set_option linter.unusedVariables false
set_option linter.unusedSimpArgs false
set_option linter.unusedSectionVars false
section
namespace Go.Proofs.YtccnkebkgegohaaGreatDoor
open Go Go.Tra
/-! acts that hang not together can change places, and both be done -/
theorem stB_cut {l : List Sol} {s : StB} {a : Ac} (hf : fits l.length a = true) (h1 : a.1 = 1) : stB l s a = if acCells l a &&& s.1 = acCells l a then some (s.1 &&& ~~~acCells l a, s.2) else none := by
  unfold stB; rw [if_pos hf, if_pos h1]
theorem stB_fit {l : List Sol} {s : StB} {a : Ac} (hf : fits l.length a = true) (h2 : a.1 = 2) : stB l s a = if s.2 &&& bitB a = 0 ∧ acCells l a &&& s.1 = 0 then some (s.1 ||| acCells l a, s.2 ||| bitB a) else none := by
  unfold stB; rw [if_pos hf, if_neg (by omega), if_pos h2]
theorem stB_take {l : List Sol} {s : StB} {a : Ac} (hf : fits l.length a = true) (h3 : a.1 = 3) : stB l s a = if s.2 &&& bitB a ≠ 0 ∧ acCells l a &&& s.1 = acCells l a then some (s.1 &&& ~~~acCells l a, s.2 &&& ~~~bitB a) else none := by
  unfold stB; rw [if_pos hf, if_neg (by omega), if_neg (by omega)]
theorem fits_kindA {n : Nat} {a : Ac} (hf : fits n a = true) : a.1 = 1 ∨ a.1 = 2 ∨ a.1 = 3 := by
  unfold fits at hf
  split at hf
  · exact .inl (by assumption)
  · simp only [Bool.and_eq_true, Bool.or_eq_true, beq_iff_eq] at hf
    rcases hf.1.1.1 with h | h
    · exact .inr (.inl h)
    · exact .inr (.inr h)
/-- what an act asks and does, as sets: cells that must be there, that must not; bits likewise -/
structure Act1 where
  need : Sol
  ban : Sol
  add : Sol
  del : Sol
  bneed : BitVec 8
  bban : BitVec 8
  badd : BitVec 8
  bdel : BitVec 8
def Act1.ok (x : Act1) (s : StB) : Prop := x.need &&& s.1 = x.need ∧ x.ban &&& s.1 = 0 ∧ x.bneed &&& s.2 = x.bneed ∧ x.bban &&& s.2 = 0
def Act1.go (x : Act1) (s : StB) : StB := ((s.1 ||| x.add) &&& ~~~x.del, (s.2 ||| x.badd) &&& ~~~x.bdel)
theorem no0 {n : Nat} {p : Prop} {i : Nat} (h : (0 : BitVec n).getLsbD i = true) : p := by simp at h
theorem bv_full {n : Nat} (x : BitVec n) : x &&& ~~~0 = x := by
  apply BitVec.eq_of_getLsbD_eq
  intro i hi
  rw [BitVec.getLsbD_and, BitVec.getLsbD_not]
  simp [hi]
theorem bv_or0 {n : Nat} (x : BitVec n) : x ||| 0 = x := by
  apply BitVec.eq_of_getLsbD_eq
  intro i hi
  rw [BitVec.getLsbD_or]; simp
theorem bv_0and {n : Nat} (x : BitVec n) : 0 &&& x = 0 := by
  apply BitVec.eq_of_getLsbD_eq
  intro i hi
  rw [BitVec.getLsbD_and]; simp
structure Act1.in (x : Act1) (c : Sol) (b : BitVec 8) : Prop where
  need : ∀ i, x.need.getLsbD i = true → c.getLsbD i = true
  ban : ∀ i, x.ban.getLsbD i = true → c.getLsbD i = true
  add : ∀ i, x.add.getLsbD i = true → c.getLsbD i = true
  del : ∀ i, x.del.getLsbD i = true → c.getLsbD i = true
  bneed : ∀ i, x.bneed.getLsbD i = true → b.getLsbD i = true
  bban : ∀ i, x.bban.getLsbD i = true → b.getLsbD i = true
  badd : ∀ i, x.badd.getLsbD i = true → b.getLsbD i = true
  bdel : ∀ i, x.bdel.getLsbD i = true → b.getLsbD i = true
section
variable {n : Nat}
theorem sub_go {nd s ad dl c : BitVec n} (hn : ∀ i, nd.getLsbD i = true → c.getLsbD i = true) (ha : ∀ i, ad.getLsbD i = true → c.getLsbD i = false) (hd : ∀ i, dl.getLsbD i = true → c.getLsbD i = false) :
    nd &&& ((s ||| ad) &&& ~~~dl) = nd ↔ nd &&& s = nd := by
  rw [bv_sub, bv_sub]
  constructor
  · intro h i hi
    have hlt : i < n := by
      cases Nat.lt_or_ge i n with
      | inl h => exact h
      | inr h => rw [BitVec.getLsbD_of_ge _ _ h] at hi; cases hi
    have := h i hi
    rw [BitVec.getLsbD_and, BitVec.getLsbD_or, not_lsb _ hlt] at this
    have hc := hn i hi
    cases hx : ad.getLsbD i with
    | true => rw [ha i hx] at hc; cases hc
    | false => rw [hx] at this; simp at this; exact this.1
  · intro h i hi
    have hlt : i < n := by
      cases Nat.lt_or_ge i n with
      | inl h => exact h
      | inr h => rw [BitVec.getLsbD_of_ge _ _ h] at hi; cases hi
    rw [BitVec.getLsbD_and, BitVec.getLsbD_or, not_lsb _ hlt, h i hi]
    have hc := hn i hi
    cases hx : dl.getLsbD i with
    | true => rw [hd i hx] at hc; cases hc
    | false => rfl
theorem no_go {nd s ad dl c : BitVec n} (hn : ∀ i, nd.getLsbD i = true → c.getLsbD i = true) (ha : ∀ i, ad.getLsbD i = true → c.getLsbD i = false) (hd : ∀ i, dl.getLsbD i = true → c.getLsbD i = false) :
    nd &&& ((s ||| ad) &&& ~~~dl) = 0 ↔ nd &&& s = 0 := by
  rw [bv_no, bv_no]
  constructor
  · intro h i hi
    have hlt : i < n := by
      cases Nat.lt_or_ge i n with
      | inl h => exact h
      | inr h => rw [BitVec.getLsbD_of_ge _ _ h] at hi; cases hi
    have := h i hi
    rw [BitVec.getLsbD_and, BitVec.getLsbD_or, not_lsb _ hlt] at this
    have hc := hn i hi
    cases hx : dl.getLsbD i with
    | true => rw [hd i hx] at hc; cases hc
    | false => rw [hx] at this; simp at this; exact this.1
  · intro h i hi
    have hlt : i < n := by
      cases Nat.lt_or_ge i n with
      | inl h => exact h
      | inr h => rw [BitVec.getLsbD_of_ge _ _ h] at hi; cases hi
    rw [BitVec.getLsbD_and, BitVec.getLsbD_or, not_lsb _ hlt, h i hi]
    have hc := hn i hi
    cases hx : ad.getLsbD i with
    | true => rw [ha i hx] at hc; cases hc
    | false => rfl
theorem go_bool : ∀ S A B E F G H : Bool, (!A || G) = true → (!B || G) = true → (!E || H) = true → (!F || H) = true → (!G || !H) = true → ((((S || A) && !B) || E) && !F) = ((((S || E) && !F) || A) && !B) := by decide
theorem imp_bool {a b : Bool} (h : a = true → b = true) : (!a || b) = true := by
  cases a
  · rfl
  · rw [h rfl]; rfl
theorem go_go {s a1 d1 a2 d2 c e : BitVec n} (h1 : ∀ i, a1.getLsbD i = true → c.getLsbD i = true) (h2 : ∀ i, d1.getLsbD i = true → c.getLsbD i = true) (h3 : ∀ i, a2.getLsbD i = true → e.getLsbD i = true) (h4 : ∀ i, d2.getLsbD i = true → e.getLsbD i = true) (hce : ∀ i, c.getLsbD i = true → e.getLsbD i = false) :
    (((s ||| a1) &&& ~~~d1) ||| a2) &&& ~~~d2 = (((s ||| a2) &&& ~~~d2) ||| a1) &&& ~~~d1 := by
  apply BitVec.eq_of_getLsbD_eq
  intro i hi
  simp only [BitVec.getLsbD_and, BitVec.getLsbD_or, not_lsb _ hi]
  exact go_bool _ _ _ _ _ (c.getLsbD i) (e.getLsbD i) (imp_bool (h1 i)) (imp_bool (h2 i)) (imp_bool (h3 i)) (imp_bool (h4 i)) (imp_bool fun h => by rw [hce i h]; rfl)
end
structure okA (x : Act1) (a : Ac) (s : StB) : Prop where
  c1 : x.need &&& s.1 = x.need
  c2 : x.ban &&& s.1 = 0
  c3 : if a.1 = 3 then s.2 &&& bitB a ≠ 0 else True
  c4 : x.bban &&& s.2 = 0
theorem ite_some {α : Type} {p : Prop} [Decidable p] {x t : α} : (if p then some x else none) = some t ↔ p ∧ t = x := by
  by_cases h : p
  · rw [if_pos h, Option.some.injEq]; exact ⟨fun e => ⟨h, e.symm⟩, fun e => e.2.symm⟩
  · rw [if_neg h]; exact ⟨fun e => (by cases e), fun e => absurd e.1 h⟩
theorem go_cut (c : Sol) (s : StB) : Act1.go ⟨c, 0, 0, c, 0, 0, 0, 0⟩ s = (s.1 &&& ~~~c, s.2) := by
  unfold Act1.go; dsimp only; rw [bv_or0, bv_or0, bv_full]
theorem go_fit (c : Sol) (b : BitVec 8) (s : StB) : Act1.go ⟨0, c, c, 0, 0, b, b, 0⟩ s = (s.1 ||| c, s.2 ||| b) := by
  unfold Act1.go; dsimp only; rw [bv_full, bv_full]
theorem go_take (c : Sol) (b : BitVec 8) (s : StB) : Act1.go ⟨c, 0, 0, c, 0, 0, 0, b⟩ s = (s.1 &&& ~~~c, s.2 &&& ~~~b) := by
  unfold Act1.go; dsimp only; rw [bv_or0, bv_or0]
theorem act1 {l : List Sol} {a : Ac} (hf : fits l.length a = true) : ∃ x : Act1, (∀ s t, stB l s a = some t ↔ okA x a s ∧ t = x.go s) ∧ x.in (acCells l a) (if a.1 = 1 then 0 else bitB a) := by
  rcases fits_kindA hf with h | h | h
  · refine ⟨⟨acCells l a, 0, 0, acCells l a, 0, 0, 0, 0⟩, fun s t => ?_, ⟨fun i h => h, fun i h => no0 h, fun i h => no0 h, fun i h => h, fun i h => no0 h, fun i h => no0 h, fun i h => no0 h, fun i h => no0 h⟩⟩
    rw [stB_cut hf h, go_cut, ite_some]
    exact ⟨fun e => ⟨⟨e.1, bv_0and _, by rw [if_neg (by omega)]; trivial, bv_0and _⟩, e.2⟩, fun e => ⟨e.1.c1, e.2⟩⟩
  · refine ⟨⟨0, acCells l a, acCells l a, 0, 0, bitB a, bitB a, 0⟩, fun s t => ?_, ?_⟩
    · rw [stB_fit hf h, go_fit, ite_some]
      exact ⟨fun e => ⟨⟨bv_0and _, e.1.2, by rw [if_neg (by omega)]; trivial, by rw [BitVec.and_comm]; exact e.1.1⟩, e.2⟩, fun e => ⟨⟨by rw [BitVec.and_comm]; exact e.1.c4, e.1.c2⟩, e.2⟩⟩
    · rw [if_neg (by omega)]
      exact ⟨fun i h => no0 h, fun i h => h, fun i h => h, fun i h => no0 h, fun i h => no0 h, fun i h => h, fun i h => h, fun i h => no0 h⟩
  · refine ⟨⟨acCells l a, 0, 0, acCells l a, 0, 0, 0, bitB a⟩, fun s t => ?_, ?_⟩
    · rw [stB_take hf h, go_take, ite_some]
      exact ⟨fun e => ⟨⟨e.1.2, bv_0and _, by rw [if_pos h]; exact e.1.1, bv_0and _⟩, e.2⟩, fun e => ⟨⟨by have := e.1.c3; rw [if_pos h] at this; exact this, e.1.c1⟩, e.2⟩⟩
    · rw [if_neg (by omega)]
      exact ⟨fun i h => h, fun i h => no0 h, fun i h => no0 h, fun i h => h, fun i h => no0 h, fun i h => no0 h, fun i h => no0 h, fun i h => h⟩
/-- they do nothing to each other -/
theorem act_other {l : List Sol} {a b : Ac} {x y : Act1} {ca cb : BitVec 8} (hx : x.in (acCells l a) ca) (hy : y.in (acCells l b) cb) (hc : acCells l a &&& acCells l b = 0) (hb : ca &&& cb = 0) (s : StB) :
    (y.need &&& (x.go s).1 = y.need ↔ y.need &&& s.1 = y.need) ∧ (y.ban &&& (x.go s).1 = 0 ↔ y.ban &&& s.1 = 0) ∧ (y.bban &&& (x.go s).2 = 0 ↔ y.bban &&& s.2 = 0) := by
  have h1 := bv_no.1 hc
  have h2 := bv_no.1 hb
  have e1 : ∀ i, x.add.getLsbD i = true → (acCells l b).getLsbD i = false := fun i h => h1 i (hx.add i h)
  have e2 : ∀ i, x.del.getLsbD i = true → (acCells l b).getLsbD i = false := fun i h => h1 i (hx.del i h)
  have e3 : ∀ i, x.badd.getLsbD i = true → cb.getLsbD i = false := fun i h => h2 i (hx.badd i h)
  have e4 : ∀ i, x.bdel.getLsbD i = true → cb.getLsbD i = false := fun i h => h2 i (hx.bdel i h)
  exact ⟨sub_go hy.need e1 e2, no_go hy.ban e1 e2, no_go hy.bban e3 e4⟩
theorem go_comm {l : List Sol} {a b : Ac} {x y : Act1} {ca cb : BitVec 8} (hx : x.in (acCells l a) ca) (hy : y.in (acCells l b) cb) (hc : acCells l a &&& acCells l b = 0) (hb : ca &&& cb = 0) (s : StB) : y.go (x.go s) = x.go (y.go s) := by
  unfold Act1.go
  exact Prod.ext (go_go hx.add hx.del hy.add hy.del (bv_no.1 hc)) (go_go hx.badd hx.bdel hy.badd hy.bdel (bv_no.1 hb))
theorem bits_ok {l : List Sol} (h8 : l.length ≤ 8) {a b : Ac} (ha : fits l.length a = true) (hb : fits l.length b = true) (hd : depA l a b = false) : (if a.1 = 1 then 0 else bitB a) &&& (if b.1 = 1 then 0 else bitB b) = 0 := by
  by_cases h1 : a.1 = 1
  · rw [if_pos h1, bv_0and]
  · by_cases h2 : b.1 = 1
    · rw [if_pos h2, BitVec.and_comm, bv_0and]
    · rw [if_neg h1, if_neg h2]; exact bits_apart h8 ha hb h1 h2 hd
/-- the bit of a piece is as it was -/
theorem on_other {l : List Sol} (h8 : l.length ≤ 8) {a b : Ac} (ha : fits l.length a = true) (hb : fits l.length b = true) (hd : depA l a b = false) {x : Act1} (hx : x.in (acCells l a) (if a.1 = 1 then 0 else bitB a)) (s : StB) :
    (if b.1 = 3 then (x.go s).2 &&& bitB b ≠ 0 else True) ↔ (if b.1 = 3 then s.2 &&& bitB b ≠ 0 else True) := by
  by_cases h3 : b.1 = 3
  · rw [if_pos h3, if_pos h3]
    have h2 := bv_no.1 (bits_ok h8 ha hb hd)
    rw [if_neg (show ¬ b.1 = 1 by omega)] at h2
    have e3 : ∀ i, x.badd.getLsbD i = true → (bitB b).getLsbD i = false := fun i h => h2 i (hx.badd i h)
    have e4 : ∀ i, x.bdel.getLsbD i = true → (bitB b).getLsbD i = false := fun i h => h2 i (hx.bdel i h)
    have := no_go (nd := bitB b) (s := s.2) (fun i h => h) e3 e4
    rw [BitVec.and_comm, BitVec.and_comm s.2]
    exact not_congr this
  · rw [if_neg h3, if_neg h3]
theorem stepsA {l : List Sol} (h8 : l.length ≤ 8) : StepsO (depA l) (stB l) where
  swap {s s1 s2 a b} hd h1 h2 := by
    have fa := stB_fits h1
    have fb := stB_fits h2
    obtain ⟨x, ex, ix⟩ := act1 fa
    obtain ⟨y, ey, iy⟩ := act1 fb
    have hd' : depA l b a = false := by rw [depA_symm]; exact hd
    obtain ⟨c1, rfl⟩ := (ex _ _).1 h1
    obtain ⟨c2, rfl⟩ := (ey _ _).1 h2
    have o1 := act_other ix iy (cells_apart hd) (bits_ok h8 fa fb hd) s
    have o2 := act_other iy ix (cells_apart hd') (bits_ok h8 fb fa hd') s
    have p1 := on_other h8 fa fb hd ix s
    have p2 := on_other h8 fb fa hd' iy s
    exact ⟨y.go s, (ey _ _).2 ⟨⟨o1.1.1 c2.c1, o1.2.1.1 c2.c2, p1.1 c2.c3, o1.2.2.1 c2.c4⟩, rfl⟩, (ex _ _).2 ⟨⟨o2.1.2 c1.c1, o2.2.1.2 c1.c2, p2.2 c1.c3, o2.2.2.2 c1.c4⟩, go_comm ix iy (cells_apart hd) (bits_ok h8 fa fb hd) s⟩⟩
  join {s s1 s2 a b} hd h1 h2 := by
    have fa := stB_fits h1
    have fb := stB_fits h2
    obtain ⟨x, ex, ix⟩ := act1 fa
    obtain ⟨y, ey, iy⟩ := act1 fb
    obtain ⟨c1, rfl⟩ := (ex _ _).1 h1
    obtain ⟨c2, rfl⟩ := (ey _ _).1 h2
    have o1 := act_other ix iy (cells_apart hd) (bits_ok h8 fa fb hd) s
    have p1 := on_other h8 fa fb hd ix s
    exact ⟨_, (ey _ _).2 ⟨⟨o1.1.2 c2.c1, o1.2.1.2 c2.c2, p1.2 c2.c3, o1.2.2.2 c2.c4⟩, rfl⟩⟩
section
variable {n : Nat}
theorem add_del {s c : BitVec n} (h : c &&& s = 0) : (s ||| c) &&& ~~~c = s := by
  apply BitVec.eq_of_getLsbD_eq
  intro i hi
  rw [BitVec.getLsbD_and, BitVec.getLsbD_or, not_lsb _ hi]
  have := bv_no.1 h i
  revert this
  cases c.getLsbD i <;> cases s.getLsbD i <;> simp
theorem del_add {s c : BitVec n} (h : c &&& s = c) : (s &&& ~~~c) ||| c = s := by
  apply BitVec.eq_of_getLsbD_eq
  intro i hi
  rw [BitVec.getLsbD_or, BitVec.getLsbD_and, not_lsb _ hi]
  have := bv_sub.1 h i
  revert this
  cases c.getLsbD i <;> cases s.getLsbD i <;> simp
end
theorem bit_in : ∀ (p : Fin 8) (o : BitVec 8), o &&& BitVec.ofInt 8 (2 ^ p.1) ≠ 0 → BitVec.ofInt 8 (2 ^ p.1) &&& o = BitVec.ofInt 8 (2 ^ p.1) := by decide +kernel
/-- what is fitted and taken, or taken and fitted, is as it was -/
theorem turnA {l : List Sol} (h8 : l.length ≤ 8) {x y : Ac} {s s1 s2 : StB} (hi : ivA x = some y) (h1 : stB l s x = some s1) (h2 : stB l s1 y = some s2) : s2 = s := by
  have fx := stB_fits h1
  have fy := stB_fits h2
  have hc := cells_iv (l := l) hi
  have hbit : bitB y = bitB x := by
    obtain ⟨k, p, c⟩ := x
    unfold ivA at hi
    split at hi
    · cases hi; rfl
    · split at hi
      · cases hi; rfl
      · cases hi
  have hbin : ∀ o : BitVec 8, x.1 ≠ 1 → o &&& bitB x ≠ 0 → bitB x &&& o = bitB x := by
    intro o hx1 ho
    unfold fits at fx
    rw [if_neg hx1] at fx
    simp only [Bool.and_eq_true, Bool.or_eq_true, beq_iff_eq, decide_eq_true_eq] at fx
    exact bit_in ⟨x.2.1.toNat, by omega⟩ o ho
  rcases fits_kindA fx with k | k | k
  · unfold ivA at hi; rw [if_neg (by omega), if_neg (by omega)] at hi; cases hi
  · have ky : y.1 = 3 := by unfold ivA at hi; rw [if_pos k] at hi; cases hi; rfl
    rw [stB_fit fx k] at h1
    rw [stB_take fy ky, hc, hbit] at h2
    split at h1
    · next c1 =>
      cases h1
      split at h2
      · cases h2
        exact Prod.ext (add_del c1.2) (add_del (by rw [BitVec.and_comm]; exact c1.1))
      · cases h2
    · cases h1
  · have ky : y.1 = 2 := by unfold ivA at hi; rw [if_neg (by omega), if_pos k] at hi; cases hi; rfl
    rw [stB_take fx k] at h1
    rw [stB_fit fy ky, hc, hbit] at h2
    split at h1
    · next c1 =>
      cases h1
      split at h2
      · cases h2
        exact Prod.ext (del_add c1.2) (del_add (hbin _ (by omega) c1.1))
      · cases h2
    · cases h1
end Go.Proofs.YtccnkebkgegohaaGreatDoor
end
section
namespace Go.Proofs.YtccnkebkgegohaaGreatDoor
open Go Go.Tra
/-! ### the order of acts is one -/
theorem cmpI_lt {a b : Int} : cmpI a b < 0 ↔ a < b := by unfold cmpI; split <;> (try split) <;> omega
theorem cmpI_zero {a b : Int} : cmpI a b = 0 ↔ a = b := by unfold cmpI; split <;> (try split) <;> omega
def keyA (a : Ac) : List Int := (a.1 : Int) :: a.2.1 :: planes a.2.2
theorem cmpA_key (a b : Ac) : cmpA a b = cmpL (keyA a) (keyA b) := by
  unfold cmpA or3 keyA
  rw [cmpL, cmpL]
theorem key_inj {a b : Ac} (h : keyA a = keyA b) : a = b := by
  obtain ⟨k, p, s⟩ := a
  obtain ⟨k', p', s'⟩ := b
  unfold keyA planes at h
  simp only [List.cons.injEq, and_true] at h
  obtain ⟨h1, h2, q0, q1, q2, q3, q4, q5, q6, q7⟩ := h
  have e1 : k = k' := by omega
  have e2 : s = s' := sol_ext fun j hj => match j, hj with
    | 0, _ => pl_eq.1 q0
    | 1, _ => pl_eq.1 q1
    | 2, _ => pl_eq.1 q2
    | 3, _ => pl_eq.1 q3
    | 4, _ => pl_eq.1 q4
    | 5, _ => pl_eq.1 q5
    | 6, _ => pl_eq.1 q6
    | 7, _ => pl_eq.1 q7
    | n + 8, h => absurd h (by omega)
  rw [e1, h2, e2]
theorem key_len (a : Ac) : (keyA a).length = 10 := rfl
theorem cmpL_lt : ∀ {x y : List Int}, x.length = y.length → (cmpL x y < 0 ↔ x < y)
  | [], [], _ => by simp [cmpL]
  | a :: x, b :: y, h => by
    have ih := cmpL_lt (x := x) (y := y) (by simpa using h)
    unfold cmpL
    rw [List.cons_lt_cons_iff]
    by_cases e : a = b
    · subst e
      rw [if_pos (cmpI_zero.2 rfl), ih]
      simp
    · rw [if_neg (by rw [cmpI_zero]; exact e), cmpI_lt]
      simp [e]
theorem cmpA_lt {a b : Ac} : cmpA a b < 0 ↔ keyA a < keyA b := by rw [cmpA_key]; exact cmpL_lt ((key_len a).trans (key_len b).symm)
theorem cmpA_ok : Cmp cmpA where
  asym {a b} h := by rw [cmpA_lt] at h ⊢; exact List.lt_asymm h
  tot {a b} h := by
    rw [cmpA_lt, cmpA_lt]
    rcases Std.lt_trichotomy (keyA a) (keyA b) with h1 | h1 | h1
    · exact .inl h1
    · exact absurd (key_inj h1) h
    · exact .inr h1
  tr {a b c} h k := by rw [cmpA_lt] at h k ⊢; exact List.lt_trans h k
/-! ### rows of places in a good history -/
abbrev atA (acts : List Ac) (i : Int) : Ac := acts.getD i.toNat (0, 0, 0)
theorem upto_nodup (n : Nat) : (upto n).Nodup := by
  unfold upto List.Nodup
  rw [List.pairwise_map]
  exact List.nodup_range.imp fun h e => h (by omega)
theorem upto_map (acts : List Ac) : (upto acts.length).map (atA acts) = acts := by
  apply List.ext_getElem?
  intro i
  unfold upto
  rw [List.map_map, List.getElem?_map]
  by_cases h : i < acts.length
  · rw [List.getElem?_range h]; simp [h]
  · rw [List.getElem?_eq_none (by simpa using h)]; simp; omega
/-- every act is as said, in a pattern that is -/
structure Fine (l : List Sol) (acts : List Ac) : Prop where
  ne : ∀ a ∈ acts, acCells l a ≠ 0
  fit : ∀ a ∈ acts, fits l.length a = true
theorem cells_at {l : List Sol} {acts : List Ac} {i : Int} (h : 0 ≤ i ∧ i < acts.length) : (cellsOf l acts).getD i.toNat 0 = acCells l (atA acts i) := by
  have h1 : i.toNat < acts.length := by omega
  have h2 : i.toNat < (cellsOf l acts).length := by unfold cellsOf; rw [List.length_map]; exact h1
  simp only [List.getD_eq_getElem?_getD, List.getElem?_eq_getElem h1, List.getElem?_eq_getElem h2, Option.getD_some]
  simp only [cellsOf, List.getElem_map]
theorem at_mem {acts : List Ac} {i : Int} (h : 0 ≤ i ∧ i < acts.length) : atA acts i ∈ acts := by
  have h1 : i.toNat < acts.length := by omega
  simp only [atA, List.getD_eq_getElem?_getD, List.getElem?_eq_getElem h1, Option.getD_some]
  exact List.getElem_mem _
theorem dep_at {l : List Sol} {acts : List Ac} (F : Fine l acts) {i j : Int} (hi : 0 ≤ i ∧ i < acts.length) (hj : 0 ≤ j ∧ j < acts.length) : depI (cellsOf l acts) i j = depA l (atA acts i) (atA acts j) := by
  unfold depI depN
  rw [cells_at hi, cells_at hj, depA_meets (F.ne _ (at_mem hi))]
theorem row_of {l : List Sol} {acts : List Ac} (F : Fine l acts) {left : List Int} (hn : left.Nodup) (hr : ∀ x ∈ left, 0 ≤ x ∧ x < (acts.length : Int)) : RowOf (depA l) (atA acts) (depI (cellsOf l acts)) left :=
  ⟨hn, fun i hi j hj => dep_at F (hr i hi) (hr j hj)⟩
theorem row_all {l : List Sol} {acts : List Ac} (F : Fine l acts) : RowOf (depA l) (atA acts) (depI (cellsOf l acts)) (upto acts.length) := row_of F (upto_nodup _) upto_range
/-- the normal form -/
def nrm (l : List Sol) (m : List Ac) : List Ac := norm (depA l) cmpA m.length m
theorem leastA_eq {l : List Sol} {acts : List Ac} {left : List Int} (h : RowOf (depA l) (atA acts) (depI (cellsOf l acts)) left) : leastA l acts left = nrm l (left.map (atA acts)) := by
  unfold leastA nrm
  rw [List.length_map]
  exact leastI_row (depA_refl l) (fun i j => rfl) _ h
theorem normalM_eq {l : List Sol} {acts : List Ac} (F : Fine l acts) : normalM l acts = nrm l acts := by
  have := leastA_eq (row_all F)
  rw [upto_map] at this
  exact this
theorem nrm_eqv (l : List Sol) (m : List Ac) : Eqv (depA l) m (nrm l m) := norm_eqv (depA_refl l) (depA_symm l) cmpA rfl
theorem nrm_iff (l : List Sol) {m m' : List Ac} : nrm l m = nrm l m' ↔ Eqv (depA l) m m' := norm_iff (depA_refl l) (depA_symm l) cmpA_ok m m'
theorem nrm_nrm (l : List Sol) (m : List Ac) : nrm l (nrm l m) = nrm l m := (nrm_iff l).2 (nrm_eqv l m).symm
theorem nrm_len (l : List Sol) (m : List Ac) : (nrm l m).length = m.length := ((nrm_eqv l m).len (depA_refl l)).symm
theorem Fine.eqv {l : List Sol} {m m' : List Ac} (F : Fine l m) (e : Eqv (depA l) m m') : Fine l m' :=
  ⟨fun a ha => F.ne a ((e.mem (depA_refl l)).2 ha), fun a ha => F.fit a ((e.mem (depA_refl l)).2 ha)⟩
theorem Fine.sub {l : List Sol} {m m' : List Ac} (F : Fine l m) (h : ∀ a ∈ m', a ∈ m) : Fine l m' := ⟨fun a ha => F.ne a (h a ha), fun a ha => F.fit a (h a ha)⟩
theorem Fine.app {l : List Sol} {m m' : List Ac} (F : Fine l m) (G : Fine l m') : Fine l (m ++ m') :=
  ⟨fun a ha => (List.mem_append.1 ha).elim (F.ne a) (G.ne a), fun a ha => (List.mem_append.1 ha).elim (F.fit a) (G.fit a)⟩
/-! ### a history that runs -/
structure Runs (blank : Sol) (l : List Sol) (acts : List Ac) (t : StB) : Prop where
  pat : chkPat blank l = 0
  len : acts.length ≤ 60
  run : runO (stB l) (blank, 0) acts = some t
theorem Runs.of {blank : Sol} {l : List Sol} {acts : List Ac} {s : Stn} (h : begunM blank l acts = .inr s) : ∃ t, Runs blank l acts t ∧ s = upI t := by
  obtain ⟨h1, h2, _⟩ := begunM_good h
  obtain ⟨t, h3, h4⟩ := (begun_run h1 h2).2 s h
  exact ⟨t, ⟨h1, h2, h3⟩, h4⟩
section
variable {blank : Sol} {l : List Sol} {acts : List Ac} {t : StB}
theorem Runs.good (R : Runs blank l acts t) : begunM blank l acts = .inr (upI t) := (begun_run R.pat R.len).1 t R.run
theorem Runs.fine (R : Runs blank l acts t) : Fine l acts := ⟨fun a ha => cells_ne R.pat (run_fits R.run a ha), run_fits R.run⟩
theorem pat_len {blank : Sol} {l : List Sol} (h : chkPat blank l = 0) : l.length ≤ 8 := by
  unfold chkPat at h
  split at h
  · cases h
  · omega
theorem Runs.eqv (R : Runs blank l acts t) {m : List Ac} (e : Eqv (depA l) acts m) : Runs blank l m t :=
  ⟨R.pat, by rw [← e.len (depA_refl l)]; exact R.len, runO_eqv (depA_refl l) (depA_symm l) (stepsA (pat_len R.pat)) e.symm R.run⟩
theorem Runs.nrm (R : Runs blank l acts t) : Runs blank l (nrm l acts) t := R.eqv (nrm_eqv l acts)
theorem Runs.pre (R : Runs blank l acts t) {g : List Ac} (k : Pre (depA l) g acts) : ∃ u, Runs blank l g u := by
  obtain ⟨r, e⟩ := k
  have R' := R.eqv e.symm
  obtain ⟨u, h1, _⟩ := runO_pre R'.run
  exact ⟨u, R.pat, by have := R'.len; rw [List.length_append] at this; omega, h1⟩
/-! reduced -/
theorem turn_at (F : Fine l acts) {i j : Int} (hi : 0 ≤ i ∧ i < acts.length) (hj : 0 ≤ j ∧ j < acts.length) : turnB l acts i j = decide (ivA (atA acts i) = some (atA acts j)) := by
  unfold turnB
  rw [cells_at hi, cells_at hj, opp_iv (F.fit _ (at_mem hi)) (F.fit _ (at_mem hj))]
  by_cases h : ivA (atA acts i) = some (atA acts j)
  · rw [cells_iv h, decide_eq_true h, beq_self_eq_true]; rfl
  · rw [decide_eq_false h, Bool.and_false]
def redL (l : List Sol) (m : List Ac) : List Ac := reduceL (depA l) ivA m.length m
theorem reducedM_eq (F : Fine l acts) : (reducedM l acts).map (atA acts) = redL l acts ∧ RowOf (depA l) (atA acts) (depI (cellsOf l acts)) (reducedM l acts) := by
  obtain ⟨h1, h2, _⟩ := reduceI_row (upto acts.length).length (row_all F) (iv := ivA) (tb := turnB l acts) fun i hi j hj => turn_at F (upto_range i hi) (upto_range j hj)
  rw [upto_map] at h1
  refine ⟨?_, h2⟩
  unfold reducedM redL
  rw [h1, upto_length]
/-- what Reduced returns -/
theorem reduced_eq (F : Fine l acts) : leastA l acts (reducedM l acts) = nrm l (redL l acts) := by
  obtain ⟨h1, h2⟩ := reducedM_eq F
  rw [leastA_eq h2, h1]
theorem Runs.red (R : Runs blank l acts t) : Runs blank l (redL l acts) t := by
  refine ⟨R.pat, Nat.le_trans ?_ R.len, reduceL_run (depA_refl l) (depA_symm l) (stepsA (pat_len R.pat)) (fun hi h1 h2 => turnA (pat_len R.pat) hi h1 h2) R.run⟩
  have : ∀ (n : Nat) (m : List Ac), (reduceL (depA l) ivA n m).length ≤ m.length := by
    intro n
    induction n with
    | zero => intro m; exact Nat.le_refl _
    | succ n ih =>
      intro m
      unfold reduceL
      cases hq : turnL (depA l) ivA m with
      | none => exact Nat.le_refl _
      | some m' =>
        obtain ⟨u, x, k, y, v, rfl, rfl, _, _⟩ := turnL_some hq
        refine Nat.le_trans (ih _) ?_
        simp only [List.length_append, List.length_cons]; omega
  exact this _ _
theorem redL_eqv {m m' : List Ac} (e : Eqv (depA l) (Tra.red (depA l) ivA m) (Tra.red (depA l) ivA m')) : nrm l (redL l m) = nrm l (redL l m') :=
  (nrm_iff l).2 (reduceL_unique (depA_refl l) (depA_symm l) (invA l) (Nat.le_refl _) (Nat.le_refl _) e)
/-- what is reduced stays -/
theorem redL_again (m : List Ac) : nrm l (redL l (nrm l (redL l m))) = nrm l (redL l m) := by
  have hr := (reduceL_red (depA_refl l) (depA_symm l) (invA l) (Nat.le_refl m.length)).2
  have e := nrm_eqv l (redL l m)
  have h1 : IsRed (depA l) ivA (nrm l (redL l m)) := hr.eqv e
  have h2 := (reduceL_red (depA_refl l) (depA_symm l) (invA l) (Nat.le_refl (nrm l (redL l m)).length)).1
  have h3 := red_same (depA_refl l) (depA_symm l) h1
  exact (nrm_iff l).2 (h2.symm.trans (h3.trans e.symm))
theorem redL_turn (u v : List Ac) {x y : Ac} (h : ivA x = some y) : nrm l (redL l (u ++ x :: y :: v)) = nrm l (redL l (u ++ v)) :=
  redL_eqv (red_turn (depA_refl l) (depA_symm l) (invA l) h u v)
end
end Go.Proofs.YtccnkebkgegohaaGreatDoor
end
section
namespace Go.Proofs.YtccnkebkgegohaaGreatDoor
open Go Go.Tra
/-! ### two histories of one pattern -/
def beyA (l : List Sol) (g h : List Ac) : List Ac × List Ac × List Ac := bey (depA l) g.length [] g h
section
variable {blank : Sol} {l : List Sol} {g h : List Ac}
theorem bey_A (l : List Sol) (g h : List Ac) : Bey (depA l) g h (beyA l g h) :=
  bey_ok (depA_refl l) (depA_symm l) (Nat.le_refl _) (Eqv.refl _) (Eqv.refl _)
structure BeyIs (l : List Sol) (g h : List Ac) (r : List Ac × List Int × List Int) : Prop where
  c : r.1 = (beyA l g h).1
  a : r.2.1.map (atA g) = (beyA l g h).2.1
  b : r.2.2.map (atA h) = (beyA l g h).2.2
  ra : RowOf (depA l) (atA g) (depI (cellsOf l g)) r.2.1
  rb : RowOf (depA l) (atA h) (depI (cellsOf l h)) r.2.2
theorem beyondM_is (F : Fine l g) (G : Fine l h) : BeyIs l g h (beyondM l g l h) := by
  have key := beyondI_row (depA_refl l) (upto g.length).length (c := []) (row_all F) (row_all G) (p := fun i j => g.getD i.toNat (0, 0, 0) == h.getD j.toNat (0, 0, 0)) (fun i _ j _ => by rw [Bool.eq_iff_iff]; simp)
  rw [upto_map, upto_map] at key
  have e : bey (depA l) (upto g.length).length [] g h = beyA l g h := by unfold beyA; rw [upto_length]
  rw [e] at key
  obtain ⟨k1, k2, k3⟩ := key
  have k1' := Prod.ext_iff.1 k1
  have k1'' := Prod.ext_iff.1 k1'.2
  exact ⟨k1'.1, k1''.1, k1''.2, k2, k3⟩
theorem bey_leastA (F : Fine l g) (G : Fine l h) : leastA l g (beyondM l g l h).2.1 = nrm l (beyA l g h).2.1 ∧ leastA l h (beyondM l g l h).2.2 = nrm l (beyA l g h).2.2 := by
  have B := beyondM_is F G
  exact ⟨by rw [leastA_eq B.ra, B.a], by rw [leastA_eq B.rb, B.b]⟩
theorem scanC_none {a : Ac} : ∀ {b : List Ac}, scanC l a b = none ↔ ∀ y ∈ b, meetsB (acCells l a) (acCells l y) = false
  | [] => by simp [scanC]
  | y :: b => by
    unfold scanC
    by_cases h : meetsB (acCells l a) (acCells l y) = true
    · rw [if_pos h]; simp [h]
    · rw [if_neg h, scanC_none]; simp [h]
theorem scanC_some {a y : Ac} : ∀ {b : List Ac}, scanC l a b = some y → y ∈ b ∧ meetsB (acCells l a) (acCells l y) = true
  | z :: b, h => by
    unfold scanC at h
    split at h
    · next h1 => cases h; exact ⟨List.mem_cons_self .., h1⟩
    · have := scanC_some h; exact ⟨List.mem_cons_of_mem _ this.1, this.2⟩
theorem conflictM_none : ∀ {a b : List Ac}, (∀ x ∈ a, acCells l x ≠ 0) → (conflictM l a b = none ↔ ∀ x ∈ a, ∀ y ∈ b, depA l x y = false)
  | [], b, _ => by simp [conflictM]
  | x :: a, b, hne => by
    have hx := hne x (List.mem_cons_self ..)
    have ih := conflictM_none (a := a) (b := b) fun z hz => hne z (List.mem_cons_of_mem _ hz)
    unfold conflictM
    cases hs : scanC l x b with
    | some y =>
      have := scanC_some hs
      simp only [reduceCtorEq, false_iff]
      intro hh
      have h2 := hh x (List.mem_cons_self ..) y this.1
      rw [depA_meets hx, this.2] at h2; cases h2
    | none =>
      have := scanC_none.1 hs
      rw [ih]
      simp only [List.mem_cons, forall_eq_or_imp]
      exact ⟨fun h => ⟨fun y hy => by rw [depA_meets hx]; exact this y hy, h⟩, fun h => h.2⟩
theorem conflictM_some {b : List Ac} {x y : Ac} : ∀ {a : List Ac}, (∀ x ∈ a, acCells l x ≠ 0) → conflictM l a b = some (x, y) → x ∈ a ∧ y ∈ b ∧ depA l x y = true
  | z :: a, hne, h => by
    unfold conflictM at h
    split at h
    · next y' hs =>
      cases h
      have := scanC_some hs
      exact ⟨List.mem_cons_self .., this.1, by rw [depA_meets (hne _ (List.mem_cons_self ..))]; exact this.2⟩
    · have := conflictM_some (fun z hz => hne z (List.mem_cons_of_mem _ hz)) h
      exact ⟨List.mem_cons_of_mem _ this.1, this.2⟩
/-- the rests hang not together -/
def Free2 (l : List Sol) (g h : List Ac) : Prop := ∀ x ∈ (beyA l g h).2.1, ∀ y ∈ (beyA l g h).2.2, depA l x y = false
theorem bey_fine (F : Fine l g) (G : Fine l h) : Fine l (beyA l g h).1 ∧ Fine l (beyA l g h).2.1 ∧ Fine l (beyA l g h).2.2 := by
  have B := bey_A l g h
  have h1 := F.eqv B.left.symm
  have h2 := G.eqv B.right.symm
  exact ⟨h1.sub fun a ha => List.mem_append.2 (.inl ha), h1.sub fun a ha => List.mem_append.2 (.inr ha), h2.sub fun a ha => List.mem_append.2 (.inr ha)⟩
theorem mem_nrm (m : List Ac) (x : Ac) : x ∈ nrm l m ↔ x ∈ m := ((nrm_eqv l m).mem (depA_refl l)).symm
/-- what Conflict looks for -/
def confA (l : List Sol) (g h : List Ac) : Option (Ac × Ac) := conflictM l (nrm l (beyA l g h).2.1) (nrm l (beyA l g h).2.2)
theorem confA_none (F : Fine l g) (G : Fine l h) : confA l g h = none ↔ Free2 l g h := by
  unfold confA Free2
  rw [conflictM_none fun x hx => (bey_fine F G).2.1.ne x ((mem_nrm _ x).1 hx)]
  simp only [mem_nrm]
theorem confA_some (F : Fine l g) (G : Fine l h) {x y : Ac} (hc : confA l g h = some (x, y)) : x ∈ g ∧ y ∈ h ∧ depA l x y = true := by
  obtain ⟨h1, h2, h3⟩ := conflictM_some (fun x hx => (bey_fine F G).2.1.ne x ((mem_nrm _ x).1 hx)) hc
  have B := bey_A l g h
  exact ⟨(B.left.mem (depA_refl l)).1 (List.mem_append.2 (.inr ((mem_nrm _ x).1 h1))), (B.right.mem (depA_refl l)).1 (List.mem_append.2 (.inr ((mem_nrm _ y).1 h2))), h3⟩
/-- what Merge puts together -/
def joinA (l : List Sol) (g h : List Ac) : List Ac := (beyA l g h).1 ++ nrm l (beyA l g h).2.1 ++ nrm l (beyA l g h).2.2
theorem mergeM_eq (F : Fine l g) (G : Fine l h) : mergeM l g h = match confA l g h with
    | some _ => none
    | none => some (joinA l g h) := by
  have B := beyondM_is F G
  obtain ⟨e1, e2⟩ := bey_leastA F G
  unfold mergeM confA joinA
  rw [e1, e2, B.c]
  cases conflictM l (nrm l (beyA l g h).2.1) (nrm l (beyA l g h).2.2) <;> rfl
theorem joinA_eqv (l : List Sol) (g h : List Ac) : Eqv (depA l) (joinA l g h) ((beyA l g h).1 ++ ((beyA l g h).2.1 ++ (beyA l g h).2.2)) := by
  unfold joinA
  rw [List.append_assoc]
  exact Eqv.app (Eqv.refl _) (Eqv.app (nrm_eqv l _).symm (nrm_eqv l _).symm)
/-- the least that both begin -/
structure IsJoin (l : List Sol) (g h m : List Ac) : Prop where
  left : Pre (depA l) g m
  right : Pre (depA l) h m
  least : ∀ {k}, Pre (depA l) g k → Pre (depA l) h k → Pre (depA l) m k
theorem joinA_is (hf : Free2 l g h) : IsJoin l g h (joinA l g h) := by
  have B := bey_A l g h
  have e := (joinA_eqv l g h).symm
  exact ⟨B.cont1.eqv (Eqv.refl _) e, (B.cont2 (depA_symm l) hf).eqv (Eqv.refl _) e, fun h1 h2 => (B.least (depA_refl l) (depA_symm l) hf h1 h2).eqv e (Eqv.refl _)⟩
theorem free2_of {k : List Ac} (h1 : Pre (depA l) g k) (h2 : Pre (depA l) h k) : Free2 l g h := (bey_A l g h).joins (depA_refl l) (depA_symm l) h1 h2
theorem IsJoin.uniq {m m' : List Ac} (J : IsJoin l g h m) (J' : IsJoin l g h m') : Eqv (depA l) m m' := Pre.anti (depA_refl l) (J.least J'.left J'.right) (J'.least J.left J.right)
theorem IsJoin.symm {m : List Ac} (J : IsJoin l g h m) : IsJoin l h g m := ⟨J.right, J.left, fun a b => J.least b a⟩
theorem IsJoin.eqv {m m' : List Ac} (J : IsJoin l g h m) (e : Eqv (depA l) m m') : IsJoin l g h m' :=
  ⟨J.left.eqv (Eqv.refl _) e, J.right.eqv (Eqv.refl _) e, fun a b => (J.least a b).eqv e (Eqv.refl _)⟩
theorem IsJoin.eqv1 {m g' h' : List Ac} (J : IsJoin l g h m) (e : Eqv (depA l) g g') (e' : Eqv (depA l) h h') : IsJoin l g' h' m :=
  ⟨J.left.eqv e (Eqv.refl _), J.right.eqv e' (Eqv.refl _), fun a b => J.least (a.eqv e.symm (Eqv.refl _)) (b.eqv e'.symm (Eqv.refl _))⟩
/-- what is merged runs, where it is not too long -/
theorem join_run {t u : StB} (R : Runs blank l g t) (S : Runs blank l h u) (hf : Free2 l g h) : ∃ v, runO (stB l) (blank, 0) (joinA l g h) = some v := by
  have B := bey_A l g h
  have R1 := (R.eqv B.left.symm).run
  have S1 := (S.eqv B.right.symm).run
  obtain ⟨s, h1, h2⟩ := runO_pre R1
  obtain ⟨s', h3, h4⟩ := runO_pre S1
  rw [h1] at h3; cases h3
  obtain ⟨v, h5⟩ := runO_join (stepsA (pat_len R.pat)) hf h2 h4
  refine ⟨v, runO_eqv (depA_refl l) (depA_symm l) (stepsA (pat_len R.pat)) (joinA_eqv l g h) ?_⟩
  rw [runO_app, h1]; exact h5
theorem join_good {t u : StB} (R : Runs blank l g t) (S : Runs blank l h u) (hf : Free2 l g h) (hn : (joinA l g h).length ≤ 60) : ∃ v, Runs blank l (joinA l g h) v := by
  obtain ⟨v, hv⟩ := join_run R S hf
  exact ⟨v, R.pat, hn, hv⟩
theorem join_len (l : List Sol) (g h : List Ac) : (joinA l g h).length ≤ g.length + h.length := by
  have B := bey_A l g h
  have h1 := (joinA_eqv l g h).len (depA_refl l)
  have h2 := B.left.len (depA_refl l)
  have h3 := B.right.len (depA_refl l)
  simp only [List.length_append] at h1 h2 h3
  omega
/-! the wood -/
def xorA (l : List Sol) : List Ac → Sol
  | [] => 0
  | a :: m => acCells l a ^^^ xorA l m
theorem st_wood {s t : StB} {a : Ac} (h : stB l s a = some t) : t.1 = s.1 ^^^ acCells l a := by
  have hf := stB_fits h
  have k1 : ∀ {s c : Sol}, c &&& s = c → s &&& ~~~c = s ^^^ c := by
    intro s c h
    apply BitVec.eq_of_getLsbD_eq
    intro i hi
    rw [BitVec.getLsbD_and, BitVec.getLsbD_xor, not_lsb _ hi]
    have := bv_sub.1 h i
    revert this
    cases c.getLsbD i <;> cases s.getLsbD i <;> simp
  have k2 : ∀ {s c : Sol}, c &&& s = 0 → s ||| c = s ^^^ c := by
    intro s c h
    apply BitVec.eq_of_getLsbD_eq
    intro i hi
    rw [BitVec.getLsbD_or, BitVec.getLsbD_xor]
    have := bv_no.1 h i
    revert this
    cases c.getLsbD i <;> cases s.getLsbD i <;> simp
  rcases fits_kindA hf with k | k | k
  · rw [stB_cut hf k, ite_some] at h
    rw [h.2]; exact k1 h.1
  · rw [stB_fit hf k, ite_some] at h
    rw [h.2]; exact k2 h.1.2
  · rw [stB_take hf k, ite_some] at h
    rw [h.2]; exact k1 h.1.2
theorem run_wood : ∀ {m : List Ac} {s t : StB}, runO (stB l) s m = some t → t.1 = s.1 ^^^ xorA l m
  | [], s, t, h => by cases h; simp [xorA]
  | a :: m, s, t, h => by
    simp only [runO, Option.bind_eq_some_iff] at h
    obtain ⟨s1, h1, h2⟩ := h
    rw [run_wood h2, st_wood h1, xorA, BitVec.xor_assoc]
theorem xorA_app : ∀ (m m' : List Ac), xorA l (m ++ m') = xorA l m ^^^ xorA l m'
  | [], m' => by simp [xorA]
  | a :: m, m' => by rw [List.cons_append, xorA, xorA, xorA_app, BitVec.xor_assoc]
/-- the wood of what is merged -/
theorem join_wood {t u v w : StB} (R : Runs blank l g t) (S : Runs blank l h u) (C : Runs blank l (beyA l g h).1 w) (V : Runs blank l (joinA l g h) v) : v.1 = w.1 ^^^ (t.1 ^^^ w.1) ^^^ (u.1 ^^^ w.1) := by
  have B := bey_A l g h
  have h1 := run_wood (R.eqv B.left.symm).run
  have h2 := run_wood (S.eqv B.right.symm).run
  have h3 := run_wood C.run
  have h4 := run_wood (V.eqv (joinA_eqv l g h)).run
  rw [xorA_app] at h1 h2 h4
  rw [xorA_app] at h4
  rw [h1, h2, h3, h4]
  apply BitVec.eq_of_getLsbD_eq
  intro i hi
  simp only [BitVec.getLsbD_xor]
  generalize (blank, (0 : BitVec 8)).1.getLsbD i = p
  generalize (xorA l (beyA l g h).1).getLsbD i = q
  generalize (xorA l (beyA l g h).2.1).getLsbD i = r
  generalize (xorA l (beyA l g h).2.2).getLsbD i = s
  revert p q r s
  decide
end
end Go.Proofs.YtccnkebkgegohaaGreatDoor
end
section
namespace Go.Proofs.YtccnkebkgegohaaGreatDoor
open Go.RowKit Go.Rel
set_option maxRecDepth 100000
/-! histories in a slice; few -/
abbrev Hv := Sol × Value × Value
abbrev hvL (h : Hv) : List Value := [.int .u64 (pl h.1 0), .int .u64 (pl h.1 1), .int .u64 (pl h.1 2), .int .u64 (pl h.1 3), .int .u64 (pl h.1 4), .int .u64 (pl h.1 5), .int .u64 (pl h.1 6), .int .u64 (pl h.1 7), h.2.1, h.2.2]
abbrev hvV (h : Hv) : Value := .agg #[.int .u64 (pl h.1 0), .int .u64 (pl h.1 1), .int .u64 (pl h.1 2), .int .u64 (pl h.1 3), .int .u64 (pl h.1 4), .int .u64 (pl h.1 5), .int .u64 (pl h.1 6), .int .u64 (pl h.1 7), h.2.1, h.2.2]
theorem hv_cells {w : World} {b off : Nat} {l : List Hv} {k : Nat} {x : Hv} (h : Cells w b off 10 (l.map hvL)) (hx : l[k]? = some x) :
    w.cell? ⟨b, off + k * 10, none⟩ = some (.int .u64 (pl x.1 0)) ∧ w.cell? ⟨b, off + k * 10 + 1, none⟩ = some (.int .u64 (pl x.1 1)) ∧ w.cell? ⟨b, off + k * 10 + 2, none⟩ = some (.int .u64 (pl x.1 2)) ∧ w.cell? ⟨b, off + k * 10 + 3, none⟩ = some (.int .u64 (pl x.1 3)) ∧ w.cell? ⟨b, off + k * 10 + 4, none⟩ = some (.int .u64 (pl x.1 4)) ∧
    w.cell? ⟨b, off + k * 10 + 5, none⟩ = some (.int .u64 (pl x.1 5)) ∧ w.cell? ⟨b, off + k * 10 + 6, none⟩ = some (.int .u64 (pl x.1 6)) ∧ w.cell? ⟨b, off + k * 10 + 7, none⟩ = some (.int .u64 (pl x.1 7)) ∧ w.cell? ⟨b, off + k * 10 + 8, none⟩ = some x.2.1 ∧ w.cell? ⟨b, off + k * 10 + 9, none⟩ = some x.2.2 := by
  have hm : (l.map hvL)[k]? = some (hvL x) := by simp [hx]
  exact ⟨h.2 k 0 _ (by rw [hm]; rfl), h.2 k 1 _ (by rw [hm]; rfl), h.2 k 2 _ (by rw [hm]; rfl), h.2 k 3 _ (by rw [hm]; rfl), h.2 k 4 _ (by rw [hm]; rfl), h.2 k 5 _ (by rw [hm]; rfl), h.2 k 6 _ (by rw [hm]; rfl), h.2 k 7 _ (by rw [hm]; rfl), h.2 k 8 _ (by rw [hm]; rfl), h.2 k 9 _ (by rw [hm]; rfl)⟩
def many (m n : Nat) : Bool := decide ((14 < m ∧ m ≤ 60) ∨ 100 < m ∨ 10 < n)
set_option maxHeartbeats 4000000 in
theorem few86 (b : Sol) (a a' : Option Addr) (n c m c' : Nat) (w : World) : Calls Tryz.prog 86 #[.agg #[.int .u64 (pl b 0), .int .u64 (pl b 1), .int .u64 (pl b 2), .int .u64 (pl b 3), .int .u64 (pl b 4), .int .u64 (pl b 5), .int .u64 (pl b 6), .int .u64 (pl b 7), .slice a n c, .slice a' m c']] w fun e w' => e = .returned (.bool (many m n)) ∧ Below w.heap.size w w' := by
  go_enter Tryz.func86, Tryz.ntmps86
  go_wp2_with fail
  all_goals go_ret
  all_goals refine ⟨ret_bool ?_, (by repeat (first | with_reducible exact bel_refl _ | with_reducible assumption | with_reducible refine bel_drewN ?_ _ | with_reducible refine bel_drew ?_ | with_reducible refine bel_alloc ?_ _ | with_reducible refine bel_row ?_ ?_ _ | with_reducible refine bel_set ?_ ?_ _ | refine bel_trans ?_ (by with_reducible assumption) | (simp; done) | (simp; omega)))⟩
  all_goals (unfold many; rw [Bool.eq_iff_iff, decide_eq_true_iff]; first | omega | (simp; omega))
set_option maxHeartbeats 2000000 in
theorem IndexFunc140 (v : Value) (l : List Hv) (p : Hv → Bool) (w : World) (h : Sl w 10 v (l.map hvL))
    (hf : ∀ w', Below w.heap.size w w' → ∀ x ∈ l, Calls Tryz.prog 86 #[hvV x] w' fun e w'' => e = .returned (.bool (p x)) ∧ Below w'.heap.size w' w'') :
    Calls Tryz.prog 140 #[v, .func (.func 86) #[] #[]] w fun e w' => e = .returned (.int .i64 (idx p l)) ∧ Below w.heap.size w w' := by
  rcases h.cases with ⟨hl, a, c, rfl, hm⟩ | ⟨b, off, c, rfl, hc, hm, hpos, hcs⟩
  · have hl' : l = [] := by simpa using hl
    subst hl'
    clear hl
    go_enter Tryz.func140, Tryz.ntmps140
    go_wp2
    refine wp_loop_rounds 1 ?_
    rw [rounds_succ]
    go_wp2
    go_ret
    exact ⟨rfl, Below.refl _ _⟩
  · rw [List.length_map] at hc hpos ⊢
    have H := Lib.hid hcs; clear hcs h
    have HF := Lib.hid hf; clear hf
    generalize hn : l.length = n at hc hpos ⊢
    have HN := Lib.hid hn; clear hn
    go_enter Tryz.func140, Tryz.ntmps140
    go_wp2_with fail
    go_loopw [8] (fun i wr => ∃ k : Nat, k ≤ n ∧ i = .int .i64 k ∧ Hid (∀ (j : Nat) (y : Hv), j < k → l[j]? = some y → p y = false) ∧ Below w.heap.size w wr) (fun i _ => n - (intOf i).toNat)
    case atStart => exact ⟨0, Nat.zero_le _, rfl, fun j y hj => by omega, Below.refl _ _⟩
    case round =>
      obtain ⟨k, hk, rfl, HP, hbel⟩ := hrel
      by_cases hlt : k < n
      · have hx : l[k]? = some (l[k]'(by rw [HN.out]; exact hlt)) := by simp
        have hcc := hv_cells (H.out.mono hbel H.out.1) hx
        have hmem := List.mem_of_getElem? hx
        generalize l[k]'(by rw [HN.out]; exact hlt) = x at hx hcc hmem
        obtain ⟨c0, c1, c2, c3, c4, c5, c6, c7, c8, c9⟩ := hcc
        have HX := Lib.hid hx; clear hx
        have HM := Lib.hid hmem; clear hmem
        have hsz := hbel.size
        go_wp2_with fail
        refine (HF.out _ hbel x HM.out).mono ?_
        rintro e w2 ⟨rfl, hb2⟩
        have hB : Below w.heap.size w w2 := bel_trans hbel hb2
        clear hb2 c0 c1 c2 c3 c4 c5 c6 c7 c8 c9
        cases hp : p x with
        | true =>
          go_wp2_with fail
          go_ret
          exact ⟨ret_int (idx_found HX.out hp HP.out).symm, hB⟩
        | false =>
          go_wp2_with fail
          go_roundw
          case rel => exact ⟨k + 1, by omega, by go_num, fun j y hj hy => (by
            rcases Nat.lt_or_eq_of_le (Nat.le_of_lt_succ hj) with h | h
            · exact HP.out j y h hy
            · subst h; rw [HX.out] at hy; cases hy; exact hp), hB⟩
          case measure => simp [intOf]; omega
      · go_wp2_with fail
        go_ret
        exact ⟨ret_int (idx_none (fun j y hy => HP.out j y (by have := (List.getElem?_eq_some_iff.1 hy).1; rw [HN.out] at this; omega) hy)).symm, hbel⟩
set_option maxHeartbeats 2000000 in
theorem ContainsFunc85 (v : Value) (l : List Hv) (p : Hv → Bool) (w : World) (h : Sl w 10 v (l.map hvL))
    (hf : ∀ w', Below w.heap.size w w' → ∀ x ∈ l, Calls Tryz.prog 86 #[hvV x] w' fun e w'' => e = .returned (.bool (p x)) ∧ Below w'.heap.size w' w'') :
    Calls Tryz.prog 85 #[v, .func (.func 86) #[] #[]] w fun e w' => e = .returned (.bool (l.any p)) ∧ Below w.heap.size w w' := by
  have hge := idx_ge p l
  have hany : Hid (l.any p = decide (0 ≤ idx p l)) := by
    show _ = _
    rw [Bool.eq_iff_iff, decide_eq_true_eq, idx_nonneg]
  have hidx := Lib.hid (IndexFunc140 v l p w h hf)
  generalize idx p l = i at hge hany hidx
  clear hf h
  go_enter Tryz.func85, Tryz.ntmps85
  go_wp2_with fail
  refine hidx.out.mono ?_
  rintro e w1 ⟨rfl, hb⟩
  go_wp2_with fail
  go_ret
  refine ⟨?_, hb⟩
  rw [hany.out]; rfl
/-- how many acts, pieces a history has -/
def manyH (h : Hv) : Bool := match h.2.1, h.2.2 with
  | .slice _ n _, .slice _ m _ => many m n
  | _, _ => false
set_option maxHeartbeats 2000000 in
theorem few_spec (v : Value) (l : List Hv) (w : World) (h : Sl w 10 v (l.map hvL)) (hs : ∀ x ∈ l, ∃ b a n c a' m c', x = (b, .slice a n c, .slice a' m c')) :
    Calls Tryz.prog 19 #[v] w fun e w' => e = .returned (.bool (!l.any manyH)) ∧ Below w.heap.size w w' := by
  have H := Lib.hid (ContainsFunc85 v l manyH w h fun w' _ x hx => by
    obtain ⟨b, a, n, c, a', m, c', rfl⟩ := hs x hx
    exact few86 b a a' n c m c' w')
  generalize l.any manyH = r at *
  clear h hs
  go_enter Tryz.func19, Tryz.ntmps19
  go_wp2_with fail
  refine H.out.mono ?_
  rintro e w1 ⟨rfl, hb⟩
  go_wp2_with fail
  go_ret
  exact ⟨rfl, hb⟩
end Go.Proofs.YtccnkebkgegohaaGreatDoor
end
section
namespace Go.Proofs.YtccnkebkgegohaaGreatDoor
open Go.RowKit Go.Rel
set_option maxRecDepth 100000
/-! SameActs, SamePattern, Same, same -/
set_option maxHeartbeats 4000000 in
theorem SameActs_spec (v u : Value) (l m : List Ac) (w : World) (hv : SlA w v l) (hu : SlA w u m) :
    Calls Tryz.prog 80 #[v, u] w fun e w' => e = .returned (.bool (l == m)) ∧ Below w.heap.size w w' := by
  have hlv : ∃ a c, v = .slice a l.length c := by obtain ⟨a, c, h, _⟩ := hv; exact ⟨a, c, by rw [h, List.length_map]⟩
  have hlu : ∃ a c, u = .slice a m.length c := by obtain ⟨a, c, h, _⟩ := hu; exact ⟨a, c, by rw [h, List.length_map]⟩
  by_cases hlen : l.length = m.length
  · rcases hv.cases with ⟨hl, a, c, rfl, hm⟩ | ⟨b, off, c, rfl, hc, hm, hpos, hcs⟩
    · have hl' : l = [] := by simpa using hl
      subst hl'
      have hm' : m = [] := List.eq_nil_of_length_eq_zero hlen.symm
      subst hm'
      obtain ⟨a', c', rfl⟩ := hlu
      clear hlv hl hv hu hlen
      simp only [List.length_nil]
      go_enter Tryz.func80, Tryz.ntmps80
      go_wp2_with fail
      refine wp_loop_rounds 1 ?_
      rw [rounds_succ]
      go_wp2_with fail
      go_ret
      exact ⟨rfl, Below.refl _ _⟩
    · rcases hu.cases with ⟨hl, _⟩ | ⟨b', off', c', rfl, hc', hm', hpos', hcs'⟩
      · have hl' : m = [] := by simpa using hl
        subst hl'
        rw [List.length_map] at hpos
        simp at hlen; rw [hlen] at hpos; simp at hpos
      rw [List.length_map] at hc hpos hc' hpos' ⊢
      rw [List.length_map]
      rw [← hlen] at hc' hpos' ⊢
      have H := Lib.hid hcs; have H' := Lib.hid hcs'
      have lb := hcs.1; have lb' := hcs'.1
      clear hcs hcs' hv hu hlv hlu
      generalize hn : l.length = n at *
      have HN := Lib.hid (And.intro hn hlen); clear hn hlen
      go_enter Tryz.func80, Tryz.ntmps80
      go_wp2_with fail
      go_loopw [5] (fun i wr => ∃ k q : Nat, k ≤ n ∧ i = .int .i64 k ∧ Hid (∀ (j : Nat), j < k → l[j]? = m[j]?) ∧ wr = w.drewN q) (fun i _ => n - (intOf i).toNat)
      case atStart => exact ⟨0, 0, Nat.zero_le _, rfl, fun j hj => (by omega), rfl⟩
      case round =>
        obtain ⟨k, q, hk, rfl, HP, rfl⟩ := hrel
        by_cases hlt : k < n
        · have hx : l[k]? = some (l[k]'(by rw [HN.out.1]; exact hlt)) := by simp
          have hy : m[k]? = some (m[k]'(by rw [← HN.out.2]; exact hlt)) := by simp
          generalize l[k]'(by rw [HN.out.1]; exact hlt) = x at hx
          generalize m[k]'(by rw [← HN.out.2]; exact hlt) = y at hy
          obtain ⟨c0, c1, c2, c3, c4, c5, c6, c7, c8, c9⟩ := ac_cells H.out hx
          obtain ⟨d0, d1, d2, d3, d4, d5, d6, d7, d8, d9⟩ := ac_cells H'.out hy
          have HX := Lib.hid (And.intro hx hy); clear hx hy
          go_wp2_with fail
          go_quiet (fail)
          go_wp2_with fail
          · have he : (x != y) = true := by assumption
            have hz : (l == m) = false := by
              rw [beq_eq_false_iff_ne]
              intro h
              have h1 := HX.out.1
              rw [h, HX.out.2] at h1
              cases h1
              simp at he
            go_ret
            exact ⟨ret_bool hz.symm, (by repeat (first | with_reducible exact bel_refl _ | with_reducible assumption | with_reducible refine bel_drewN ?_ _ | with_reducible refine bel_drew ?_ | with_reducible refine bel_alloc ?_ _ | with_reducible refine bel_row ?_ ?_ _ | with_reducible refine bel_set ?_ ?_ _ | refine bel_trans ?_ (by with_reducible assumption) | (simp; done) | (simp; omega)))⟩
          · have he : (x != y) = false := by assumption
            have hxy : x = y := by simpa using he
            refine ⟨⟨k + 1, q + nq, by omega, by go_num, fun j hj => ?_, rfl⟩, by simp [intOf]; omega⟩
            rcases Nat.lt_or_eq_of_le (Nat.le_of_lt_succ hj) with h | h
            · exact HP.out j h
            · subst h; rw [HX.out.1, HX.out.2, hxy]
        · have hkn : k = n := by omega
          subst hkn
          have hz : (l == m) = true := by
            rw [beq_iff_eq]
            apply List.ext_getElem?
            intro j
            by_cases hj : j < l.length
            · exact HP.out j (by rw [← HN.out.1]; exact hj)
            · rw [List.getElem?_eq_none (by omega), List.getElem?_eq_none (by have := HN.out; omega)]
          have HZ := Lib.hid hz; clear hz
          go_wp2_with fail
          go_ret
          exact ⟨ret_bool HZ.out.symm, below_drewN (Below.refl _ _) _⟩
  · have hz : (l == m) = false := by
      rw [beq_eq_false_iff_ne]
      exact fun h => hlen (by rw [h])
    obtain ⟨a, c, rfl⟩ := hlv
    obtain ⟨a', c', rfl⟩ := hlu
    have HZ := Lib.hid hz; clear hz hv hu
    generalize l.length = n at *
    generalize m.length = n' at *
    go_enter Tryz.func80, Tryz.ntmps80
    go_wp2_with fail
    go_ret
    exact ⟨ret_bool HZ.out.symm, Below.refl _ _⟩

set_option maxHeartbeats 4000000 in
theorem SamePattern_loop (blank : Sol) (b off b' off' c c' n : Nat) (l m : List Sol) (w : World) (hcs : Cells w b off 8 (l.map solL)) (hcs' : Cells w b' off' 8 (m.map solL)) (hn : l.length = n) (hn' : m.length = n) (hc : n ≤ c) (hc' : n ≤ c') (hm : c ≤ 9223372036854775807) (hm' : c' ≤ 9223372036854775807) :
    Calls Tryz.prog 25 #[.agg #[.int .u64 (pl blank 0), .int .u64 (pl blank 1), .int .u64 (pl blank 2), .int .u64 (pl blank 3), .int .u64 (pl blank 4), .int .u64 (pl blank 5), .int .u64 (pl blank 6), .int .u64 (pl blank 7), .slice (some ⟨b, off, none⟩) n c], .agg #[.int .u64 (pl blank 0), .int .u64 (pl blank 1), .int .u64 (pl blank 2), .int .u64 (pl blank 3), .int .u64 (pl blank 4), .int .u64 (pl blank 5), .int .u64 (pl blank 6), .int .u64 (pl blank 7), .slice (some ⟨b', off', none⟩) n c']] w fun e w' => e = .returned (.bool (l == m)) ∧ Below w.heap.size w w' := by
  have H := Lib.hid hcs; have H' := Lib.hid hcs'
  have lb := hcs.1; have lb' := hcs'.1
  have hb1 : b < w.heap.size + 1 := by omega
  have hb1' : b' < w.heap.size + 1 := by omega
  clear hcs hcs'
  have HN := Lib.hid (And.intro hn (hn.trans hn'.symm)); clear hn hn'
  go_enter Tryz.func25, Tryz.ntmps25
  go_wp2_with fail
  go_loopw [5] (fun i wr => ∃ k q : Nat, k ≤ n ∧ i = .int .i64 k ∧ Hid (∀ (j : Nat), j < k → l[j]? = m[j]?) ∧ wr = ((w.alloc (.cells (#[.int .u64 (pl blank 0), .int .u64 (pl blank 1), .int .u64 (pl blank 2), .int .u64 (pl blank 3), .int .u64 (pl blank 4), .int .u64 (pl blank 5), .int .u64 (pl blank 6), .int .u64 (pl blank 7), .slice (some ⟨b, off, none⟩) n c] : Array Value) 27)).alloc (.cells (#[.int .u64 (pl blank 0), .int .u64 (pl blank 1), .int .u64 (pl blank 2), .int .u64 (pl blank 3), .int .u64 (pl blank 4), .int .u64 (pl blank 5), .int .u64 (pl blank 6), .int .u64 (pl blank 7), .slice (some ⟨b', off', none⟩) n c'] : Array Value) 27)).drewN q) (fun i _ => n - (intOf i).toNat)
  case atStart => exact ⟨0, 0, Nat.zero_le _, rfl, fun j hj => (by omega), rfl⟩
  case round =>
    obtain ⟨k, q, hk, rfl, HP, rfl⟩ := hrel
    by_cases hlt : k < n
    · have hx : l[k]? = some (l[k]'(by rw [HN.out.1]; exact hlt)) := by simp
      have hy : m[k]? = some (m[k]'(by rw [← HN.out.2, HN.out.1]; exact hlt)) := by simp
      generalize l[k]'(by rw [HN.out.1]; exact hlt) = x at hx
      generalize m[k]'(by rw [← HN.out.2, HN.out.1]; exact hlt) = y at hy
      obtain ⟨c0, c1, c2, c3, c4, c5, c6, c7⟩ := sol_cells H.out hx
      obtain ⟨d0, d1, d2, d3, d4, d5, d6, d7⟩ := sol_cells H'.out hy
      have HX := Lib.hid (And.intro hx hy); clear hx hy
      go_wp2_with fail
      go_quiet (fail)
      go_wp2_with fail
      · have he : (x != y) = true := by assumption
        have hz : (l == m) = false := by
          rw [beq_eq_false_iff_ne]
          intro h
          have h1 := HX.out.1
          rw [h, HX.out.2] at h1
          cases h1
          simp at he
        go_ret
        exact ⟨ret_bool hz.symm, (by repeat (first | with_reducible exact bel_refl _ | with_reducible assumption | with_reducible refine bel_drewN ?_ _ | with_reducible refine bel_drew ?_ | with_reducible refine bel_alloc ?_ _ | with_reducible refine bel_row ?_ ?_ _ | with_reducible refine bel_set ?_ ?_ _ | refine bel_trans ?_ (by with_reducible assumption) | (simp; done) | (simp; omega)))⟩
      · have he : (x != y) = false := by assumption
        have hxy : x = y := by simpa using he
        refine ⟨⟨k + 1, q + nq, by omega, by go_num, fun j hj => ?_, rfl⟩, by simp [intOf]; omega⟩
        rcases Nat.lt_or_eq_of_le (Nat.le_of_lt_succ hj) with h | h
        · exact HP.out j h
        · subst h; rw [HX.out.1, HX.out.2, hxy]
    · have hkn : k = n := by omega
      subst hkn
      have hz : (l == m) = true := by
        rw [beq_iff_eq]
        apply List.ext_getElem?
        intro j
        by_cases hj : j < l.length
        · exact HP.out j (by rw [← HN.out.1]; exact hj)
        · rw [List.getElem?_eq_none (by omega), List.getElem?_eq_none (by have := HN.out; omega)]
      have HZ := Lib.hid hz; clear hz
      go_wp2_with fail
      go_ret
      exact ⟨ret_bool HZ.out.symm, (by repeat (first | with_reducible exact bel_refl _ | with_reducible assumption | with_reducible refine bel_drewN ?_ _ | with_reducible refine bel_drew ?_ | with_reducible refine bel_alloc ?_ _ | with_reducible refine bel_row ?_ ?_ _ | with_reducible refine bel_set ?_ ?_ _ | refine bel_trans ?_ (by with_reducible assumption) | (simp; done) | (simp; omega)))⟩
set_option maxHeartbeats 4000000 in
theorem SamePattern_len (blank : Sol) (a a' : Option Addr) (n n' c c' : Nat) (w : World) (h : n ≠ n') :
    Calls Tryz.prog 25 #[.agg #[.int .u64 (pl blank 0), .int .u64 (pl blank 1), .int .u64 (pl blank 2), .int .u64 (pl blank 3), .int .u64 (pl blank 4), .int .u64 (pl blank 5), .int .u64 (pl blank 6), .int .u64 (pl blank 7), .slice a n c], .agg #[.int .u64 (pl blank 0), .int .u64 (pl blank 1), .int .u64 (pl blank 2), .int .u64 (pl blank 3), .int .u64 (pl blank 4), .int .u64 (pl blank 5), .int .u64 (pl blank 6), .int .u64 (pl blank 7), .slice a' n' c']] w fun e w' => e = .returned (.bool false) ∧ Below w.heap.size w w' := by
  go_enter Tryz.func25, Tryz.ntmps25
  go_wp2_with fail
  all_goals go_ret
  all_goals exact ⟨rfl, (by repeat (first | with_reducible exact bel_refl _ | with_reducible assumption | with_reducible refine bel_drewN ?_ _ | with_reducible refine bel_drew ?_ | with_reducible refine bel_alloc ?_ _ | with_reducible refine bel_row ?_ ?_ _ | with_reducible refine bel_set ?_ ?_ _ | refine bel_trans ?_ (by with_reducible assumption) | (simp; done) | (simp; omega)))⟩
set_option maxHeartbeats 4000000 in
theorem SamePattern_nil (blank : Sol) (a a' : Option Addr) (c c' : Nat) (w : World) :
    Calls Tryz.prog 25 #[.agg #[.int .u64 (pl blank 0), .int .u64 (pl blank 1), .int .u64 (pl blank 2), .int .u64 (pl blank 3), .int .u64 (pl blank 4), .int .u64 (pl blank 5), .int .u64 (pl blank 6), .int .u64 (pl blank 7), .slice a 0 c], .agg #[.int .u64 (pl blank 0), .int .u64 (pl blank 1), .int .u64 (pl blank 2), .int .u64 (pl blank 3), .int .u64 (pl blank 4), .int .u64 (pl blank 5), .int .u64 (pl blank 6), .int .u64 (pl blank 7), .slice a' 0 c']] w fun e w' => e = .returned (.bool true) ∧ Below w.heap.size w w' := by
  go_enter Tryz.func25, Tryz.ntmps25
  go_wp2_with fail
  refine wp_loop_rounds 1 ?_
  rw [rounds_succ]
  go_wp2_with fail
  all_goals go_ret
  all_goals exact ⟨rfl, (by repeat (first | with_reducible exact bel_refl _ | with_reducible assumption | with_reducible refine bel_drewN ?_ _ | with_reducible refine bel_drew ?_ | with_reducible refine bel_alloc ?_ _ | with_reducible refine bel_row ?_ ?_ _ | with_reducible refine bel_set ?_ ?_ _ | refine bel_trans ?_ (by with_reducible assumption) | (simp; done) | (simp; omega)))⟩
set_option maxHeartbeats 4000000 in
theorem SamePattern_blank (blank blank2 : Sol) (h : (blank != blank2) = true) (a a' : Option Addr) (n n' c c' : Nat) (w : World) :
    Calls Tryz.prog 25 #[.agg #[.int .u64 (pl blank 0), .int .u64 (pl blank 1), .int .u64 (pl blank 2), .int .u64 (pl blank 3), .int .u64 (pl blank 4), .int .u64 (pl blank 5), .int .u64 (pl blank 6), .int .u64 (pl blank 7), .slice a n c], .agg #[.int .u64 (pl blank2 0), .int .u64 (pl blank2 1), .int .u64 (pl blank2 2), .int .u64 (pl blank2 3), .int .u64 (pl blank2 4), .int .u64 (pl blank2 5), .int .u64 (pl blank2 6), .int .u64 (pl blank2 7), .slice a' n' c']] w fun e w' => e = .returned (.bool false) ∧ Below w.heap.size w w' := by
  go_enter Tryz.func25, Tryz.ntmps25
  go_wp2_with fail
  all_goals first | (exfalso; have hh : blank = blank2 := by assumption
                     subst hh; simp at h; done) | (go_ret; exact ⟨rfl, (by repeat (first | with_reducible exact bel_refl _ | with_reducible assumption | with_reducible refine bel_drewN ?_ _ | with_reducible refine bel_drew ?_ | with_reducible refine bel_alloc ?_ _ | with_reducible refine bel_row ?_ ?_ _ | with_reducible refine bel_set ?_ ?_ _ | refine bel_trans ?_ (by with_reducible assumption) | (simp; done) | (simp; omega)))⟩)
theorem SamePattern_spec (blank blank2 : Sol) (v v2 : Value) (l l2 : List Sol) (w : World) (hv : SlS w v l) (hu : SlS w v2 l2) :
    Calls Tryz.prog 25 #[.agg #[.int .u64 (pl blank 0), .int .u64 (pl blank 1), .int .u64 (pl blank 2), .int .u64 (pl blank 3), .int .u64 (pl blank 4), .int .u64 (pl blank 5), .int .u64 (pl blank 6), .int .u64 (pl blank 7), v], .agg #[.int .u64 (pl blank2 0), .int .u64 (pl blank2 1), .int .u64 (pl blank2 2), .int .u64 (pl blank2 3), .int .u64 (pl blank2 4), .int .u64 (pl blank2 5), .int .u64 (pl blank2 6), .int .u64 (pl blank2 7), v2]] w fun e w' => e = .returned (.bool (samePat blank l blank2 l2)) ∧ Below w.heap.size w w' := by
  unfold samePat
  by_cases hb : blank = blank2
  · subst hb
    rw [beq_self_eq_true, Bool.true_and]
    by_cases hl : l.length = l2.length
    · rcases hv.cases with ⟨h0, a, c, rfl, hm⟩ | ⟨b, off, c, rfl, hc, hm, hpos, hcs⟩
      · have h0' : l = [] := by simpa using h0
        subst h0'
        have h1' : l2 = [] := List.eq_nil_of_length_eq_zero hl.symm
        subst h1'
        obtain ⟨a', c', rfl, _⟩ := hu
        exact SamePattern_nil blank a a' c c' w
      · rcases hu.cases with ⟨h0, _⟩ | ⟨b', off', c', rfl, hc', hm', hpos', hcs'⟩
        · have h0' : l2 = [] := by simpa using h0
          subst h0'
          rw [List.length_map] at hpos
          simp at hl; rw [hl] at hpos; simp at hpos
        · rw [List.length_map] at hc hpos hc' hpos' ⊢
          rw [List.length_map]
          rw [← hl] at hc' ⊢
          exact SamePattern_loop blank b off b' off' c c' l.length l l2 w hcs hcs' rfl hl.symm hc hc' hm hm'
    · have hz : (l == l2) = false := by
        rw [beq_eq_false_iff_ne]
        exact fun h => hl (by rw [h])
      rw [hz]
      obtain ⟨a, c, rfl, _⟩ := hv
      obtain ⟨a', c', rfl, _⟩ := hu
      exact SamePattern_len blank a a' _ _ c c' w (by simpa using hl)
  · have : (blank == blank2) = false := by simpa using hb
    rw [this, Bool.false_and]
    obtain ⟨a, c, rfl, _⟩ := hv
    obtain ⟨a', c', rfl, _⟩ := hu
    exact SamePattern_blank blank blank2 (by simpa using hb) a a' _ _ c c' w
set_option maxHeartbeats 4000000 in
theorem Same_spec (blank blank2 : Sol) (v av v2 av2 : Value) (l l2 : List Sol) (m m2 : List Ac) (w : World) (hv : SlS w v l) (ha : SlA w av m) (hv2 : SlS w v2 l2) (ha2 : SlA w av2 m2) :
    Calls Tryz.prog 23 #[.agg #[.int .u64 (pl blank 0), .int .u64 (pl blank 1), .int .u64 (pl blank 2), .int .u64 (pl blank 3), .int .u64 (pl blank 4), .int .u64 (pl blank 5), .int .u64 (pl blank 6), .int .u64 (pl blank 7), v, av], .agg #[.int .u64 (pl blank2 0), .int .u64 (pl blank2 1), .int .u64 (pl blank2 2), .int .u64 (pl blank2 3), .int .u64 (pl blank2 4), .int .u64 (pl blank2 5), .int .u64 (pl blank2 6), .int .u64 (pl blank2 7), v2, av2]] w fun e w' => e = .returned (.bool (samePat blank l blank2 l2 && (m == m2))) ∧ Below w.heap.size w w' := by
  have H1 := Lib.hid fun w' (hb : Below w.heap.size w w') => SamePattern_spec blank blank2 v v2 l l2 w' (hv.mono hb) (hv2.mono hb)
  have H2 := Lib.hid fun w' (hb : Below w.heap.size w w') => SameActs_spec av av2 m m2 w' (ha.mono hb) (ha2.mono hb)
  generalize samePat blank l blank2 l2 = r at *
  generalize (m == m2) = r2 at *
  clear hv ha hv2 ha2
  go_enter Tryz.func23, Tryz.ntmps23
  go_wp2_with fail
  refine (H1.out _ (by repeat (first | with_reducible exact bel_refl _ | with_reducible assumption | with_reducible refine bel_drewN ?_ _ | with_reducible refine bel_drew ?_ | with_reducible refine bel_alloc ?_ _ | with_reducible refine bel_row ?_ ?_ _ | with_reducible refine bel_set ?_ ?_ _ | refine bel_trans ?_ (by with_reducible assumption) | (simp; done) | (simp; omega)))).mono ?_
  rintro e w1 ⟨rfl, hb⟩
  have hB1 : Below w.heap.size w w1 := bel_trans (by repeat (first | with_reducible exact bel_refl _ | with_reducible assumption | with_reducible refine bel_drewN ?_ _ | with_reducible refine bel_drew ?_ | with_reducible refine bel_alloc ?_ _ | with_reducible refine bel_row ?_ ?_ _ | with_reducible refine bel_set ?_ ?_ _ | refine bel_trans ?_ (by with_reducible assumption) | (simp; done) | (simp; omega))) hb
  have g0 : Blk w1 w.heap.size #[.int .u64 (pl blank 0), .int .u64 (pl blank 1), .int .u64 (pl blank 2), .int .u64 (pl blank 3), .int .u64 (pl blank 4), .int .u64 (pl blank 5), .int .u64 (pl blank 6), .int .u64 (pl blank 7), v, av] 30 := Blk.grow (by repeat (first | with_reducible assumption | (refine Blk.at _ _ ?_; (simp; done)) | with_reducible refine Blk.alloc ?_ _ | with_reducible refine Blk.drew ?_ | with_reducible refine Blk.rowS ?_ _ | with_reducible refine Blk.rowO ?_ _ (by simp))) hb
  have g1 : Blk w1 (w.heap.size + 1) #[.int .u64 (pl blank2 0), .int .u64 (pl blank2 1), .int .u64 (pl blank2 2), .int .u64 (pl blank2 3), .int .u64 (pl blank2 4), .int .u64 (pl blank2 5), .int .u64 (pl blank2 6), .int .u64 (pl blank2 7), v2, av2] 30 := Blk.grow (by repeat (first | with_reducible assumption | (refine Blk.at _ _ ?_; (simp; done)) | with_reducible refine Blk.alloc ?_ _ | with_reducible refine Blk.drew ?_ | with_reducible refine Blk.rowS ?_ _ | with_reducible refine Blk.rowO ?_ _ (by simp))) hb
  have c0 := g0.cell
  have l0 := g0.lt
  have c1 := g1.cell
  have l1 := g1.lt
  clear hb g0 g1
  cases r with
  | false =>
    go_wp2_with fail
    go_ret
    exact ⟨rfl, hB1⟩
  | true =>
    go_wp2_with fail
    refine (H2.out _ hB1).mono ?_
    rintro e w2 ⟨rfl, hb2⟩
    have hB2 : Below w.heap.size w w2 := bel_trans hB1 hb2
    clear c0 l0 c1 l1
    go_wp2_with fail
    go_ret
    exact ⟨rfl, hB2⟩
end Go.Proofs.YtccnkebkgegohaaGreatDoor
end
section
namespace Go.Proofs.YtccnkebkgegohaaGreatDoor
open Go.RowKit Go.Rel
set_option maxRecDepth 100000
/-! the exported functions' results, one form for all ways -/
@[go_sem high] theorem eqStn (d : Nat) (s s' : Sol) (o o' : Int) (w : World) : (Op.equalIn (d+3) 37 (.agg #[.int .u64 (pl s 0), .int .u64 (pl s 1), .int .u64 (pl s 2), .int .u64 (pl s 3), .int .u64 (pl s 4), .int .u64 (pl s 5), .int .u64 (pl s 6), .int .u64 (pl s 7), .int .u8 o]) (.agg #[.int .u64 (pl s' 0), .int .u64 (pl s' 1), .int .u64 (pl s' 2), .int .u64 (pl s' 3), .int .u64 (pl s' 4), .int .u64 (pl s' 5), .int .u64 (pl s' 6), .int .u64 (pl s' 7), .int .u8 o'])).run Tryz.prog w = .ok ((s == s') && (o == o')) w := by
  rw [run_equalIn_struct w (d+2) 37 _ _ (by kernel_rfl) (by kernel_rfl)]
  go_simp
  split
  · next h1 =>
    split
    · next h2 => simp [h1, h2]
    · next h2 => simp [h1, h2]
  · next h1 => simp [h1]
/-- a returned history, and an error -/
def HRes (b : Sol) (l : List Sol) (M : List Ac) (E : Int) (w : World) (e : Ending) (w' : World) : Prop :=
  ∃ p n c q k d, e = .returned (.tuple #[.agg #[.int .u64 (pl b 0), .int .u64 (pl b 1), .int .u64 (pl b 2), .int .u64 (pl b 3), .int .u64 (pl b 4), .int .u64 (pl b 5), .int .u64 (pl b 6), .int .u64 (pl b 7), .slice p n c, .slice q k d], .int .i64 E]) ∧ SlS w' (.slice p n c) l ∧ SlA w' (.slice q k d) M ∧ Below w.heap.size w w'
theorem hres_own {b : Sol} {l : List Sol} {M : List Ac} {E : Int} {w w' : World} {base : Nat} {pv bv : Value} (hS : OwnS w' base pv l) (hA : OwnA w' base bv M) (hb : Below w.heap.size w w') : HRes b l M E w (.returned (.tuple #[.agg #[.int .u64 (pl b 0), .int .u64 (pl b 1), .int .u64 (pl b 2), .int .u64 (pl b 3), .int .u64 (pl b 4), .int .u64 (pl b 5), .int .u64 (pl b 6), .int .u64 (pl b 7), pv, bv], .int .i64 E])) w' := by
  obtain ⟨p, c, rfl, _, _⟩ := own_shape' hS
  obtain ⟨q, d, rfl, _, _⟩ := own_shape' hA
  exact ⟨p, _, c, q, _, d, rfl, hS.sl, hA.sl, hb⟩
theorem sl_nil {k : Nat} (w : World) : Sl w k (.slice none 0 0) [] := ⟨none, 0, rfl, Nat.le_refl _, by decide, .inl rfl⟩
theorem zero_hist : (.agg #[.int .u64 0, .int .u64 0, .int .u64 0, .int .u64 0, .int .u64 0, .int .u64 0, .int .u64 0, .int .u64 0, .slice none 0 0, .slice none 0 0] : Value) = .agg #[.int .u64 (pl 0 0), .int .u64 (pl 0 1), .int .u64 (pl 0 2), .int .u64 (pl 0 3), .int .u64 (pl 0 4), .int .u64 (pl 0 5), .int .u64 (pl 0 6), .int .u64 (pl 0 7), .slice none 0 0, .slice none 0 0] := by simp only [pl_zero]
theorem hres_zero {x : Int} {w w' : World} (hb : Below w.heap.size w w') : HRes 0 [] [] x w (.returned (.tuple #[.agg #[.int .u64 0, .int .u64 0, .int .u64 0, .int .u64 0, .int .u64 0, .int .u64 0, .int .u64 0, .int .u64 0, .slice none 0 0, .slice none 0 0], .int .i64 x])) w' := by
  rw [zero_hist]
  exact ⟨none, 0, 0, none, 0, 0, rfl, sl_nil w', sl_nil w', hb⟩
section
variable {b : Sol} {l : List Sol} {m : List Ac} {t : StB} {v av : Value}
theorem Reduced_r (R : Runs b l m t) (w : World) (Hv : SlS w v l) (Hav : SlA w av m) : Calls Tryz.prog 21 #[.agg #[.int .u64 (pl b 0), .int .u64 (pl b 1), .int .u64 (pl b 2), .int .u64 (pl b 3), .int .u64 (pl b 4), .int .u64 (pl b 5), .int .u64 (pl b 6), .int .u64 (pl b 7), v, av]] w (HRes b l (nrm l (redL l m)) 0 w) := by
  refine (Reduced_good R.good w Hv Hav).mono fun e w' ⟨pv, bv, he, h1, h2, h3⟩ => ?_
  subst he
  have e : actsAt m (leastI (depI (cellsOf l m)) (cmpN m) (reducedM l m).length (reducedM l m)) = nrm l (redL l m) := by
    have := reduced_eq R.fine
    unfold leastA at this
    exact this
  rw [e] at h2
  exact hres_own h1 h2 h3
theorem Normal_r (R : Runs b l m t) (w : World) (Hv : SlS w v l) (Hav : SlA w av m) : Calls Tryz.prog 55 #[.agg #[.int .u64 (pl b 0), .int .u64 (pl b 1), .int .u64 (pl b 2), .int .u64 (pl b 3), .int .u64 (pl b 4), .int .u64 (pl b 5), .int .u64 (pl b 6), .int .u64 (pl b 7), v, av]] w (HRes b l (nrm l m) 0 w) := by
  refine (Normal_good R.good w Hv Hav).mono fun e w' ⟨pv, bv, he, h1, h2, h3⟩ => ?_
  subst he
  rw [normalM_eq R.fine] at h2
  exact hres_own h1 h2 h3
theorem Stand_r (R : Runs b l m t) (w : World) (Hv : SlS w v l) (Hav : SlA w av m) : Calls Tryz.prog 22 #[.agg #[.int .u64 (pl b 0), .int .u64 (pl b 1), .int .u64 (pl b 2), .int .u64 (pl b 3), .int .u64 (pl b 4), .int .u64 (pl b 5), .int .u64 (pl b 6), .int .u64 (pl b 7), v, av]] w fun e w' => e = .returned (.tuple #[.agg #[.int .u64 (pl t.1 0), .int .u64 (pl t.1 1), .int .u64 (pl t.1 2), .int .u64 (pl t.1 3), .int .u64 (pl t.1 4), .int .u64 (pl t.1 5), .int .u64 (pl t.1 6), .int .u64 (pl t.1 7), .int .u8 (t.2.toNat : Int)], .int .i64 0]) ∧ Below w.heap.size w w' :=
  Stand_good R.good w Hv Hav
theorem Reduced_again (R : Runs b l m t) (w : World) (Hv : SlS w v l) (Hav : SlA w av (nrm l (redL l m))) : Calls Tryz.prog 21 #[.agg #[.int .u64 (pl b 0), .int .u64 (pl b 1), .int .u64 (pl b 2), .int .u64 (pl b 3), .int .u64 (pl b 4), .int .u64 (pl b 5), .int .u64 (pl b 6), .int .u64 (pl b 7), v, av]] w (HRes b l (nrm l (redL l m)) 0 w) := by
  have h := Reduced_r R.red.nrm w Hv Hav
  rw [redL_again] at h
  exact h
theorem Reduced_any (b : Sol) (l : List Sol) (m : List Ac) (w : World) (Hv : SlS w v l) (Hav : SlA w av m) : Calls Tryz.prog 21 #[.agg #[.int .u64 (pl b 0), .int .u64 (pl b 1), .int .u64 (pl b 2), .int .u64 (pl b 3), .int .u64 (pl b 4), .int .u64 (pl b 5), .int .u64 (pl b 6), .int .u64 (pl b 7), v, av]] w fun e w' => ∃ B L M E, HRes B L M E w e w' ∧ (E = 0 → B = b ∧ L = l ∧ M = nrm l (redL l m)) := by
  cases h : begunM b l m with
  | inl x =>
    refine (Reduced_bad h w Hv Hav).mono fun e w' ⟨he, hb⟩ => ?_
    subst he
    refine ⟨0, [], [], x.2, hres_zero hb, fun h0 => ?_⟩
    have := begunM_bad h
    rw [h0] at this; cases this
  | inr s =>
    obtain ⟨t, R, _⟩ := Runs.of h
    exact (Reduced_r R w Hv Hav).mono fun e w' h => ⟨b, l, _, 0, h, fun _ => ⟨rfl, rfl, rfl⟩⟩
theorem sl_take {w : World} {k i n c : Nat} {a : Option Addr} {xs : List (List Value)} (h : Sl w k (.slice a n c) xs) (hi : i ≤ n) : Sl w k (sliced a 0 i i k) (xs.take i) := by
  obtain ⟨a', c', he, h1, h2, h3⟩ := h
  cases he
  have hl : (xs.take i).length = i := by rw [List.length_take]; omega
  have e : sliced a 0 i i k = .slice a i i := by
    unfold sliced
    by_cases h0 : i = 0
    · simp [h0]
    · rcases h3 with rfl | ⟨b, off, rfl, _⟩
      · simp at hi; omega
      · simp [h0, Go.WideShapes.add_plain]
  rw [e]
  refine ⟨a, i, by rw [hl], by rw [hl]; exact Nat.le_refl _, by omega, ?_⟩
  rcases h3 with rfl | ⟨b, off, rfl, h4⟩
  · exact .inl (by simp)
  · refine .inr ⟨b, off, rfl, h4.1, fun p j u hu => h4.2 p j u ?_⟩
    obtain ⟨r, hr, hj⟩ := Option.bind_eq_some_iff.1 hu
    have hp : p < i := by have := (List.getElem?_eq_some_iff.1 hr).1; rw [hl] at this; exact this
    rw [List.getElem?_take_of_lt hp] at hr
    rw [hr]; exact hj
theorem sl_drop {w : World} {k i n c : Nat} {a : Option Addr} {xs : List (List Value)} (h : Sl w k (.slice a n c) xs) (hi : i ≤ n) : Sl w k (sliced a i n c k) (xs.drop i) := by
  obtain ⟨a', c', he, h1, h2, h3⟩ := h
  cases he
  have hl : (xs.drop i).length = xs.length - i := by rw [List.length_drop]
  unfold sliced
  refine ⟨_, _, by rw [hl], by rw [hl]; omega, by omega, ?_⟩
  rcases h3 with rfl | ⟨b, off, rfl, h4⟩
  · exact .inl (by simp)
  · by_cases hx : xs.drop i = []
    · exact .inl hx
    · have hlt : i < xs.length := by
        rcases Nat.lt_or_ge i xs.length with h | h
        · exact h
        · exact absurd (List.drop_eq_nil_of_le h) hx
      refine .inr ⟨b, off + i * k, ?_, h4.1, fun p j u hu => ?_⟩
      · simp only [Option.map_some]
        rw [if_neg (by omega), Go.WideShapes.add_plain]
      · obtain ⟨r, hr, hj⟩ := Option.bind_eq_some_iff.1 hu
        rw [List.getElem?_drop] at hr
        have := h4.2 (i + p) j u (by rw [hr]; exact hj)
        rw [show off + i * k + p * k + j = off + (i + p) * k + j by rw [Nat.add_mul]; omega]
        exact this
theorem Same_eq {b : Sol} {v av v2 av2 : Value} {l : List Sol} {m : List Ac} (w : World) (hv : SlS w v l) (ha : SlA w av m) (hv2 : SlS w v2 l) (ha2 : SlA w av2 m) :
    Calls Tryz.prog 23 #[.agg #[.int .u64 (pl b 0), .int .u64 (pl b 1), .int .u64 (pl b 2), .int .u64 (pl b 3), .int .u64 (pl b 4), .int .u64 (pl b 5), .int .u64 (pl b 6), .int .u64 (pl b 7), v, av], .agg #[.int .u64 (pl b 0), .int .u64 (pl b 1), .int .u64 (pl b 2), .int .u64 (pl b 3), .int .u64 (pl b 4), .int .u64 (pl b 5), .int .u64 (pl b 6), .int .u64 (pl b 7), v2, av2]] w fun e w' => e = .returned (.bool true) ∧ Below w.heap.size w w' := by
  have := Same_spec b b v av v2 av2 l l m m w hv ha hv2 ha2
  simpa [samePat] using this
/-- few, of one, two, three histories -/
def fewB (h : List (List Sol × List Ac)) : Bool := !h.any fun x => many x.2.length x.1.length
end
theorem hv_sl1 {W : World} {g t : Nat} {b : Sol} {p q : Value} (h : Blk W g #[.int .u64 (pl b 0), .int .u64 (pl b 1), .int .u64 (pl b 2), .int .u64 (pl b 3), .int .u64 (pl b 4), .int .u64 (pl b 5), .int .u64 (pl b 6), .int .u64 (pl b 7), p, q] t) : Sl W 10 (.slice (some ⟨g, 0, none⟩) 1 1) ([((b, p, q) : Hv)].map hvL) :=
  Sl.ofBlk h rfl (by decide) (by simp) (by simp)
theorem hv_sl2 {W : World} {g t : Nat} {b b' : Sol} {p q p' q' : Value} (h : Blk W g #[.int .u64 (pl b 0), .int .u64 (pl b 1), .int .u64 (pl b 2), .int .u64 (pl b 3), .int .u64 (pl b 4), .int .u64 (pl b 5), .int .u64 (pl b 6), .int .u64 (pl b 7), p, q, .int .u64 (pl b' 0), .int .u64 (pl b' 1), .int .u64 (pl b' 2), .int .u64 (pl b' 3), .int .u64 (pl b' 4), .int .u64 (pl b' 5), .int .u64 (pl b' 6), .int .u64 (pl b' 7), p', q'] t) : Sl W 10 (.slice (some ⟨g, 0, none⟩) 2 2) ([((b, p, q) : Hv), (b', p', q')].map hvL) :=
  Sl.ofBlk h rfl (by decide) (by simp) (by simp)
theorem hv_sl3 {W : World} {g t : Nat} {b b' b2 : Sol} {p q p' q' p2 q2 : Value} (h : Blk W g #[.int .u64 (pl b 0), .int .u64 (pl b 1), .int .u64 (pl b 2), .int .u64 (pl b 3), .int .u64 (pl b 4), .int .u64 (pl b 5), .int .u64 (pl b 6), .int .u64 (pl b 7), p, q, .int .u64 (pl b' 0), .int .u64 (pl b' 1), .int .u64 (pl b' 2), .int .u64 (pl b' 3), .int .u64 (pl b' 4), .int .u64 (pl b' 5), .int .u64 (pl b' 6), .int .u64 (pl b' 7), p', q', .int .u64 (pl b2 0), .int .u64 (pl b2 1), .int .u64 (pl b2 2), .int .u64 (pl b2 3), .int .u64 (pl b2 4), .int .u64 (pl b2 5), .int .u64 (pl b2 6), .int .u64 (pl b2 7), p2, q2] t) : Sl W 10 (.slice (some ⟨g, 0, none⟩) 3 3) ([((b, p, q) : Hv), (b', p', q'), (b2, p2, q2)].map hvL) :=
  Sl.ofBlk h rfl (by decide) (by simp) (by simp)
theorem few1 {g t : Nat} {b : Sol} {p q : Option Addr} {n c k d : Nat} (w : World) (h : Blk w g #[.int .u64 (pl b 0), .int .u64 (pl b 1), .int .u64 (pl b 2), .int .u64 (pl b 3), .int .u64 (pl b 4), .int .u64 (pl b 5), .int .u64 (pl b 6), .int .u64 (pl b 7), .slice p n c, .slice q k d] t) : Calls Tryz.prog 19 #[.slice (some ⟨g, 0, none⟩) 1 1] w fun e w' => e = .returned (.bool (!many k n)) ∧ Below w.heap.size w w' := by
  have := few_spec _ _ w (hv_sl1 h) (by simp)
  simpa [manyH] using this
theorem few2 {g t : Nat} {b b' : Sol} {p q p' q' : Option Addr} {n c k d n' c' k' d' : Nat} (w : World) (h : Blk w g #[.int .u64 (pl b 0), .int .u64 (pl b 1), .int .u64 (pl b 2), .int .u64 (pl b 3), .int .u64 (pl b 4), .int .u64 (pl b 5), .int .u64 (pl b 6), .int .u64 (pl b 7), .slice p n c, .slice q k d, .int .u64 (pl b' 0), .int .u64 (pl b' 1), .int .u64 (pl b' 2), .int .u64 (pl b' 3), .int .u64 (pl b' 4), .int .u64 (pl b' 5), .int .u64 (pl b' 6), .int .u64 (pl b' 7), .slice p' n' c', .slice q' k' d'] t) : Calls Tryz.prog 19 #[.slice (some ⟨g, 0, none⟩) 2 2] w fun e w' => e = .returned (.bool (!(many k n || many k' n'))) ∧ Below w.heap.size w w' := by
  have := few_spec _ _ w (hv_sl2 h) (by simp)
  simpa [manyH] using this
theorem few3 {g t : Nat} {b b' b2 : Sol} {p q p' q' p2 q2 : Option Addr} {n c k d n' c' k' d' n2 c2 k2 d2 : Nat} (w : World) (h : Blk w g #[.int .u64 (pl b 0), .int .u64 (pl b 1), .int .u64 (pl b 2), .int .u64 (pl b 3), .int .u64 (pl b 4), .int .u64 (pl b 5), .int .u64 (pl b 6), .int .u64 (pl b 7), .slice p n c, .slice q k d, .int .u64 (pl b' 0), .int .u64 (pl b' 1), .int .u64 (pl b' 2), .int .u64 (pl b' 3), .int .u64 (pl b' 4), .int .u64 (pl b' 5), .int .u64 (pl b' 6), .int .u64 (pl b' 7), .slice p' n' c', .slice q' k' d', .int .u64 (pl b2 0), .int .u64 (pl b2 1), .int .u64 (pl b2 2), .int .u64 (pl b2 3), .int .u64 (pl b2 4), .int .u64 (pl b2 5), .int .u64 (pl b2 6), .int .u64 (pl b2 7), .slice p2 n2 c2, .slice q2 k2 d2] t) : Calls Tryz.prog 19 #[.slice (some ⟨g, 0, none⟩) 3 3] w fun e w' => e = .returned (.bool (!(many k n || (many k' n' || many k2 n2)))) ∧ Below w.heap.size w w' := by
  have := few_spec _ _ w (hv_sl3 h) (by simp)
  simpa [manyH] using this
end Go.Proofs.YtccnkebkgegohaaGreatDoor
end
section
namespace Go.Proofs.YtccnkebkgegohaaGreatDoor
open Go.RowKit Go.Rel
set_option maxRecDepth 100000
/-! TraceReduced: an act pair is put into a history -/
abbrev AliveH (w : World) : Prop := Hid (∀ w', Below w.heap.size w w' → Calls Tryz.prog 20 #[] w' fun e w'' => e = .returned (.bool true) ∧ Below w'.heap.size w' w'')
theorem alive_h (w : World) (hT : w.cell? ⟨5, 15, none⟩ = some (.int .u8 4)) : AliveH w :=
  Lib.hid fun w' hb => alive_spec w' ((hb.cell (p := ⟨5, 15, none⟩) (block_lt_of_cell hT)).trans hT)
@[go_sem] theorem kinds0 (W : World) : (Instr.index 43 (.agg #[.int .u8 2, .int .u8 3, .int .u8 3, .int .u8 2]) (.int .i64 0)).run Tryz.prog W = .ok (.agg #[.int .u8 2, .int .u8 3]) W := by kernel_rfl
@[go_sem] theorem kinds1 (W : World) : (Instr.index 43 (.agg #[.int .u8 2, .int .u8 3, .int .u8 3, .int .u8 2]) (.int .i64 1)).run Tryz.prog W = .ok (.agg #[.int .u8 3, .int .u8 2]) W := by kernel_rfl
theorem SlN.grow {w w' : World} {v : Value} {xs : List Ac} (h : SlN w v xs) (hb : Below w.heap.size w w') : SlN w' v xs := ⟨h.1.mono hb, h.2⟩
theorem SlN.shape {w : World} {v : Value} {xs : List Ac} (h : SlN w v xs) : ∃ a n c, v = .slice a n c := by
  obtain ⟨a, c, h1, _⟩ := h.1
  exact ⟨a, _, c, h1⟩
abbrev pairC (k1 k2 : Int) (n : Int) : Array Value := #[.int .u8 k1, .int .i64 n, .int .u64 0, .int .u64 0, .int .u64 0, .int .u64 0, .int .u64 0, .int .u64 0, .int .u64 0, .int .u64 0, .int .u8 k2, .int .i64 n, .int .u64 0, .int .u64 0, .int .u64 0, .int .u64 0, .int .u64 0, .int .u64 0, .int .u64 0, .int .u64 0]
@[irreducible] def VSN (xs : List Ac) (v : Value) (W : World) : Prop := SlN W v xs
@[irreducible] def VPair (k1 k2 n : Int) (v : Value) (W : World) : Prop := ∃ g, v = .slice (some ⟨g, 0, none⟩) 2 2 ∧ Blk W g (pairC k1 k2 n) 46
@[irreducible] def VTri (a b c : List Ac) (v : Value) (W : World) : Prop := ∃ g x y z, v = .slice (some ⟨g, 0, none⟩) 3 3 ∧ Blk W g #[x, y, z] 28 ∧ SlN W x a ∧ SlN W y b ∧ SlN W z c
theorem VSN.stable {xs : List Ac} (v : Value) (W W' : World) (h : VSN xs v W) (g : Grows W W') : VSN xs v W' := by unfold VSN at *; exact h.grow g
theorem VPair.stable {k1 k2 n : Int} (v : Value) (W W' : World) (h : VPair k1 k2 n v W) (g : Grows W W') : VPair k1 k2 n v W' := by
  unfold VPair at *; obtain ⟨b, h1, h2⟩ := h; exact ⟨b, h1, h2.grow g⟩
theorem VTri.stable {a b c : List Ac} (v : Value) (W W' : World) (h : VTri a b c v W) (g : Grows W W') : VTri a b c v W' := by
  unfold VTri at *; obtain ⟨p, x, y, z, h1, h2, h3, h4, h5⟩ := h; exact ⟨p, x, y, z, h1, h2.grow g, h3.grow g, h4.grow g, h5.grow g⟩
def pairL (k1 k2 : Nat) (n : Int) : List Ac := [(k1, n, 0), (k2, n, 0)]
@[irreducible] def insL (k1 k2 : Nat) (n : Int) (K : Nat) (m : List Ac) : List Ac := m.take K ++ (pairL k1 k2 n ++ m.drop K)
@[irreducible] def VSA (xs : List Ac) (v : Value) (W : World) : Prop := SlA W v xs
theorem VSA.stable {xs : List Ac} (v : Value) (W W' : World) (h : VSA xs v W) (g : Grows W W') : VSA xs v W' := by unfold VSA at *; exact h.mono g
theorem pair_sl {k1 k2 : Nat} {n : Int} {W : World} {g : Nat} (h : Blk W g (pairC k1 k2 n) 46) : SlN W (.slice (some ⟨g, 0, none⟩) 2 2) (pairL k1 k2 n) :=
  ⟨Sl.ofBlk h rfl (by decide) (by simp [pairL]) (by simp [pairL, show ∀ k, pl (0#512) k = 0 from pl_zero]), fun n c e => by cases e⟩
theorem sln_take {w : World} {i n c : Nat} {a : Option Addr} {xs : List Ac} (h : SlA w (.slice a n c) xs) (hi : i ≤ n) : SlN w (.slice a i i) (xs.take i) := by
  have h1 := sl_take h hi
  rw [← List.map_take] at h1
  have e : sliced a 0 i i 10 = .slice a i i ∧ (a = none → i = 0) := by
    obtain ⟨a', c', he, h2, h3, h4⟩ := h
    cases he
    unfold sliced
    by_cases h0 : i = 0
    · simp [h0]
    · rcases h4 with h4 | ⟨b, off, rfl, _⟩
      · rw [h4] at hi; simp at hi; omega
      · simp [h0, Go.WideShapes.add_plain]
  rw [e.1] at h1
  exact ⟨h1, fun m d he => by cases he; exact e.2 rfl⟩
theorem sln_drop {w : World} {i n c : Nat} {a : Option Addr} {xs : List Ac} (h : SlN w (.slice a n c) xs) (hi : i ≤ n) : SlN w (sliced a i n c 10) (xs.drop i) := by
  have h1 := sl_drop h.1 hi
  rw [← List.map_drop] at h1
  refine ⟨h1, fun m d e => ?_⟩
  unfold sliced at e
  simp only [Value.slice.injEq] at e
  have hc : a = none → c = 0 := fun ha => by subst ha; exact h.2 _ _ rfl
  have ha : a = none := by
    have := e.1
    split at this
    · exact this
    · simpa using this
  have := hc ha
  omega
theorem concat_ins {k1 k2 : Nat} {n : Int} {K : Nat} {m : List Ac} {v : Value} (w : World) (h : VTri (m.take K) (pairL k1 k2 n) (m.drop K) v w) (hm : m.length ≤ 60) :
    Calls Tryz.prog 24 #[v] w fun e w' => ∃ u, e = .returned u ∧ Grows w w' ∧ VSA (insL k1 k2 n K m) u w' := by
  unfold VTri at h
  obtain ⟨g, x, y, z, rfl, hb, h1, h2, h3⟩ := h
  have hl : (catM [(x, m.take K), (y, pairL k1 k2 n), (z, m.drop K)]) = insL k1 k2 n K m := by
    unfold insL; simp [catM]
  have hlen : (insL k1 k2 n K m).length ≤ 1048576 := by unfold insL pairL; simp; omega
  have := Concat_spec _ [(x, m.take K), (y, pairL k1 k2 n), (z, m.drop K)] w (three_sl hb _ _ _) (fun p hp => by
    simp only [List.mem_cons, List.not_mem_nil, or_false] at hp
    rcases hp with rfl | rfl | rfl
    · exact h1
    · exact h2
    · exact h3) (by rw [hl]; exact hlen)
  rw [hl] at this
  exact this.mono fun e w' ⟨u, he, hO, hg⟩ => ⟨u, he, hg, by unfold VSA; exact hO.sl⟩
theorem ins_red (l : List Sol) (n : Int) (K : Nat) (m : List Ac) (k1 k2 : Nat) (hk : (k1 = 2 ∧ k2 = 3) ∨ (k1 = 3 ∧ k2 = 2)) : nrm l (redL l (insL k1 k2 n K m)) = nrm l (redL l m) := by
  unfold insL pairL
  have h : ivA (k1, n, 0) = some (k2, n, 0) := by
    rcases hk with ⟨rfl, rfl⟩ | ⟨rfl, rfl⟩ <;> rfl
  have := redL_turn (l := l) (m.take K) (m.drop K) h
  rw [List.take_append_drop] at this
  exact this
theorem sla_shape {W : World} {v : Value} {xs : List Ac} (h : SlA W v xs) : ∃ a n c, v = .slice a n c := by
  obtain ⟨a, c, h1, _⟩ := h
  exact ⟨a, _, c, h1⟩
end Go.Proofs.YtccnkebkgegohaaGreatDoor
end
