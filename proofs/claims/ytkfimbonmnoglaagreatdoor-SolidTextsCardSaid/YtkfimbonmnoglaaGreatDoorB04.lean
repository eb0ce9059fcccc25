import Derived.Test.YtkfimbonmnoglaaGreatDoorB03
/-
  Given contracts of functions of the program, and laws for them, one behind the other.
-/
set_option linter.unusedVariables false
set_option linter.unusedSimpArgs false
set_option linter.unusedSectionVars false
section
namespace Go.Solid
open Go.Draw
set_option maxRecDepth 100000
def clsF (St : List Cl) : List Cl → Sol → List Sol
 | [], _ => []
 | c :: cs, l => if hasS l c then partS St l c :: clsF St cs (visN St 512 l c) else clsF St cs l
def classesS (St : List Cl) (s : Sol) : List Sol := clsF St (cellsS s) s
/-- as the reference has them -/
def clsR (St : List Cl) : Nat → Sol → List Sol
 | 0, _ => []
 | n + 1, l => match cellsS l with
  | [] => []
  | c :: _ => partS St l c :: clsR St n (cutS l (partS St l c))
theorem cells_sub {a b : Sol} (h : subS a b = true) : cellsS a = (cellsS b).filter fun c => hasS a c := by
 unfold cellsS
 rw [List.filter_map]
 congr 1
 unfold bitsS
 rw [List.filter_filter]
 apply List.filter_congr
 intro n hn
 have hn' := List.mem_range.1 hn
 simp only [Function.comp]
 rw [hasS_cellN hn']
 have h1 := subS_iff.1 h (cellN n)
 rw [hasS_cellN hn', hasS_cellN hn'] at h1
 cases ha : a.getLsbD n with
 | false => simp
 | true => simp [h1 ha]
theorem cls_eq (St : List Cl) : ∀ (cs : List Cl) (l : Sol) (n : Nat), cellsS l = cs.filter (fun c => hasS l c) → countS l ≤ n → clsF St cs l = clsR St n l
 | [], l, n, h, _ => by
  rw [List.filter_nil] at h
  cases n with
  | zero => rfl
  | succ n => unfold clsF clsR; rw [h]
 | c :: cs, l, n, h, hn => by
  unfold clsF
  by_cases hc : hasS l c = true
  ·rw [if_pos hc]
   rw [List.filter_cons, if_pos hc] at h
   have hn1 : 1 ≤ n := by
    rw [countS_cells, h, List.length_cons] at hn; omega
   obtain ⟨k, rfl⟩ : ∃ k, n = k + 1 := ⟨n - 1, by omega⟩
   have hv := vis_spec St 512 l c (count_512 l)
   have e2 : clsR St (k + 1) l = partS St l c :: clsR St k (cutS l (partS St l c)) := by
    rw [clsR]
    split
    ·rename_i h0; rw [h0] at h; cases h
    ·rename_i c' t h0
     rw [h0] at h
     cases h
     rfl
   rw [e2, ← vis_cut]
   congr 1
   refine cls_eq St cs _ k ?_ ?_
   ·rw [cells_sub hv.sub, h, List.filter_cons, if_neg (by rw [hv.gone]; simp), List.filter_filter]
    apply List.filter_congr
    intro e _
    cases he : hasS (visN St 512 l c) e with
    | false => simp
    | true => simp [subS_iff.1 hv.sub e he]
   ·have h1 : countS (visN St 512 l c) < countS l := by
     refine Nat.lt_of_not_le fun hle => ?_
     have := count_eq hv.sub hle
     have h2 := hv.gone
     rw [this, hc] at h2; cases h2
    omega
  ·rw [if_neg hc]
   rw [List.filter_cons, if_neg hc] at h
   exact cls_eq St cs l n h hn
theorem classes_ref (St : List Cl) (s : Sol) {n : Nat} (hn : countS s ≤ n) : classesS St s = clsR St n s := by
 unfold classesS
 refine cls_eq St _ s n ?_ hn
 rw [List.filter_eq_self.2]
 intro c hc
 exact mem_cellsS.1 hc
def Sym (St : List Cl) : Prop := ∀ d ∈ St, negC d ∈ St
theorem add_neg (e d : Cl) : addC (addC e d) (negC d) = e := by
 have key : ∀ k, co (addC (addC e d) (negC d)) k = co e k := fun k => by rw [co_add, co_add, co_neg]; omega
 exact co_ext (key 0) (key 1) (key 2)
/-- l holds whole parts of s -/
def Whole (St : List Cl) (s l : Sol) : Prop := subS l s = true ∧ ∀ e, hasS l e = true → ∀ d ∈ St, hasS s (addC e d) = true → hasS l (addC e d) = true
theorem whole_comp {St : List Cl} {s l K : Sol} {c : Cl} (hw : Whole St s l) (h : IsComp St l c K) : IsComp St s c K := by
 refine ⟨subS_trans h.sub hw.1, h.has, fun e he => ?_, fun e he d hd hf => ?_⟩
 ·exact Reach.lift hw.1 (Reach.start (subS_iff.1 (subS_trans h.sub hw.1) c h.has)) (h.reach e he)
 ·exact h.closed e he d hd (hw.2 e (subS_iff.1 h.sub e he) d hd hf)
theorem whole_cut {St : List Cl} (hS : Sym St) {s l K : Sol} {c : Cl} (hw : Whole St s l) (h : IsComp St l c K) : Whole St s (cutS l K) := by
 refine ⟨subS_trans (cut_sub _ _) hw.1, fun e he d hd hf => ?_⟩
 obtain ⟨h1, h2⟩ := cut_has.1 he
 have h3 := hw.2 e h1 d hd hf
 refine cut_has.2 ⟨h3, ?_⟩
 rw [not_has]
 intro hk
 have := h.closed _ hk (negC d) (hS d hd) (by rw [add_neg]; exact h1)
 rw [add_neg, h2] at this
 cases this
/-- each class is a part of the whole; each cell is in one of them; no two have a cell -/
structure Parts (St : List Cl) (s l : Sol) (L : List Sol) : Prop where
 comp : ∀ K ∈ L, ∃ c, hasS l c = true ∧ IsComp St s c K ∧ subS K l = true
 all : ∀ e, hasS l e = true → ∃ K ∈ L, hasS K e = true
 apart : L.Pairwise fun A B => ∀ e, hasS A e = true → hasS B e = false
theorem clsR_parts {St : List Cl} (hS : Sym St) {s : Sol} : ∀ (n : Nat) (l : Sol), countS l ≤ n → Whole St s l → Parts St s l (clsR St n l)
 | 0, l, hn, _ => by
  have h0 : l = 0 := count_zero.1 (by omega)
  unfold clsR
  refine ⟨fun K h => (by cases h), fun e he => ?_, List.Pairwise.nil⟩
  have := mem_cellsS.2 he
  rw [h0, cellsS_zero] at this; cases this
 | n + 1, l, hn, hw => by
  unfold clsR
  split
  ·rename_i h0
   refine ⟨fun K h => (by cases h), fun e he => ?_, List.Pairwise.nil⟩
   have := mem_cellsS.2 he
   rw [h0] at this; cases this
  ·rename_i c t h0
   have hc : hasS l c = true := mem_cellsS.1 (by rw [h0]; exact List.mem_cons_self)
   have hK := comp_spec (St := St) hc
   have hcnt : countS (cutS l (partS St l c)) ≤ n := by
    have h1 : countS (cutS l (partS St l c)) < countS l := by
     refine Nat.lt_of_not_le fun hle => ?_
     have := count_eq (cut_sub l (partS St l c)) hle
     have h2 : hasS (cutS l (partS St l c)) c = true := by rw [this]; exact hc
     have := (cut_has.1 h2).2
     rw [hK.has] at this; cases this
    omega
   obtain ⟨p1, p2, p3⟩ := clsR_parts hS n _ hcnt (whole_cut hS hw hK)
   refine ⟨fun K h => ?_, fun e he => ?_, List.pairwise_cons.2 ⟨fun B hB e he => ?_, p3⟩⟩
   ·rcases List.mem_cons.1 h with rfl | h
    ·exact ⟨c, hc, whole_comp hw hK, hK.sub⟩
    ·obtain ⟨c', h1, h2, h3⟩ := p1 K h
     exact ⟨c', (cut_has.1 h1).1, h2, subS_trans h3 (cut_sub _ _)⟩
   ·cases hk : hasS (partS St l c) e with
    | true => exact ⟨_, List.mem_cons_self, hk⟩
    | false =>
     obtain ⟨K, h1, h2⟩ := p2 e (cut_has.2 ⟨he, hk⟩)
     exact ⟨K, List.mem_cons_of_mem _ h1, h2⟩
   ·obtain ⟨c', _, _, h3⟩ := p1 B hB
    rw [not_has]
    intro hb
    have := (cut_has.1 (subS_iff.1 h3 e hb)).2
    rw [he] at this; cases this
theorem classes_parts {St : List Cl} (hS : Sym St) (s : Sol) : Parts St s s (classesS St s) := by
 rw [classes_ref St s (count_512 s)]
 exact clsR_parts hS 512 s (count_512 s) ⟨subS_refl _, fun _ _ _ _ h => h⟩
theorem steps_sym (f : Bool) : Sym (stepsL f) := by
 have h : ((stepsL f).all fun d => (stepsL f).contains (negC d)) = true := by cases f <;> decide +kernel
 intro d hd
 have := List.all_eq_true.1 h d hd
 simpa using this
end Go.Solid
end
section
namespace Go.Solid
open Go.Draw
set_option maxRecDepth 100000
def sgn (p : Cl) : Int := if (p.1 + p.2.1 + p.2.2) % 2 = 0 then 1 else -1
/-- a point, an edge, a face, a cell is named by twice the coordinates of its middle -/
def midC (c d : Cl) : Cl := (2 * c.1 + 1 + d.1, 2 * c.2.1 + 1 + d.2.1, 2 * c.2.2 + 1 + d.2.2)
def ptsS (s : Sol) : List Cl := (cellsS s).flatMap fun c => (stepsL false).map fun d => midC c d
def addNew (seen : List Cl) (p : Cl) : List Cl := if p ∈ seen then seen else seen ++ [p]
def seenF (l : List Cl) : List Cl := l.foldl addNew []
def sumZ (f : Cl → Int) (l : List Cl) : Int := (l.map f).sum
def eulerS (s : Sol) : Int := sumZ sgn (seenF (ptsS s))
/-- faces behind which there is no cell -/
def bareN (s : Sol) (c : Cl) : Nat := ((stepsL true).filter fun d => !hasS s (addC c d)).length
def skinS (s : Sol) : Nat := ((cellsS s).map (bareN s)).sum
end Go.Solid
end
section
namespace Go.Solid
open Go.Draw
set_option maxRecDepth 100000
theorem land256 (a b m c : Nat) (hb : b < 256) (hc : c < 256) : (256 * a + b) &&& (256 * m + c) = 256 * (a &&& m) + (b &&& c) := by
 have h1 : ((256 * a + b) &&& (256 * m + c)) / 2 ^ 8 = a &&& m := by
  rw [Nat.and_div_two_pow]; congr 1 <;> omega
 have h2 : ((256 * a + b) &&& (256 * m + c)) % 2 ^ 8 = b &&& c := by
  rw [Nat.and_mod_two_pow]; congr 1 <;> omega
 omega
def XA (m N : Nat) : Nat := ((N / 2) &&& m) + (N &&& m)
def XB (m N : Nat) : Nat := ((N / 4) &&& m) + (N &&& m)
def XC (m N : Nat) : Nat := ((N / 16) + N) &&& m
def X8 (b : Nat) : Nat := XC 15 (XB 51 (XA 85 b))
def ones8 (b : Nat) : Nat := b % 2 + b / 2 % 2 + b / 4 % 2 + b / 8 % 2 + b / 16 % 2 + b / 32 % 2 + b / 64 % 2 + b / 128 % 2
theorem x8_all : ((List.range 256).all fun b => decide (XA 85 b < 256) && decide (XB 51 (XA 85 b) < 256) && decide (XB 51 (XA 85 b) / 16 ≤ 4) && decide (XB 51 (XA 85 b) % 16 ≤ 4) && decide (X8 b = ones8 b)) = true := by decide +kernel
theorem x8_one {b : Nat} (h : b < 256) : XA 85 b < 256 ∧ XB 51 (XA 85 b) < 256 ∧ XB 51 (XA 85 b) / 16 ≤ 4 ∧ XB 51 (XA 85 b) % 16 ≤ 4 ∧ X8 b = ones8 b := by
 have := List.all_eq_true.1 x8_all b (List.mem_range.2 h)
 simp only [Bool.and_eq_true, decide_eq_true_eq] at this
 exact ⟨this.1.1.1.1, this.1.1.1.2, this.1.1.2, this.1.2, this.2⟩
theorem land_low (x y k m : Nat) (h : m < 2 ^ k) : (2 ^ k * x + y) &&& m = y &&& m := by
 have e : ∀ z, z &&& m = (z % 2 ^ k) &&& m := fun z => by
  have h1 : (z &&& m) % 2 ^ k = z &&& m := Nat.mod_eq_of_lt (Nat.lt_of_le_of_lt Nat.and_le_right h)
  rw [← h1, Nat.and_mod_two_pow, Nat.mod_eq_of_lt h]
 rw [e, e y, Nat.mul_add_mod]
theorem XA_step (m a b : Nat) (hb : b < 256) : XA (256 * m + 85) (256 * a + b) = 256 * XA m a + XA 85 b := by
 unfold XA
 rw [show (256 * a + b) / 2 = 256 * (a / 2) + (2 ^ 7 * (a % 2) + b / 2) by omega, land256 _ _ _ _ (by omega) (by omega), land256 _ _ _ _ hb (by omega), land_low _ _ 7 85 (by decide)]
 omega
theorem XB_step (m a b : Nat) (hb : b < 256) : XB (256 * m + 51) (256 * a + b) = 256 * XB m a + XB 51 b := by
 unfold XB
 rw [show (256 * a + b) / 4 = 256 * (a / 4) + (2 ^ 6 * (a % 4) + b / 4) by omega, land256 _ _ _ _ (by omega) (by omega), land256 _ _ _ _ hb (by omega), land_low _ _ 6 51 (by decide)]
 omega
theorem XC_step (m a b : Nat) (hb : b / 16 ≤ 4) (hb2 : b % 16 ≤ 4) (ha : a % 16 ≤ 4) : XC (256 * m + 15) (256 * a + b) = 256 * XC m a + XC 15 b := by
 unfold XC
 rw [show (256 * a + b) / 16 + (256 * a + b) = 256 * (a / 16 + a) + (2 ^ 4 * (a % 16) + (b / 16 + b)) by omega, land256 _ _ _ _ (by omega) (by omega), land_low _ _ 4 15 (by decide)]
/-- masks of n bytes -/
def mk8 (c : Nat) : Nat → Nat
 | 0 => 0
 | n + 1 => 256 * mk8 c n + c
/-- a number by its bytes, the last ones first -/
def bytesN : List Nat → Nat
 | [] => 0
 | b :: l => 256 * bytesN l + b
theorem pops (l : List Nat) (h : ∀ b ∈ l, b < 256) : XA (mk8 85 l.length) (bytesN l) = bytesN (l.map (XA 85)) ∧ XB (mk8 51 l.length) (bytesN (l.map (XA 85))) = bytesN (l.map fun b => XB 51 (XA 85 b)) ∧ XC (mk8 15 l.length) (bytesN (l.map fun b => XB 51 (XA 85 b))) = bytesN (l.map ones8) := by
 induction l with
 | nil => exact ⟨rfl, rfl, rfl⟩
 | cons b l ih =>
  have hb := x8_one (h b List.mem_cons_self)
  have hb0 := h b List.mem_cons_self
  have i := ih fun x hx => h x (List.mem_cons_of_mem _ hx)
  refine ⟨?_, ?_, ?_⟩
  ·show XA (256 * mk8 85 l.length + 85) (256 * bytesN l + b) = 256 * bytesN (l.map (XA 85)) + XA 85 b
   rw [XA_step _ _ _ hb0, i.1]
  ·show XB (256 * mk8 51 l.length + 51) (256 * bytesN (l.map (XA 85)) + XA 85 b) = 256 * bytesN (l.map fun b => XB 51 (XA 85 b)) + XB 51 (XA 85 b)
   rw [XB_step _ _ _ hb.1, i.2.1]
  ·show XC (256 * mk8 15 l.length + 15) (256 * bytesN (l.map fun b => XB 51 (XA 85 b)) + XB 51 (XA 85 b)) = 256 * bytesN (l.map ones8) + ones8 b
   have ha : bytesN (l.map fun b => XB 51 (XA 85 b)) % 16 ≤ 4 := by
    cases l with
    | nil => exact Nat.zero_le _
    | cons d l =>
     have hd := x8_one (h d (List.mem_cons_of_mem _ List.mem_cons_self))
     show (256 * _ + XB 51 (XA 85 d)) % 16 ≤ 4
     omega
   rw [XC_step _ _ _ hb.2.2.1 hb.2.2.2.1 ha, i.2.2]
   rw [← hb.2.2.2.2]; rfl
def byteL (N : Nat) : List Nat := [N % 256, N / 256 % 256, N / 65536 % 256, N / 16777216 % 256, N / 4294967296 % 256, N / 1099511627776 % 256, N / 281474976710656 % 256, N / 72057594037927936 % 256]
theorem byteL_eq {N : Nat} (h : N < 18446744073709551616) : bytesN (byteL N) = N := by
 unfold byteL bytesN bytesN bytesN bytesN bytesN bytesN bytesN bytesN bytesN
 omega
theorem byteL_lt (N : Nat) : ∀ b ∈ byteL N, b < 256 := by
 intro b hb
 simp only [byteL, List.mem_cons, List.not_mem_nil, or_false] at hb
 omega
/-- bits of a word -/
def cntN : Nat → Nat → Nat
 | 0, _ => 0
 | n + 1, N => N % 2 + cntN n (N / 2)
theorem cnt_list : ∀ (n N : Nat), ((List.range n).filter fun i => N.testBit i).length = cntN n N
 | 0, _ => rfl
 | n + 1, N => by
  rw [List.range_succ_eq_map, List.filter_cons, List.filter_map, Nat.testBit_zero]
  have ih := cnt_list n (N / 2)
  have e : (fun i => N.testBit i) ∘ Nat.succ = fun i => (N / 2).testBit i := by
   funext i
   show N.testBit (i + 1) = _
   rw [Nat.testBit_succ]
  rw [e]
  unfold cntN
  by_cases h : N % 2 = 1
  ·rw [if_pos (by simpa using h), List.length_cons, List.length_map, ih]; omega
  ·rw [if_neg (by simpa using h), List.length_map, ih]; omega
theorem cnt_byte (n N : Nat) : cntN (n + 8) N = ones8 (N % 256) + cntN n (N / 256) := by
 show N % 2 + (N / 2 % 2 + (N / 2 / 2 % 2 + (N / 2 / 2 / 2 % 2 + (N / 2 / 2 / 2 / 2 % 2 + (N / 2 / 2 / 2 / 2 / 2 % 2 + (N / 2 / 2 / 2 / 2 / 2 / 2 % 2 + (N / 2 / 2 / 2 / 2 / 2 / 2 / 2 % 2 + cntN n (N / 2 / 2 / 2 / 2 / 2 / 2 / 2 / 2)))))))) = _
 rw [show N / 2 / 2 / 2 / 2 / 2 / 2 / 2 / 2 = N / 256 by omega]
 unfold ones8
 omega
theorem cnt_bytes (N : Nat) : cntN 64 N = ((byteL N).map ones8).sum := by
 rw [cnt_byte 56, cnt_byte 48, cnt_byte 40, cnt_byte 32, cnt_byte 24, cnt_byte 16, cnt_byte 8, cnt_byte 0]
 unfold byteL
 simp only [List.map_cons, List.map_nil, List.sum_cons, List.sum_nil, cntN, Nat.div_div_eq_div_mul, Nat.reduceMul]
theorem card_cnt (p : U) : cardU p = cntN 64 p.toNat := by
 rw [← cnt_list]
 rfl
theorem ones8_le (b : Nat) : ones8 b ≤ 8 := by unfold ones8; omega
theorem sums8 {c0 c1 c2 c3 c4 c5 c6 c7 : Nat} (h0 : c0 ≤ 8) (h1 : c1 ≤ 8) (h2 : c2 ≤ 8) (h3 : c3 ≤ 8) (h4 : c4 ≤ 8) (h5 : c5 ≤ 8) (h6 : c6 ≤ 8) (h7 : c7 ≤ 8) {Y D E F : Nat}
  (hY : Y = bytesN [c0, c1, c2, c3, c4, c5, c6, c7]) (hD : D = (Y + Y / 256) % 18446744073709551616) (hE : E = (D + D / 65536) % 18446744073709551616) (hF : F = (E + E / 4294967296) % 18446744073709551616) :
  F % 128 = c0 + (c1 + (c2 + (c3 + (c4 + (c5 + (c6 + (c7 + 0))))))) := by
 have q1 : ∀ A r : Nat, r < 256 → (256 * A + r) / 256 = A := fun A r h => by omega
 have q2 : ∀ A r : Nat, r < 65536 → (65536 * A + r) / 65536 = A := fun A r h => by omega
 have q3 : ∀ A r : Nat, r < 4294967296 → (4294967296 * A + r) / 4294967296 = A := fun A r h => by omega
 have hY1 : Y = 256 * bytesN [c1, c2, c3, c4, c5, c6, c7] + c0 := hY
 have hY2 : bytesN [c1, c2, c3, c4, c5, c6, c7] = c1 + 256 * c2 + 65536 * c3 + 16777216 * c4 + 4294967296 * c5 + 1099511627776 * c6 + 281474976710656 * c7 := by
  simp only [bytesN]; omega
 generalize bytesN [c1, c2, c3, c4, c5, c6, c7] = A at hY1 hY2
 have d0 : Y / 256 = A := by rw [hY1]; exact q1 _ _ (by omega)
 rw [d0] at hD
 have d1 : D = Y + A := by rw [hD]; exact Nat.mod_eq_of_lt (by omega)
 clear hD d0 hY
 have e0 : D / 65536 = (c2 + c3) + 256 * (c3 + c4) + 65536 * (c4 + c5) + 16777216 * (c5 + c6) + 4294967296 * (c6 + c7) + 1099511627776 * c7 := by
  have : D = 65536 * ((c2 + c3) + 256 * (c3 + c4) + 65536 * (c4 + c5) + 16777216 * (c5 + c6) + 4294967296 * (c6 + c7) + 1099511627776 * c7) + (256 * (c1 + c2) + (c0 + c1)) := by omega
  rw [this]; exact q2 _ _ (by omega)
 generalize D / 65536 = B at e0 hE
 have e1 : E = D + B := by rw [hE]; exact Nat.mod_eq_of_lt (by omega)
 clear hE
 have f0 : E / 4294967296 = (c4 + c5 + c6 + c7) + 256 * (c5 + c6 + c7) + 65536 * (c6 + c7) + 16777216 * c7 := by
  have : E = 4294967296 * ((c4 + c5 + c6 + c7) + 256 * (c5 + c6 + c7) + 65536 * (c6 + c7) + 16777216 * c7) + (16777216 * (c3 + c4 + c5 + c6) + 65536 * (c2 + c3 + c4 + c5) + 256 * (c1 + c2 + c3 + c4) + (c0 + c1 + c2 + c3)) := by omega
  rw [this]; exact q3 _ _ (by omega)
 generalize E / 4294967296 = G at f0 hF
 have f1 : E + G = 128 * (2 * (c5 + c6 + c7) + 512 * (c6 + c7) + 131072 * c7 + 33554432 * (c4 + c5 + c6 + c7) + 8589934592 * (c5 + c6 + c7) + 2199023255552 * (c6 + c7) + 562949953421312 * c7 + 131072 * (c3 + c4 + c5 + c6) + 512 * (c2 + c3 + c4 + c5) + 2 * (c1 + c2 + c3 + c4)) + (c0 + c1 + c2 + c3 + c4 + c5 + c6 + c7) := by omega
 rw [hF, Nat.mod_mod_of_dvd _ (by decide), f1, Nat.mul_add_mod, Nat.mod_eq_of_lt (by omega)]
 omega
/-- the program's count of ones is the number of ones -/
theorem pop_all (p : U) : (popU p).toNat = cardU p := by
 have hp := p.isLt
 have hN := byteL_eq (N := p.toNat) (by omega)
 obtain ⟨hA, hB, hC⟩ := pops (byteL p.toNat) (byteL_lt _)
 rw [hN] at hA
 have m1 : mk8 85 8 = 6148914691236517205 := by decide
 have m2 : mk8 51 8 = 3689348814741910323 := by decide
 have m3 : mk8 15 8 = 1085102592571150095 := by decide
 have l8 : (byteL p.toNat).length = 8 := rfl
 rw [l8] at hA hB hC
 rw [m1] at hA; rw [m2] at hB; rw [m3] at hC
 have bnd : ∀ f : Nat → Nat, (∀ b, b < 256 → f b < 256) → bytesN ((byteL p.toNat).map f) < 18446744073709551616 := by
  intro f hf
  have h := byteL_lt p.toNat
  have g : ∀ b ∈ byteL p.toNat, f b < 256 := fun b hb => hf b (h b hb)
  unfold byteL at g ⊢
  simp only [List.mem_cons, List.not_mem_nil, or_false, forall_eq_or_imp, forall_eq] at g
  simp only [List.map_cons, List.map_nil, bytesN]
  omega
 have hAx : (popA p).toNat = bytesN ((byteL p.toNat).map (XA 85)) := by
  have : (popA p).toNat = XA 6148914691236517205 p.toNat % 18446744073709551616 := by
   unfold popA XA
   rw [BitVec.toNat_add, BitVec.toNat_and, BitVec.toNat_and, BitVec.toNat_ushiftRight, Nat.shiftRight_eq_div_pow]; rfl
  rw [this, hA]
  exact Nat.mod_eq_of_lt (bnd _ fun b hb => (x8_one hb).1)
 have hBx : (popB (popA p)).toNat = bytesN ((byteL p.toNat).map fun b => XB 51 (XA 85 b)) := by
  have : (popB (popA p)).toNat = XB 3689348814741910323 (popA p).toNat % 18446744073709551616 := by
   unfold popB XB
   rw [BitVec.toNat_add, BitVec.toNat_and, BitVec.toNat_and, BitVec.toNat_ushiftRight, Nat.shiftRight_eq_div_pow]; rfl
  rw [this, hAx, hB]
  exact Nat.mod_eq_of_lt (bnd _ fun b hb => (x8_one hb).2.1)
 have hCx : (popC (popB (popA p))).toNat = bytesN ((byteL p.toNat).map ones8) := by
  have hs : (popB (popA p)).toNat / 16 + (popB (popA p)).toNat < 18446744073709551616 := by
   rw [hBx]
   have g : ∀ b ∈ byteL p.toNat, XB 51 (XA 85 b) / 16 ≤ 4 := fun b hb => (x8_one (byteL_lt _ b hb)).2.2.1
   unfold byteL at g ⊢
   simp only [List.mem_cons, List.not_mem_nil, or_false, forall_eq_or_imp, forall_eq] at g
   simp only [List.map_cons, List.map_nil, bytesN]
   omega
  rw [← hC, ← hBx]
  unfold popC XC
  rw [BitVec.toNat_and, BitVec.toNat_add, BitVec.toNat_ushiftRight, Nat.shiftRight_eq_div_pow]
  rw [show (popB (popA p)).toNat / 2 ^ 4 = (popB (popA p)).toNat / 16 from rfl, Nat.mod_eq_of_lt hs]; rfl
 have hL := sums8 (ones8_le (p.toNat % 256)) (ones8_le (p.toNat / 256 % 256)) (ones8_le (p.toNat / 65536 % 256)) (ones8_le (p.toNat / 16777216 % 256)) (ones8_le (p.toNat / 4294967296 % 256)) (ones8_le (p.toNat / 1099511627776 % 256)) (ones8_le (p.toNat / 281474976710656 % 256)) (ones8_le (p.toNat / 72057594037927936 % 256)) hCx
  (D := (popD (popC (popB (popA p)))).toNat) (E := (popE (popD (popC (popB (popA p))))).toNat) (F := (popF (popE (popD (popC (popB (popA p)))))).toNat)
  (by unfold popD; rw [BitVec.toNat_add, BitVec.toNat_ushiftRight, Nat.shiftRight_eq_div_pow])
  (by unfold popE; rw [BitVec.toNat_add, BitVec.toNat_ushiftRight, Nat.shiftRight_eq_div_pow])
  (by unfold popF; rw [BitVec.toNat_add, BitVec.toNat_ushiftRight, Nat.shiftRight_eq_div_pow])
 have hz : (popU p).toNat = (popF (popE (popD (popC (popB (popA p)))))).toNat % 128 := by
  unfold popU
  rw [BitVec.toNat_and, show (127#64).toNat = 2 ^ 7 - 1 from rfl, Nat.and_two_pow_sub_one_eq_mod]
 rw [hz, hL, card_cnt, cnt_bytes]
 rfl
end Go.Solid
end
section
namespace Go.Solid
open Go.Draw
set_option maxRecDepth 100000
theorem one_has {c e : Cl} (hc : inG c = true) : hasS (one (bitN c)) e = true ↔ e = c := by
 unfold hasS
 cases he : inG e with
 | false =>
  constructor
  ·simp
  ·rintro rfl; rw [he] at hc; cases hc
 | true =>
  rw [Bool.true_and, one_bit (bitN_lt he), decide_eq_true_eq]
  exact ⟨fun h => bitN_inj he hc h, fun h => by rw [h]⟩
theorem or_has {a b : Sol} {e : Cl} : hasS (a ||| b) e = true ↔ hasS a e = true ∨ hasS b e = true := by
 unfold hasS
 cases inG e with
 | false => simp
 | true => rw [Bool.true_and, Bool.true_and, Bool.true_and, BitVec.getLsbD_or, Bool.or_eq_true]
def cavB (x : Sol) : Bool := decide (0 < (loS x).1) && decide (0 < (loS x).2.1) && decide (0 < (loS x).2.2) && decide ((hiS x).1 < 7) && decide ((hiS x).2.1 < 7) && decide ((hiS x).2.2 < 7)
def cavsS (s : Sol) : List Sol := (classesS (stepsL true) (~~~s)).filter cavB
theorem classes_ne {St : List Cl} (hS : Sym St) {s x : Sol} (h : x ∈ classesS St s) : x ≠ 0 := by
 obtain ⟨c, _, hK, _⟩ := (classes_parts hS s).comp x h
 intro h0
 have := mem_cellsS.2 hK.has
 rw [h0, cellsS_zero] at this; cases this
theorem count_planes (s : Sol) : countS s = cardU (plv s 0) + (cardU (plv s 1) + (cardU (plv s 2) + (cardU (plv s 3) + (cardU (plv s 4) + (cardU (plv s 5) + (cardU (plv s 6) + (cardU (plv s 7) + 0))))))) := by
 unfold countS bitsS
 rw [cells_filter]
 have hp : ∀ z (q : U), (planeL z q).length = cardU q := fun z q => by
  unfold planeL; rw [List.length_map]; rfl
 rw [show cellsFrom s 8 = cellsFrom s (8 - 0) from rfl, cellsFrom_succ s (by omega), cellsFrom_succ s (by omega), cellsFrom_succ s (by omega), cellsFrom_succ s (by omega), cellsFrom_succ s (by omega), cellsFrom_succ s (by omega), cellsFrom_succ s (by omega), cellsFrom_succ s (by omega)]
 simp only [List.length_append, hp]
 rfl
end Go.Solid
end
section
namespace Go.Solid
open Go.Draw
set_option maxRecDepth 100000
def inB (n a b : Int) : Bool := decide (a ≤ n) && decide (n ≤ b)
def shortB (d : Cl) : Bool := inB d.1 (-7) 7 && inB d.2.1 (-7) 7 && inB d.2.2 (-7) 7
def rightB (t : Int) (d : Cl) : Bool := inB t 0 23 && shortB d
theorem inB_iff {n a b : Int} : inB n a b = true ↔ a ≤ n ∧ n ≤ b := by unfold inB; simp
theorem shortB_iff {d : Cl} : shortB d = true ↔ ∀ k, -7 ≤ co d k ∧ co d k ≤ 7 := by
 unfold shortB
 rw [Bool.and_eq_true, Bool.and_eq_true, inB_iff, inB_iff, inB_iff]
 constructor
 ·rintro ⟨⟨h1, h2⟩, h3⟩ k
  match k with
  | 0 => exact h1
  | 1 => exact h2
  | _ + 2 => exact h3
 ·intro h; exact ⟨⟨h 0, h 1⟩, h 2⟩
theorem rightB_iff {t : Int} {d : Cl} : rightB t d = true ↔ (0 ≤ t ∧ t ≤ 23) ∧ shortB d = true := by
 unfold rightB; rw [Bool.and_eq_true, inB_iff]
def movedM (s : Sol) (d : Cl) : Sol × Int := if s = 0 then (0, 0) else if shortB d then (if stays (movC d) s then (imgS (movC d) s, 0) else (0, 20)) else (0, 20)
def placedM (s : Sol) (t : Int) (d : Cl) : Sol × Int := if rightB t d then movedM (spunS s t.toNat) d else (0, 1)
abbrev Mo := Int × Cl
def thenM (m n : Mo) : Mo × Int :=
 if rightB m.1 m.2 && rightB n.1 n.2 then
  (if rightB ((mulT m.1.toNat n.1.toNat : Nat) : Int) (addC (movT n.1.toNat m.2) n.2) then ((((mulT m.1.toNat n.1.toNat : Nat) : Int), addC (movT n.1.toNat m.2) n.2), 0) else ((0, (0, 0, 0)), 20))
 else ((0, (0, 0, 0)), 1)
def backM (m : Mo) : Mo × Int := if rightB m.1 m.2 then ((((invT m.1.toNat : Nat) : Int), negC (movT (invT m.1.toNat) m.2)), 0) else ((0, (0, 0, 0)), 1)
theorem linA_bound (a : Ax) {d : Cl} {K : Int} (h : ∀ k, -K ≤ co d k ∧ co d k ≤ K) : -K ≤ linA a d ∧ linA a d ≤ K := by
 unfold linA
 have := h a.1
 split <;> omega
theorem movT_short (t : Nat) {d : Cl} (h : shortB d = true) : shortB (movT t d) = true := by
 rw [shortB_iff] at h ⊢
 intro k
 match k with
 | 0 => exact linA_bound _ h
 | 1 => exact linA_bound _ h
 | _ + 2 => exact linA_bound _ h
def foundB (to : Cl → Cl) (t : Nat) : Bool := turnC t (1, 0, 0) == to (1, 0, 0) && turnC t (0, 1, 0) == to (0, 1, 0) && turnC t (0, 0, 1) == to (0, 0, 1)
/-- what Back of the program looks for -/
theorem back_prog {t u : Nat} (ht : t < 24) (hu : u < 24) : (turnC u (turnC t (0, 1, 2)) == (0, 1, 2)) = (u == invT t) := by
 have := List.all_eq_true.1 (List.all_eq_true.1 told_back t (List.mem_range.2 ht)) u (List.mem_range.2 hu)
 exact beq_iff_eq.1 this
end Go.Solid
end
section
namespace Go.Solid
open Go.Draw
set_option maxRecDepth 100000
abbrev partsS (s : Sol) : List Sol := classesS (stepsL false) s
theorem has_zero (c : Cl) : hasS 0 c = false := by
 rw [not_has]; intro h
 have := mem_cellsS.2 h
 rw [cellsS_zero] at this; cases this
theorem has_ext {a b : Sol} (h : ∀ c, hasS a c = true ↔ hasS b c = true) : a = b := sol_has fun c _ => by rw [Bool.eq_iff_iff]; exact h c
end Go.Solid
end
section
namespace Go.Solid
open Go.Draw
set_option maxRecDepth 100000
structure Iso (f g : Cl → Cl) : Prop where
 gf : ∀ c, g (f c) = c
 fg : ∀ c, f (g c) = c
 fs : ∀ b c e, subC e c ∈ stepsL b → subC (f e) (f c) ∈ stepsL b
 gs : ∀ b c e, subC e c ∈ stepsL b → subC (g e) (g c) ∈ stepsL b
theorem Iso.inj {f g : Cl → Cl} (h : Iso f g) {a b : Cl} (e : f a = f b) : a = b := by rw [← h.gf a, e, h.gf]
theorem Iso.symm {f g : Cl → Cl} (h : Iso f g) : Iso g f := ⟨h.fg, h.gf, h.gs, h.fs⟩
def permS (p : SP) : Bool := [(0, 1, 2), (0, 2, 1), (1, 0, 2), (1, 2, 0), (2, 0, 1), (2, 1, 0)].contains (p.1.1, p.2.1.1, p.2.2.1)
/-- p undoes q, and both are signed permutations -/
structure Undo (p q : SP) : Prop where
 hp : permS p = true
 hq : permS q = true
 pq : compS p q = idS
 qp : compS q p = idS
theorem Undo.symm {p q : SP} (h : Undo p q) : Undo q p := ⟨h.hq, h.hp, h.qp, h.pq⟩
/-- what stays the same -/
structure Alike (a b : Sol) : Prop where
 count : countS a = countS b
 parts : (partsS a).length = (partsS b).length
 cavs : (cavsS a).length = (cavsS b).length
 euler : eulerS a = eulerS b
 skin : skinS a = skinS b
theorem Alike.refl (a : Sol) : Alike a a := ⟨rfl, rfl, rfl, rfl, rfl⟩
theorem Alike.trans {a b c : Sol} (h : Alike a b) (k : Alike b c) : Alike a c := ⟨h.1.trans k.1, h.2.trans k.2, h.3.trans k.3, h.4.trans k.4, h.5.trans k.5⟩
end Go.Solid
end
section
namespace Go.Solid
open Go.Draw
set_option maxRecDepth 100000
theorem cutS_self (k l : Sol) : k ||| cutS l l = k := has_ext fun e => by
 rw [or_has, cut_has]
 constructor
 ·rintro (h | ⟨h1, h2⟩)
  ·exact h
  ·rw [h1] at h2; cases h2
 ·exact .inl
theorem cut_del {k l : Sol} {c : Cl} (h : hasS l c = true) : k ||| one (bitN c) = k ||| cutS l (delS l c) := has_ext fun e => by
 have hg := has_in h
 rw [or_has, or_has, one_has hg, cut_has, not_has, del_has hg]
 constructor
 ·rintro (h1 | rfl)
  ·exact .inl h1
  ·exact .inr ⟨h, fun hh => hh.2 rfl⟩
 ·rintro (h1 | ⟨h1, h2⟩)
  ·exact .inl h1
  ·exact .inr (Classical.byContradiction fun he => h2 ⟨h1, he⟩)
theorem cut_join {k a b c : Sol} (h1 : subS b a = true) (h2 : subS c b = true) : (k ||| cutS a b) ||| cutS b c = k ||| cutS a c := has_ext fun e => by
 rw [or_has, or_has, or_has, cut_has, cut_has, cut_has]
 have k1 := subS_iff.1 h1 e
 have k2 := subS_iff.1 h2 e
 cases ha : hasS a e <;> cases hb : hasS b e <;> cases hc : hasS c e <;> simp_all
theorem zero_or (a : Sol) : (0 : Sol) ||| a = a := by simp
theorem vis_no {St : List Cl} {n : Nat} {l : Sol} {c : Cl} (h : hasS l c = false) : visN St n l c = l := by
 cases n with
 | zero => rfl
 | succ n => unfold visN; rw [h]; rfl
theorem vis_yes {St : List Cl} {n : Nat} {l : Sol} {c : Cl} (h : hasS l c = true) : visN St (n + 1) l c = St.foldl (fun l d => visN St n l (addC c d)) (delS l c) := by
 conv => lhs; unfold visN
 rw [if_pos h]
theorem has_count {l : Sol} {c : Cl} (h : hasS l c = true) : 1 ≤ countS l := by
 refine Nat.one_le_iff_ne_zero.2 fun h0 => ?_
 rw [count_zero.1 h0, has_zero] at h
 cases h
theorem vis_sub (St : List Cl) {n : Nat} {l : Sol} (c : Cl) (h : countS l ≤ n) : subS (visN St n l c) l = true := (vis_spec St n l c h).sub
theorem del_sub {l : Sol} {c : Cl} (h : hasS l c = true) : subS (delS l c) l = true := subS_iff.2 fun _ he => ((del_has (has_in h)).1 he).1
theorem steps_near (f : Bool) : ∀ d ∈ stepsL f, -1 ≤ d.1 ∧ d.1 ≤ 1 ∧ -1 ≤ d.2.1 ∧ d.2.1 ≤ 1 ∧ -1 ≤ d.2.2 ∧ d.2.2 ≤ 1 := by cases f <;> decide +kernel
end Go.Solid
end
section
namespace Go.Solid
open Go.Draw
set_option maxRecDepth 100000
def clsStep (St : List Cl) (p : Sol × List Sol) (c : Cl) : Sol × List Sol := if hasS p.1 c then (visN St 512 p.1 c, p.2 ++ [partS St p.1 c]) else p
def clsP (St : List Cl) (s : Sol) (pre : List Cl) : Sol × List Sol := pre.foldl (clsStep St) (s, [])
theorem clsP_snoc (St : List Cl) (s : Sol) (pre : List Cl) (c : Cl) : clsP St s (pre ++ [c]) = clsStep St (clsP St s pre) c := by unfold clsP; rw [List.foldl_append]; rfl
theorem clsP_yes {St : List Cl} {p : Sol × List Sol} {c : Cl} (h : hasS p.1 c = true) : clsStep St p c = (visN St 512 p.1 c, p.2 ++ [partS St p.1 c]) := by unfold clsStep; rw [if_pos h]
theorem clsP_no {St : List Cl} {p : Sol × List Sol} {c : Cl} (h : hasS p.1 c = false) : clsStep St p c = p := by unfold clsStep; rw [h]; rfl
theorem clsF_fold (St : List Cl) : ∀ (cs : List Cl) (l : Sol) (L : List Sol), (cs.foldl (clsStep St) (l, L)).2 = L ++ clsF St cs l
 | [], l, L => by simp [clsF]
 | c :: cs, l, L => by
  rw [List.foldl_cons]
  unfold clsF
  cases h : hasS l c with
  | true =>
   rw [clsP_yes (p := (l, L)) h, clsF_fold St cs, if_pos rfl, List.append_assoc]; rfl
  | false =>
   rw [clsP_no (p := (l, L)) h, clsF_fold St cs]; rfl
theorem clsP_all (St : List Cl) (s : Sol) : (clsP St s (cellsS s)).2 = classesS St s := by
 unfold clsP classesS
 rw [clsF_fold, List.nil_append]
theorem clsStep_len (St : List Cl) (p : Sol × List Sol) (c : Cl) : (clsStep St p c).2.length ≤ p.2.length + 1 := by
 unfold clsStep
 split
 ·simp
 ·exact Nat.le_succ _
theorem clsP_len (St : List Cl) (s : Sol) : ∀ pre : List Cl, (clsP St s pre).2.length ≤ pre.length := by
 intro pre
 have key : ∀ (cs : List Cl) (p : Sol × List Sol), (cs.foldl (clsStep St) p).2.length ≤ p.2.length + cs.length := by
  intro cs
  induction cs with
  | nil => intro p; exact Nat.le_refl _
  | cons c cs ih =>
   intro p
   rw [List.foldl_cons, List.length_cons]
   have := ih (clsStep St p c)
   have h2 := clsStep_len St p c
   omega
 have := key pre (s, [])
 simpa [clsP] using this
end Go.Solid
end
section
namespace Go.Solid
open Go.Draw
set_option maxRecDepth 100000
def cntB (s : Sol) (c : Cl) (j : Nat) : Nat := (((stepsL true).take j).filter fun d => !hasS s (addC c d)).length
theorem cntB_zero (s : Sol) (c : Cl) : cntB s c 0 = 0 := rfl
theorem cntB_end (s : Sol) (c : Cl) : cntB s c (stepsL true).length = bareN s c := by unfold cntB bareN; rw [List.take_length]
theorem cntB_succ {s : Sol} {c d : Cl} {j : Nat} (h : (stepsL true)[j]? = some d) : cntB s c (j + 1) = if hasS s (addC c d) then cntB s c j else cntB s c j + 1 := by
 unfold cntB
 rw [List.take_add_one, h, List.filter_append, List.length_append]
 cases hq : hasS s (addC c d) <;> simp [hq]
theorem cntB_le (s : Sol) (c : Cl) (j : Nat) : cntB s c j ≤ 6 := by
 unfold cntB
 refine Nat.le_trans (List.length_filter_le _ _) (Nat.le_trans (List.length_take_le' _ _) ?_)
 decide +kernel
theorem bareN_le (s : Sol) (c : Cl) : bareN s c ≤ 6 := by rw [← cntB_end]; exact cntB_le _ _ _
def skinP (s : Sol) (pre : List Cl) : Nat := (pre.map (bareN s)).sum
theorem skinP_nil (s : Sol) : skinP s [] = 0 := rfl
theorem skinP_snoc (s : Sol) (pre : List Cl) (c : Cl) : skinP s (pre ++ [c]) = skinP s pre + bareN s c := by unfold skinP; simp
theorem skinP_le (s : Sol) : ∀ pre : List Cl, skinP s pre ≤ 6 * pre.length
 | [] => Nat.le_refl _
 | c :: pre => by
  have h1 := skinP_le s pre
  have h2 := bareN_le s c
  unfold skinP at *
  rw [List.map_cons, List.sum_cons, List.length_cons]
  omega
theorem skinP_all (s : Sol) : skinP s (cellsS s) = skinS s := rfl
end Go.Solid
end
section
namespace Go.Solid
open Go.Draw
set_option maxRecDepth 100000
def mids (c : Cl) : List Cl := (stepsL false).map (midC c)
def eulP (pre : List Cl) : List Cl := seenF (pre.flatMap mids)
def eulJ (pre : List Cl) (c : Cl) (j : Nat) : List Cl := (((stepsL false).take j).map (midC c)).foldl addNew (eulP pre)
theorem eulP_nil : eulP [] = [] := rfl
theorem eulJ_zero (pre : List Cl) (c : Cl) : eulJ pre c 0 = eulP pre := rfl
theorem eulJ_end (pre : List Cl) (c : Cl) : eulJ pre c (stepsL false).length = eulP (pre ++ [c]) := by
 unfold eulJ eulP seenF
 rw [List.take_length, List.flatMap_append, List.foldl_append, List.flatMap_cons, List.flatMap_nil, List.append_nil]
 rfl
theorem eulJ_succ {pre : List Cl} {c d : Cl} {j : Nat} (h : (stepsL false)[j]? = some d) : eulJ pre c (j + 1) = addNew (eulJ pre c j) (midC c d) := by
 unfold eulJ
 rw [List.take_add_one, h, List.map_append, List.foldl_append]
 rfl
theorem eul_yes {l : List Cl} {p : Cl} (h : p ∈ l) : addNew l p = l := by unfold addNew; rw [if_pos h]
theorem eul_no {l : List Cl} {p : Cl} (h : p ∉ l) : addNew l p = l ++ [p] := by unfold addNew; rw [if_neg h]
theorem addNew_len (l : List Cl) (p : Cl) : (addNew l p).length ≤ l.length + 1 := by unfold addNew; split <;> simp
theorem fold_len : ∀ (ps l : List Cl), (ps.foldl addNew l).length ≤ l.length + ps.length
 | [], l => Nat.le_refl _
 | p :: ps, l => by
  rw [List.foldl_cons, List.length_cons]
  have h1 := fold_len ps (addNew l p)
  have h2 := addNew_len l p
  omega
theorem steps27 : (stepsL false).length = 27 := by decide +kernel
theorem flat_len : ∀ pre : List Cl, (pre.flatMap mids).length = 27 * pre.length
 | [] => rfl
 | c :: pre => by
  rw [List.flatMap_cons, List.length_append, flat_len pre, List.length_cons]
  unfold mids
  rw [List.length_map, steps27]
  omega
theorem eulP_len (pre : List Cl) : (eulP pre).length ≤ 27 * pre.length := by
 have := fold_len (pre.flatMap mids) []
 rw [flat_len] at this
 unfold eulP seenF
 simpa using this
theorem eulJ_len (pre : List Cl) (c : Cl) (j : Nat) : (eulJ pre c j).length ≤ 27 * pre.length + 27 := by
 have h1 := fold_len (((stepsL false).take j).map (midC c)) (eulP pre)
 have h2 := eulP_len pre
 have h3 := List.length_take_le' j (stepsL false)
 rw [List.length_map] at h1
 rw [steps27] at h3
 unfold eulJ
 omega
theorem sumZ_snoc (f : Cl → Int) (l : List Cl) (p : Cl) : sumZ f (l ++ [p]) = sumZ f l + f p := by unfold sumZ; simp
theorem sgn_cases (p : Cl) : sgn p = 1 ∨ sgn p = -1 := by unfold sgn; split <;> simp
theorem sumZ_le : ∀ l : List Cl, -(l.length : Int) ≤ sumZ sgn l ∧ sumZ sgn l ≤ l.length
 | [] => ⟨by decide, by decide⟩
 | p :: l => by
  have h1 := sumZ_le l
  have h2 := sgn_cases p
  unfold sumZ at *
  rw [List.map_cons, List.sum_cons, List.length_cons]
  omega
theorem euler_eulP (s : Sol) : sumZ sgn (eulP (cellsS s)) = eulerS s := rfl
end Go.Solid
end
section
namespace Go.Solid
open Go.Draw
set_option maxRecDepth 100000
def hookS : Sol := 263#512
def ringS : Sol := 460039#512
theorem v_placed : placedM hookS 1 (-5, 0, 0) = (263174#512, 0) := by decide +kernel
theorem v_sym : symL ringS = [0, 1, 2, 3, 8, 9, 10, 11] := by decide +kernel
theorem v_img : (imagesS ringS).length = 3 := by decide +kernel
theorem v_eul : eulerS ringS = 0 := by decide +kernel
theorem v_skin : skinS ringS = 32 := by decide +kernel
theorem v_parts : (partsS ringS).length = 1 := by decide +kernel
theorem v_cavs : (cavsS ringS).length = 0 := by decide +kernel
theorem v_then2 : thenM (1, (2, 0, 0)) (1, (0, 0, 0)) = ((2, (0, 2, 0)), 0) := by decide +kernel
theorem v_back : backM (1, (2, 0, 0)) = ((3, (0, 2, 0)), 0) := by decide +kernel
def stepS : Sol := 1#512 ||| (512#512 <<< 64)
theorem v_parts2 : (partsS stepS).length = 1 := by decide +kernel
theorem v_canon : canonS hookS = canonS (263174#512) := by decide +kernel
theorem v_fit2 : fitsL hookS ringS = [] := by decide +kernel
theorem v_fit1 : (fitsL ringS hookS).isEmpty = false := by decide +kernel
end Go.Solid
end
section
namespace Go.Solid
open Go.Draw
set_option maxRecDepth 100000
abbrev Ch := Cl → Bool
def bx (S : Ch) (x y z : Int) : Bool := S (x + 1, y, z) ^^ S (x - 1, y, z)
def bY (S : Ch) (x y z : Int) : Bool := S (x, y + 1, z) ^^ S (x, y - 1, z)
def bz (S : Ch) (x y z : Int) : Bool := S (x, y, z + 1) ^^ S (x, y, z - 1)
/-- the boundary of a chain at a point -/
def bnd (S : Ch) : Ch := fun q => ((if q.1 % 2 = 0 then bx S q.1 q.2.1 q.2.2 else false) ^^ (if q.2.1 % 2 = 0 then bY S q.1 q.2.1 q.2.2 else false)) ^^ (if q.2.2 % 2 = 0 then bz S q.1 q.2.1 q.2.2 else false)
theorem x4 (a b c d : Bool) : ((a ^^ b) ^^ (c ^^ d)) = ((a ^^ c) ^^ (b ^^ d)) := by cases a <;> cases b <;> cases c <;> cases d <;> rfl
theorem ite_x (p : Prop) [Decidable p] (a b : Bool) : (if p then a ^^ b else false) = ((if p then a else false) ^^ (if p then b else false)) := by split <;> rfl
theorem x6 (a b c d e f : Bool) : (((a ^^ b) ^^ (c ^^ d)) ^^ (e ^^ f)) = (((a ^^ c) ^^ e) ^^ ((b ^^ d) ^^ f)) := by cases a <;> cases b <;> cases c <;> cases d <;> cases e <;> cases f <;> rfl
theorem bx_xor (S T : Ch) (x y z : Int) : bx (fun p => S p ^^ T p) x y z = (bx S x y z ^^ bx T x y z) := x4 _ _ _ _
theorem bY_xor (S T : Ch) (x y z : Int) : bY (fun p => S p ^^ T p) x y z = (bY S x y z ^^ bY T x y z) := x4 _ _ _ _
theorem bz_xor (S T : Ch) (x y z : Int) : bz (fun p => S p ^^ T p) x y z = (bz S x y z ^^ bz T x y z) := x4 _ _ _ _
theorem bnd_xor (S T : Ch) (q : Cl) : bnd (fun p => S p ^^ T p) q = (bnd S q ^^ bnd T q) := by
 unfold bnd
 rw [bx_xor, bY_xor, bz_xor, ite_x, ite_x, ite_x, x6]
def evs (q : Cl) : Bool := decide (q.1 % 2 = 0) && decide (q.2.1 % 2 = 0) && decide (q.2.2 % 2 = 0)
def edgeP (q : Cl) : Bool := (decide (q.1 % 2 = 1) && decide (q.2.1 % 2 = 0) && decide (q.2.2 % 2 = 0)) || (decide (q.1 % 2 = 0) && decide (q.2.1 % 2 = 1) && decide (q.2.2 % 2 = 0)) || (decide (q.1 % 2 = 0) && decide (q.2.1 % 2 = 0) && decide (q.2.2 % 2 = 1))
def Boxed (S : Ch) : Prop := ∀ p, S p = true → ∀ k, 0 ≤ co p k ∧ co p k ≤ 16
def wN (S : Ch) (a b : Int) : Nat → Bool
 | 0 => false
 | n + 1 => wN S a b n ^^ S (2 * a + 1, 2 * b + 1, 2 * (n : Int))
theorem boxed_no {S : Ch} (h : Boxed S) {p : Cl} (k : Nat) (hk : co p k < 0 ∨ 16 < co p k) : S p = false := by
 cases e : S p with
 | false => rfl
 | true => have := h p e k; omega
def Closed (S : Ch) : Prop := ∀ q, edgeP q = true → bnd S q = false
theorem x_of (a b c d : Bool) : ((a ^^ b) ^^ (c ^^ d)) = false → c = ((a ^^ b) ^^ d) := by cases a <;> cases b <;> cases c <;> cases d <;> decide
theorem wx (S : Ch) (hB : Boxed S) (hC : Closed S) (a b : Int) : ∀ n : Nat, (wN S (a - 1) b n ^^ wN S a b n) = S (2 * a, 2 * b + 1, 2 * (n : Int) - 1)
 | 0 => by
  rw [boxed_no hB 2 (p := (2 * a, 2 * b + 1, 2 * ((0 : Nat) : Int) - 1)) (Or.inl (by show 2 * ((0 : Nat) : Int) - 1 < 0; omega))]
  rfl
 | n + 1 => by
  have ih := wx S hB hC a b n
  have h := hC (2 * a, 2 * b + 1, 2 * (n : Int)) (by unfold edgeP; simp only [show (2 * a) % 2 = 0 by omega, show (2 * b + 1) % 2 = 1 by omega, show (2 * (n : Int)) % 2 = 0 by omega]; decide)
  unfold bnd bx bY bz at h
  simp only [show (2 * a) % 2 = 0 by omega, show ¬ (2 * b + 1) % 2 = 0 by omega, show (2 * (n : Int)) % 2 = 0 by omega, if_true, if_false, Bool.xor_false] at h
  have e1 : wN S (a - 1) b (n + 1) = (wN S (a - 1) b n ^^ S (2 * a - 1, 2 * b + 1, 2 * (n : Int))) := by
   show (wN S (a - 1) b n ^^ S (2 * (a - 1) + 1, 2 * b + 1, 2 * (n : Int))) = _
   rw [show 2 * (a - 1) + 1 = 2 * a - 1 by omega]
  have e2 : wN S a b (n + 1) = (wN S a b n ^^ S (2 * a + 1, 2 * b + 1, 2 * (n : Int))) := rfl
  rw [e1, e2, x4, ih, show 2 * ((n + 1 : Nat) : Int) - 1 = 2 * (n : Int) + 1 by omega, x_of _ _ _ _ h]
  cases S (2 * a, 2 * b + 1, 2 * (n : Int) - 1) <;> cases S (2 * a - 1, 2 * b + 1, 2 * (n : Int)) <;> cases S (2 * a + 1, 2 * b + 1, 2 * (n : Int)) <;> rfl
theorem wy (S : Ch) (hB : Boxed S) (hC : Closed S) (a b : Int) : ∀ n : Nat, (wN S a (b - 1) n ^^ wN S a b n) = S (2 * a + 1, 2 * b, 2 * (n : Int) - 1)
 | 0 => by
  rw [boxed_no hB 2 (p := (2 * a + 1, 2 * b, 2 * ((0 : Nat) : Int) - 1)) (Or.inl (by show 2 * ((0 : Nat) : Int) - 1 < 0; omega))]
  rfl
 | n + 1 => by
  have ih := wy S hB hC a b n
  have h := hC (2 * a + 1, 2 * b, 2 * (n : Int)) (by unfold edgeP; simp only [show (2 * b) % 2 = 0 by omega, show (2 * a + 1) % 2 = 1 by omega, show (2 * (n : Int)) % 2 = 0 by omega]; decide)
  unfold bnd bx bY bz at h
  simp only [show (2 * b) % 2 = 0 by omega, show ¬ (2 * a + 1) % 2 = 0 by omega, show (2 * (n : Int)) % 2 = 0 by omega, if_true, if_false, Bool.false_xor] at h
  have e1 : wN S a (b - 1) (n + 1) = (wN S a (b - 1) n ^^ S (2 * a + 1, 2 * b - 1, 2 * (n : Int))) := by
   show (wN S a (b - 1) n ^^ S (2 * a + 1, 2 * (b - 1) + 1, 2 * (n : Int))) = _
   rw [show 2 * (b - 1) + 1 = 2 * b - 1 by omega]
  have e2 : wN S a b (n + 1) = (wN S a b n ^^ S (2 * a + 1, 2 * b + 1, 2 * (n : Int))) := rfl
  rw [e1, e2, x4, ih, show 2 * ((n + 1 : Nat) : Int) - 1 = 2 * (n : Int) + 1 by omega, x_of _ _ _ _ h]
  cases S (2 * a + 1, 2 * b, 2 * (n : Int) - 1) <;> cases S (2 * a + 1, 2 * b - 1, 2 * (n : Int)) <;> cases S (2 * a + 1, 2 * b + 1, 2 * (n : Int)) <;> rfl
end Go.Solid
end
