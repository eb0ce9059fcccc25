import Derived.Test.YtccnkebkgegohaaGreatDoorG03
/-
  Given contracts of functions of the program, and laws for them, one behind the other.
-/
set_option linter.unusedVariables false
set_option linter.unusedSimpArgs false
set_option linter.unusedSectionVars false
section
namespace Go.Proofs.YtccnkebkgegohaaGreatDoor
open Go.RowKit Go.Rel
set_option maxRecDepth 100000
theorem touchCut (s : Sol) (w : World) : Calls Tryz.prog 273 #[.agg #[.int .u64 (pl s 0), .int .u64 (pl s 1), .int .u64 (pl s 2), .int .u64 (pl s 3), .int .u64 (pl s 4), .int .u64 (pl s 5), .int .u64 (pl s 6), .int .u64 (pl s 7)]] w fun e w' => e = .returned (solV s) ∧ Below w.heap.size w w' := by
 go_enter Tryz.func273, Tryz.ntmps273
 go_wp2
 exact bodyPost_ret (by simp [results, Tryz.results273, go_sem]) rfl ⟨rfl, bel_by⟩
theorem touchPiece (b : Int) (s : Sol) (w : World) : Calls Tryz.prog 275 #[.agg #[.int .u8 b, .int .u64 (pl s 0), .int .u64 (pl s 1), .int .u64 (pl s 2), .int .u64 (pl s 3), .int .u64 (pl s 4), .int .u64 (pl s 5), .int .u64 (pl s 6), .int .u64 (pl s 7)]] w fun e w' => e = .returned (solV s) ∧ Below w.heap.size w w' := by
 go_enter Tryz.func275, Tryz.ntmps275
 go_wp2
 exact bodyPost_ret (by simp [results, Tryz.results275, go_sem]) rfl ⟨rfl, bel_by⟩
set_option maxHeartbeats 1000000 in
theorem meets_spec (a b : Sol) (w : World) : Calls Tryz.prog 151 #[solV a, solV b] w fun e w' => e = .returned (.bool (meetsB a b)) ∧ Below w.heap.size w w' := by
 go_enter Tryz.func151, Tryz.ntmps151
 go_wp2_with fail
 refine (Meet_spec a b _).mono ?_
 rintro e w1 ⟨rfl, hb⟩
 go_wp2_with fail
 go_ret
 exact ⟨rfl, bel_by⟩
theorem mTouchCut (x0 x1 x2 x3 x4 x5 x6 x7 : Value) (w : World) : (method 408 212 (.agg #[x0, x1, x2, x3, x4, x5, x6, x7]) "strickle/trace.touches").run Tryz.prog w = .ok (273, .agg #[x0, x1, x2, x3, x4, x5, x6, x7]) w := by kernel_rfl
theorem mTouchFit (b x0 x1 x2 x3 x4 x5 x6 x7 : Value) (w : World) : (method 408 217 (.agg #[b, x0, x1, x2, x3, x4, x5, x6, x7]) "strickle/trace.touches").run Tryz.prog w = .ok (275, .agg #[b, x0, x1, x2, x3, x4, x5, x6, x7]) w := by kernel_rfl
theorem mTouchTake (b x0 x1 x2 x3 x4 x5 x6 x7 : Value) (w : World) : (method 408 218 (.agg #[b, x0, x1, x2, x3, x4, x5, x6, x7]) "strickle/trace.touches").run Tryz.prog w = .ok (275, .agg #[b, x0, x1, x2, x3, x4, x5, x6, x7]) w := by kernel_rfl
theorem enters_fn {f : FuncId} {fn : Func} {c : Code} (hf : Tryz.prog.funcs[f]? = some fn) (hname : (fn.name == "runtime.NumGoroutine") = false) (hb : fn.body = some c) (args : Array Value) (w : World) : (callFunc f args).run Tryz.prog w = .ok (.enter f args) w := by
 have h1 : fn.name ≠ "runtime.NumGoroutine" := by simpa using hname
 simp [callFunc, hf, h1, hb, mark]
theorem enter273 (args : Array Value) (w : World) : (callFunc 273 args).run Tryz.prog w = .ok (.enter 273 args) w := enters_fn Tryz.func273 (by kernel_rfl) rfl args w
theorem enter275 (args : Array Value) (w : World) : (callFunc 275 args).run Tryz.prog w = .ok (.enter 275 args) w := enters_fn Tryz.func275 (by kernel_rfl) rfl args w
/-- what touches a deed's method 'touches' comes to -/
theorem touches_of (d : Deed) : ∃ (t : Nat) (x : Value) (f : Nat) (y : Value), deedV d = .iface t x ∧ (∀ w, (method 408 t x "strickle/trace.touches").run Tryz.prog w = .ok (f, y) w) ∧
  (∀ args w, (callFunc f args).run Tryz.prog w = .ok (.enter f args) w) ∧ Hid (∀ w, Calls Tryz.prog f #[y] w fun e w' => e = .returned (solV d.2.2) ∧ Below w.heap.size w w') := by
 unfold deedV
 by_cases h1 : d.1 = 1
 ·rw [if_pos h1]
  exact ⟨212, _, 273, _, rfl, mTouchCut _ _ _ _ _ _ _ _, enter273, touchCut _⟩
 ·rw [if_neg h1]
  by_cases h2 : d.1 = 2
  ·rw [if_pos h2]
   exact ⟨217, _, 275, _, rfl, mTouchFit _ _ _ _ _ _ _ _ _, enter275, touchPiece _ _⟩
  ·rw [if_neg h2]
   exact ⟨218, _, 275, _, rfl, mTouchTake _ _ _ _ _ _ _ _ _, enter275, touchPiece _ _⟩
set_option maxHeartbeats 1000000 in
theorem independent_spec (c d : Deed) (w : World) : Calls Tryz.prog 101 #[deedV c, deedV d] w fun e w' => e = .returned (.bool (!meetsB c.2.2 d.2.2)) ∧ Below w.heap.size w w' := by
 obtain ⟨t, x, f, y, e1, m1, c1, k1⟩ := touches_of c
 obtain ⟨u, z, g, v, e2, m2, c2, k2⟩ := touches_of d
 rw [e1, e2]
 clear e1 e2
 go_enter Tryz.func101, Tryz.ntmps101
 go_wp2_with fail
 refine (k1.out _).mono ?_
 rintro e w1 ⟨rfl, hb1⟩
 go_wp2_with fail
 refine (k2.out _).mono ?_
 rintro e w2 ⟨rfl, hb2⟩
 go_wp2_with fail
 refine (meets_spec _ _ _).mono ?_
 rintro e w3 ⟨rfl, hb3⟩
 go_wp2_with fail
 go_ret
 exact ⟨rfl, bel_by⟩
end Go.Proofs.YtccnkebkgegohaaGreatDoor
end
section
namespace Go.Proofs.YtccnkebkgegohaaGreatDoor
open Go.RowKit Go.Rel
set_option maxRecDepth 100000
theorem fits_kept {n : Nat} {K : Nat} {p : Int} {s : Sol} (h1 : ¬ K = 1) (hf : fits n (K, p, s) = true) : (K = 2 ∨ K = 3) ∧ 0 ≤ p ∧ p < n ∧ (s == 0#512) = true := by
 unfold fits at hf
 rw [if_neg h1] at hf
 simp only [Bool.and_eq_true, Bool.or_eq_true, beq_iff_eq, decide_eq_true_eq] at hf
 obtain ⟨⟨⟨a, b⟩, c⟩, d⟩ := hf
 exact ⟨a, b, c, by rw [beq_iff_eq]; exact d⟩
theorem fits_kept_no {n : Nat} {K : Nat} {p : Int} {s : Sol} (h23 : K = 2 ∨ K = 3) (hf : fits n (K, p, s) = false) : p < 0 ∨ (n : Int) ≤ p ∨ (s == 0#512) = false := by
 have h1 : ¬ K = 1 := by omega
 unfold fits at hf
 rw [if_neg h1] at hf
 by_cases ha : p < 0
 ·exact .inl ha
 by_cases hb : (n : Int) ≤ p
 ·exact .inr (.inl hb)
 refine .inr (.inr ?_)
 cases hs : (s == 0#512) with
 | false => rfl
 | true =>
  have e : (K == 2 || K == 3) = true := by rcases h23 with rfl | rfl <;> rfl
  rw [hs, e, show decide (0 ≤ p) = true from decide_eq_true (by omega), show decide (p < (n : Int)) = true from decide_eq_true (by omega)] at hf
  cases hf
theorem kept_spec (blank : Sol) (v : Value) (l : List Sol) (K : Nat) (p : Int) (s : Sol) (w : World) (H : SlS w v l) (h8 : l.length ≤ 8) (h23 : K = 2 ∨ K = 3) (r : Bool) (hr : fits l.length (K, p, s) = r) :
  ∃ f0 f1 f2 f3 f4 f5 f6 f7 f8 : Int, (r = true → f8 = bitOf p ∧ f0 = pl (acCells l (K, p, s)) 0 ∧ f1 = pl (acCells l (K, p, s)) 1 ∧ f2 = pl (acCells l (K, p, s)) 2 ∧ f3 = pl (acCells l (K, p, s)) 3 ∧ f4 = pl (acCells l (K, p, s)) 4 ∧ f5 = pl (acCells l (K, p, s)) 5 ∧ f6 = pl (acCells l (K, p, s)) 6 ∧ f7 = pl (acCells l (K, p, s)) 7) ∧
  ∀ w', Below w.heap.size w w' → Calls Tryz.prog 185 #[.agg #[.int .u64 (pl blank 0), .int .u64 (pl blank 1), .int .u64 (pl blank 2), .int .u64 (pl blank 3), .int .u64 (pl blank 4), .int .u64 (pl blank 5), .int .u64 (pl blank 6), .int .u64 (pl blank 7), v], .agg #[.int .u8 K, .int .i64 p, .int .u64 (pl s 0), .int .u64 (pl s 1), .int .u64 (pl s 2), .int .u64 (pl s 3), .int .u64 (pl s 4), .int .u64 (pl s 5), .int .u64 (pl s 6), .int .u64 (pl s 7)]] w' fun e w'' => e = .returned (.tuple #[.agg #[.int .u8 f8, .int .u64 f0, .int .u64 f1, .int .u64 f2, .int .u64 f3, .int .u64 f4, .int .u64 f5, .int .u64 f6, .int .u64 f7], .bool r]) ∧ Below w'.heap.size w' w'' := by
 cases r with
 | false =>
  refine ⟨0, 0, 0, 0, 0, 0, 0, 0, 0, fun h => (by cases h), fun w' hb => ?_⟩
  have hno := fits_kept_no h23 hr
  obtain ⟨a, n, c, rfl, rfl, hc, hm⟩ := H.out
  exact kept_no blank a l.length c K p s w' h8 hno
 | true =>
  have h1 : ¬ K = 1 := by omega
  obtain ⟨_, hp0, hp1, hs⟩ := fits_kept h1 hr
  obtain ⟨k, rfl⟩ := Int.eq_ofNat_of_zero_le hp0
  have hk : k < l.length := by omega
  rcases H.cases with ⟨hl, _⟩ | ⟨b, off, c, rfl, hc, hm, hpos, hcs⟩
  ·have : l = [] := by simpa using hl
   subst this; simp at hk
  ·rw [List.length_map] at hc ⊢
   have e : acCells l (K, (k : Int), s) = l.getD k 0 := by unfold acCells; rw [if_neg h1]; rfl
   refine ⟨_, _, _, _, _, _, _, _, _, fun _ => ⟨rfl, rfl, rfl, rfl, rfl, rfl, rfl, rfl, rfl⟩, fun w' hb => ?_⟩
   obtain ⟨c0, c1, c2, c3, c4, c5, c6, c7⟩ := sol_cells (hcs.mono hb hcs.1) (k := k) (x := l.getD k 0) (by simp [hk])
   rw [e]
   exact kept_yes blank b off l.length c K k s (l.getD k 0) w' hs h8 hk (Nat.lt_of_lt_of_le hcs.1 hb.size) c0 c1 c2 c3 c4 c5 c6 c7
theorem made_spec (blank : Sol) (v : Value) (l : List Sol) (a : Ac) (w : World) (H : SlS w v l) (h8 : l.length ≤ 8) :
  Calls Tryz.prog 99 #[.agg #[.int .u64 (pl blank 0), .int .u64 (pl blank 1), .int .u64 (pl blank 2), .int .u64 (pl blank 3), .int .u64 (pl blank 4), .int .u64 (pl blank 5), .int .u64 (pl blank 6), .int .u64 (pl blank 7), v], .agg #[.int .u8 a.1, .int .i64 a.2.1, .int .u64 (pl a.2.2 0), .int .u64 (pl a.2.2 1), .int .u64 (pl a.2.2 2), .int .u64 (pl a.2.2 3), .int .u64 (pl a.2.2 4), .int .u64 (pl a.2.2 5), .int .u64 (pl a.2.2 6), .int .u64 (pl a.2.2 7)]] w fun e w' =>
   e = .returned (if fits l.length a then deedV (made l a) else .nilIface) ∧ Below w.heap.size w w' := by
 by_cases hk : a.1 < 1 ∨ 3 < a.1
 ·have : fits l.length a = false := by
   cases h : fits l.length a with
   | false => rfl
   | true => have := fits_kind h; omega
  rw [this]
  exact made_other blank v a w hk
 ·obtain ⟨K, p, s⟩ := a
  have hK : K = 1 ∨ K = 2 ∨ K = 3 := by simp only at hk; omega
  clear hk
  rcases hK with rfl | h23
  ·refine made_cut blank v p s w _ (fun w' hb => ?_)
   obtain ⟨a, n, c, rfl, rfl, hc, hm⟩ := H.out
   cases hf : fits l.length (1, p, s) with
   | true =>
    have : (p == 0) = true ∧ (s == 0#512) = false := by
     unfold fits at hf
     simpa using hf
    have hp : p = 0 := by simpa using this.1
    subst hp
    simpa [deedV, made, acCells] using mkCut_yes blank a l.length c 1 s w' this.2
   | false =>
    refine mkCut_no blank a l.length c 1 p s w' ?_
    unfold fits at hf
    rw [if_pos rfl] at hf
    cases hp : (p == 0) with
    | false => exact .inl rfl
    | true =>
     simp only at hf
     rw [hp] at hf
     right; simpa using hf
  ·obtain ⟨f0, f1, f2, f3, f4, f5, f6, f7, f8, hfs, hkept⟩ := kept_spec blank v l K p s w H h8 h23 _ rfl
   rcases h23 with rfl | rfl
   ·refine made_fit blank v p s w _ (fun b w' hka hb => ?_)
    obtain ⟨a, n, c, rfl, rfl, hc, hm⟩ := H.out
    refine mkFit_of blank s a l.length c 2 p b w' hka.1 hka.2 f0 f1 f2 f3 f4 f5 f6 f7 f8 (fits l.length (2, p, s)) _ ?_ (fun w'' hb' => hkept w'' (bel_trans hb hb'))
    cases hf : fits l.length (2, p, s) with
    | false => rfl
    | true =>
     obtain ⟨g8, g0, g1, g2, g3, g4, g5, g6, g7⟩ := hfs hf
     rw [g8, g0, g1, g2, g3, g4, g5, g6, g7]
     simp [deedV, made]
   ·refine made_take blank v p s w _ (fun b w' hka hb => ?_)
    obtain ⟨a, n, c, rfl, rfl, hc, hm⟩ := H.out
    refine mkTake_of blank s a l.length c 3 p b w' hka.1 hka.2 f0 f1 f2 f3 f4 f5 f6 f7 f8 (fits l.length (3, p, s)) _ ?_ (fun w'' hb' => hkept w'' (bel_trans hb hb'))
    cases hf : fits l.length (3, p, s) with
    | false => rfl
    | true =>
     obtain ⟨g8, g0, g1, g2, g3, g4, g5, g6, g7⟩ := hfs hf
     rw [g8, g0, g1, g2, g3, g4, g5, g6, g7]
     simp [deedV, made]
end Go.Proofs.YtccnkebkgegohaaGreatDoor
end
section
namespace Go.Proofs.YtccnkebkgegohaaGreatDoor
open Go.RowKit Go.Rel
theorem bel_set {w0 w : World} (h : Below w0.heap.size w0 w) {p : Addr} (hp : w0.heap.size ≤ p.block) (u : Value) : Below w0.heap.size w0 (w.setCell p u) := h.setCell hp u
/-- what is wrong with an action -/
def chkAc (blank : Sol) (l : List Sol) (a : Ac) : Int := if chkPat blank l = 0 then (if fits l.length a then 0 else 1) else chkPat blank l
theorem chkPat_zero {blank : Sol} {l : List Sol} (h : chkPat blank l = 0) : l.length ≤ 8 := by
 unfold chkPat at h
 split at h
 ·cases h
 ·omega
theorem not_nil (u : TypeId) (v : Value) (W : World) : (binOp .eql 122 (.iface u v) .nilIface).run Tryz.prog W = .ok (.bool false) W := by kernel_rfl
theorem is_nil (W : World) : (binOp .eql 122 .nilIface .nilIface).run Tryz.prog W = .ok (.bool true) W := by kernel_rfl
theorem deedV_iface (d : Deed) : ∃ t x, deedV d = .iface t x := by
 unfold deedV
 by_cases h1 : d.1 = 1
 ·rw [if_pos h1]; exact ⟨_, _, rfl⟩
 ·rw [if_neg h1]
  by_cases h2 : d.1 = 2
  ·rw [if_pos h2]; exact ⟨_, _, rfl⟩
  ·rw [if_neg h2]; exact ⟨_, _, rfl⟩
end Go.Proofs.YtccnkebkgegohaaGreatDoor
end
section
namespace Go.Proofs.YtccnkebkgegohaaGreatDoor
open Go.RowKit Go.Rel
set_option maxRecDepth 100000
set_option maxHeartbeats 1000000 in
theorem CheckAction_spec (blank : Sol) (v : Value) (l : List Sol) (a : Ac) (w : World) (H : SlS w v l) :
  Calls Tryz.prog 36 #[.agg #[.int .u64 (pl blank 0), .int .u64 (pl blank 1), .int .u64 (pl blank 2), .int .u64 (pl blank 3), .int .u64 (pl blank 4), .int .u64 (pl blank 5), .int .u64 (pl blank 6), .int .u64 (pl blank 7), v], .agg #[.int .u8 a.1, .int .i64 a.2.1, .int .u64 (pl a.2.2 0), .int .u64 (pl a.2.2 1), .int .u64 (pl a.2.2 2), .int .u64 (pl a.2.2 3), .int .u64 (pl a.2.2 4), .int .u64 (pl a.2.2 5), .int .u64 (pl a.2.2 6), .int .u64 (pl a.2.2 7)]] w fun e w' => e = .returned (.int .i64 (chkAc blank l a)) ∧ Below w.heap.size w w' := by
 have h34 := fun w' (hb : Below w.heap.size w w') => CheckPattern_spec blank v l w' (H.mono hb)
 have h99 := fun w' (hb : Below w.heap.size w w') (h8 : l.length ≤ 8) => made_spec blank v l a w' (H.mono hb) h8
 have hR : chkAc blank l a = if chkPat blank l = 0 then (if fits l.length a then 0 else 1) else chkPat blank l := rfl
 have hz := @chkPat_zero blank l
 generalize chkAc blank l a = R at hR ⊢
 generalize chkPat blank l = p at h34 hR hz
 by_cases hp : p = 0
 ·subst hp
  have h8 := hz rfl
  clear hz
  replace h99 := fun w' hb => h99 w' hb h8
  rw [if_pos rfl] at hR
  have H34 := Lib.hid h34; clear h34
  cases hf : fits l.length a with
  | true =>
   rw [hf] at hR h99
   obtain ⟨t, x, hd⟩ := deedV_iface (made l a)
   simp only [if_true, hd] at h99
   have H99 := Lib.hid h99; clear h99 hd hf h8
   have HR := Lib.hid hR; clear hR
   have hnn := not_nil t x
   go_enter Tryz.func36, Tryz.ntmps36
   go_wp2_with fail
   refine (H34.out _ bel_by).mono ?_
   rintro e w1 ⟨rfl, hb⟩
   have hc := (bcell hb).1
   go_wp2_with fail
   refine (H99.out _ bel_by).mono ?_
   rintro e w2 ⟨rfl, hb2⟩
   go_wp2_with fail
   go_ret
   exact ⟨ret_int (by rw [HR.out]; rfl), bel_by⟩
  | false =>
   rw [hf] at hR h99
   simp only [Bool.false_eq_true, if_false] at h99
   have H99 := Lib.hid h99; clear h99 hf h8
   have HR := Lib.hid hR; clear hR
   have hnn := is_nil
   go_enter Tryz.func36, Tryz.ntmps36
   go_wp2_with fail
   refine (H34.out _ bel_by).mono ?_
   rintro e w1 ⟨rfl, hb⟩
   have hc := (bcell hb).1
   go_wp2_with fail
   refine (H99.out _ bel_by).mono ?_
   rintro e w2 ⟨rfl, hb2⟩
   go_wp2_with fail
   go_ret
   exact ⟨ret_int (by rw [HR.out]; rfl), bel_by⟩
 ·rw [if_neg hp] at hR
  subst hR
  have H34 := Lib.hid h34; clear h34
  clear hz h99
  have hne : (R == 0) = false := by rw [beq_eq_false_iff_ne]; exact hp
  have hne' : (R != 0) = true := by simp [bne, hne]
  clear hp
  go_enter Tryz.func36, Tryz.ntmps36
  go_wp2_with fail
  refine (H34.out _ bel_by).mono ?_
  rintro e w1 ⟨rfl, hb⟩
  go_wp2_with fail
  go_ret
  exact ⟨rfl, bel_by⟩
end Go.Proofs.YtccnkebkgegohaaGreatDoor
end
section
namespace Go.Proofs.YtccnkebkgegohaaGreatDoor
open Go.RowKit Go.Rel
set_option maxRecDepth 100000
set_option maxHeartbeats 1000000 in
theorem refCheckAction_spec (blank : Sol) (v : Value) (l : List Sol) (a : Ac) (w : World) (H : SlS w v l) :
  Calls Tryz.prog 37 #[.agg #[.int .u64 (pl blank 0), .int .u64 (pl blank 1), .int .u64 (pl blank 2), .int .u64 (pl blank 3), .int .u64 (pl blank 4), .int .u64 (pl blank 5), .int .u64 (pl blank 6), .int .u64 (pl blank 7), v], .agg #[.int .u8 a.1, .int .i64 a.2.1, .int .u64 (pl a.2.2 0), .int .u64 (pl a.2.2 1), .int .u64 (pl a.2.2 2), .int .u64 (pl a.2.2 3), .int .u64 (pl a.2.2 4), .int .u64 (pl a.2.2 5), .int .u64 (pl a.2.2 6), .int .u64 (pl a.2.2 7)]] w fun e w' => e = .returned (.int .i64 (chkAc blank l a)) ∧ Below w.heap.size w w' := by
 have h35 := fun w' (hb : Below w.heap.size w w') => refCheckPattern_spec blank v l w' (H.mono hb)
 have h104 := fun w' => refFits_spec l.length a w'
 have hR : chkAc blank l a = if chkPat blank l = 0 then (if fits l.length a then 0 else 1) else chkPat blank l := rfl
 generalize chkAc blank l a = R at hR ⊢
 obtain ⟨s, n, c, rfl, hn, hc, hm⟩ := H.out
 rw [← hn] at h104 hR
 generalize chkPat blank l = p at h35 hR
 have H35 := Lib.hid h35; clear h35
 have HN := Lib.hid hn; clear hn H
 by_cases hp : p = 0
 ·subst hp
  rw [if_pos rfl] at hR
  generalize fits n a = f at h104 hR
  have H104 := Lib.hid h104; clear h104
  cases f with
  | true =>
   have HR := Lib.hid hR; clear hR
   go_enter Tryz.func37, Tryz.ntmps37
   go_wp2_with fail
   refine (H35.out _ bel_by).mono ?_
   rintro e w1 ⟨rfl, hb⟩
   have hc := (bcell hb).1
   go_wp2_with fail
   refine (H104.out _).mono ?_
   rintro e w2 ⟨rfl, hb2⟩
   go_wp2_with fail
   go_ret
   exact ⟨ret_int (by rw [HR.out]; rfl), bel_by⟩
  | false =>
   have HR := Lib.hid hR; clear hR
   go_enter Tryz.func37, Tryz.ntmps37
   go_wp2_with fail
   refine (H35.out _ bel_by).mono ?_
   rintro e w1 ⟨rfl, hb⟩
   have hc := (bcell hb).1
   go_wp2_with fail
   refine (H104.out _).mono ?_
   rintro e w2 ⟨rfl, hb2⟩
   go_wp2_with fail
   go_ret
   exact ⟨ret_int (by rw [HR.out]; rfl), bel_by⟩
 ·rw [if_neg hp] at hR
  subst hR
  have hne : (R == 0) = false := by rw [beq_eq_false_iff_ne]; exact hp
  have hne' : (R != 0) = true := by simp [bne, hne]
  clear hp h104
  go_enter Tryz.func37, Tryz.ntmps37
  go_wp2_with fail
  refine (H35.out _ bel_by).mono ?_
  rintro e w1 ⟨rfl, hb⟩
  go_wp2_with fail
  go_ret
  exact ⟨rfl, bel_by⟩
set_option maxHeartbeats 1000000 in
theorem Cells_err (blank : Sol) (v : Value) (a : Ac) (w : World) (R : Int) (hne : (R == 0) = false)
  (h : ∀ w', Below w.heap.size w w' → Calls Tryz.prog 36 #[.agg #[.int .u64 (pl blank 0), .int .u64 (pl blank 1), .int .u64 (pl blank 2), .int .u64 (pl blank 3), .int .u64 (pl blank 4), .int .u64 (pl blank 5), .int .u64 (pl blank 6), .int .u64 (pl blank 7), v], .agg #[.int .u8 a.1, .int .i64 a.2.1, .int .u64 (pl a.2.2 0), .int .u64 (pl a.2.2 1), .int .u64 (pl a.2.2 2), .int .u64 (pl a.2.2 3), .int .u64 (pl a.2.2 4), .int .u64 (pl a.2.2 5), .int .u64 (pl a.2.2 6), .int .u64 (pl a.2.2 7)]] w' fun e w'' => e = .returned (.int .i64 R) ∧ Below w'.heap.size w' w'') :
  Calls Tryz.prog 30 #[.agg #[.int .u64 (pl blank 0), .int .u64 (pl blank 1), .int .u64 (pl blank 2), .int .u64 (pl blank 3), .int .u64 (pl blank 4), .int .u64 (pl blank 5), .int .u64 (pl blank 6), .int .u64 (pl blank 7), v], .agg #[.int .u8 a.1, .int .i64 a.2.1, .int .u64 (pl a.2.2 0), .int .u64 (pl a.2.2 1), .int .u64 (pl a.2.2 2), .int .u64 (pl a.2.2 3), .int .u64 (pl a.2.2 4), .int .u64 (pl a.2.2 5), .int .u64 (pl a.2.2 6), .int .u64 (pl a.2.2 7)]] w fun e w' => e = .returned (.tuple #[.agg #[.int .u64 0, .int .u64 0, .int .u64 0, .int .u64 0, .int .u64 0, .int .u64 0, .int .u64 0, .int .u64 0], .int .i64 R]) ∧ Below w.heap.size w w' := by
 have H := Lib.hid h; clear h
 have hne' : (R != 0) = true := by simp [bne, hne]
 go_enter Tryz.func30, Tryz.ntmps30
 go_wp2_with fail
 refine (H.out _ bel_by).mono ?_
 rintro e w1 ⟨rfl, hb⟩
 have hc := (bcell hb).1
 have hf := (bcell hb).2
 go_wp2_with fail
 refine bodyPost_ret (by simp [results, Tryz.results30, go_sem, hc, hf]) rfl ⟨rfl, bel_by⟩
set_option maxHeartbeats 1000000 in
theorem Cells_ok (blank : Sol) (v : Value) (l : List Sol) (a : Ac) (w : World) (H : SlS w v l) (hz : chkAc blank l a = 0) :
  Calls Tryz.prog 30 #[.agg #[.int .u64 (pl blank 0), .int .u64 (pl blank 1), .int .u64 (pl blank 2), .int .u64 (pl blank 3), .int .u64 (pl blank 4), .int .u64 (pl blank 5), .int .u64 (pl blank 6), .int .u64 (pl blank 7), v], .agg #[.int .u8 a.1, .int .i64 a.2.1, .int .u64 (pl a.2.2 0), .int .u64 (pl a.2.2 1), .int .u64 (pl a.2.2 2), .int .u64 (pl a.2.2 3), .int .u64 (pl a.2.2 4), .int .u64 (pl a.2.2 5), .int .u64 (pl a.2.2 6), .int .u64 (pl a.2.2 7)]] w fun e w' => e = .returned (.tuple #[solV (acCells l a), .int .i64 0]) ∧ Below w.heap.size w w' := by
 have h8 : l.length ≤ 8 := by
  refine chkPat_zero (blank := blank) ?_
  unfold chkAc at hz; split at hz
  ·assumption
  ·assumption
 have hf : fits l.length a = true := by
  unfold chkAc at hz; split at hz
  ·split at hz
   ·assumption
   ·cases hz
  ·rename_i h; exact absurd hz h
 have h36 := fun w' (hb : Below w.heap.size w w') => CheckAction_spec blank v l a w' (H.mono hb)
 have h99 := fun w' (hb : Below w.heap.size w w') => made_spec blank v l a w' (H.mono hb) h8
 rw [hz] at h36
 rw [hf] at h99
 simp only [if_true] at h99
 obtain ⟨t, x, f, y, e1, m1, c1, k1⟩ := touches_of (made l a)
 rw [e1] at h99
 have e2 : (made l a).2.2 = acCells l a := rfl
 rw [e2] at k1
 generalize acCells l a = s at k1 ⊢
 have H36 := Lib.hid h36; clear h36
 have H99 := Lib.hid h99; clear h99
 clear e1 e2 hf hz h8 H
 go_enter Tryz.func30, Tryz.ntmps30
 go_wp2_with fail
 refine (H36.out _ bel_by).mono ?_
 rintro e w1 ⟨rfl, hb⟩
 have hc := (bcell hb).1
 have hf := (bcell hb).2
 have hs := hb.size
 go_wp2_with fail
 refine (H99.out _ bel_by).mono ?_
 rintro e w2 ⟨rfl, hb2⟩
 have hc2 := (bcell hb2).1
 have hf2 := (bcell hb2).2
 have hs2 := hb2.size
 go_wp2_with fail
 refine (k1.out _).mono ?_
 rintro e w3 ⟨rfl, hb3⟩
 have hc3 := (bcell hb3).1
 have hf3 := (bcell hb3).2
 simp only [World.size_alloc] at hs hs2
 have g1 : w.heap.size + 1 + 1 < w1.heap.size := by omega
 have g2 : w.heap.size + 1 + 1 < w2.heap.size := by omega
 clear hs hs2
 go_wp2_with fail
 refine bodyPost_ret (by simp [results, Tryz.results30, go_sem, hc, hf, hc2, hf2, hc3, hf3, g1, g2]) rfl ⟨rfl, bel_by⟩
end Go.Proofs.YtccnkebkgegohaaGreatDoor
end
section
namespace Go.Proofs.YtccnkebkgegohaaGreatDoor
open Go.RowKit Go.Rel
set_option maxRecDepth 100000
theorem chkAc_ok {blank : Sol} {l : List Sol} {a : Ac} (hz : chkAc blank l a = 0) : l.length ≤ 8 ∧ fits l.length a = true := by
 constructor
 ·refine chkPat_zero (blank := blank) ?_
  unfold chkAc at hz; split at hz
  ·assumption
  ·assumption
 ·unfold chkAc at hz; split at hz
  ·split at hz
   ·assumption
   ·cases hz
  ·rename_i h; exact absurd hz h
set_option maxHeartbeats 1000000 in
theorem refCellsF_err (blank : Sol) (v : Value) (a : Ac) (w : World) (R : Int) (hne : (R == 0) = false)
  (h : ∀ w', Below w.heap.size w w' → Calls Tryz.prog 37 #[.agg #[.int .u64 (pl blank 0), .int .u64 (pl blank 1), .int .u64 (pl blank 2), .int .u64 (pl blank 3), .int .u64 (pl blank 4), .int .u64 (pl blank 5), .int .u64 (pl blank 6), .int .u64 (pl blank 7), v], .agg #[.int .u8 a.1, .int .i64 a.2.1, .int .u64 (pl a.2.2 0), .int .u64 (pl a.2.2 1), .int .u64 (pl a.2.2 2), .int .u64 (pl a.2.2 3), .int .u64 (pl a.2.2 4), .int .u64 (pl a.2.2 5), .int .u64 (pl a.2.2 6), .int .u64 (pl a.2.2 7)]] w' fun e w'' => e = .returned (.int .i64 R) ∧ Below w'.heap.size w' w'') :
  Calls Tryz.prog 31 #[.agg #[.int .u64 (pl blank 0), .int .u64 (pl blank 1), .int .u64 (pl blank 2), .int .u64 (pl blank 3), .int .u64 (pl blank 4), .int .u64 (pl blank 5), .int .u64 (pl blank 6), .int .u64 (pl blank 7), v], .agg #[.int .u8 a.1, .int .i64 a.2.1, .int .u64 (pl a.2.2 0), .int .u64 (pl a.2.2 1), .int .u64 (pl a.2.2 2), .int .u64 (pl a.2.2 3), .int .u64 (pl a.2.2 4), .int .u64 (pl a.2.2 5), .int .u64 (pl a.2.2 6), .int .u64 (pl a.2.2 7)]] w fun e w' => e = .returned (.tuple #[.agg #[.int .u64 0, .int .u64 0, .int .u64 0, .int .u64 0, .int .u64 0, .int .u64 0, .int .u64 0, .int .u64 0], .int .i64 R]) ∧ Below w.heap.size w w' := by
 have H := Lib.hid h; clear h
 have hne' : (R != 0) = true := by simp [bne, hne]
 go_enter Tryz.func31, Tryz.ntmps31
 go_wp2_with fail
 refine (H.out _ bel_by).mono ?_
 rintro e w1 ⟨rfl, hb⟩
 have hc := (bcell hb).1
 have hf := (bcell hb).2
 go_wp2_with fail
 refine bodyPost_ret (by simp [results, Tryz.results31, go_sem, hc, hf]) rfl ⟨rfl, bel_by⟩
set_option maxHeartbeats 1000000 in
theorem refCellsF_ok (blank : Sol) (v : Value) (l : List Sol) (a : Ac) (w : World) (H : SlS w v l) (hz : chkAc blank l a = 0) :
  Calls Tryz.prog 31 #[.agg #[.int .u64 (pl blank 0), .int .u64 (pl blank 1), .int .u64 (pl blank 2), .int .u64 (pl blank 3), .int .u64 (pl blank 4), .int .u64 (pl blank 5), .int .u64 (pl blank 6), .int .u64 (pl blank 7), v], .agg #[.int .u8 a.1, .int .i64 a.2.1, .int .u64 (pl a.2.2 0), .int .u64 (pl a.2.2 1), .int .u64 (pl a.2.2 2), .int .u64 (pl a.2.2 3), .int .u64 (pl a.2.2 4), .int .u64 (pl a.2.2 5), .int .u64 (pl a.2.2 6), .int .u64 (pl a.2.2 7)]] w fun e w' => e = .returned (.tuple #[solV (acCells l a), .int .i64 0]) ∧ Below w.heap.size w w' := by
 obtain ⟨h8, hf⟩ := chkAc_ok hz
 have h37 := fun w' (hb : Below w.heap.size w w') => refCheckAction_spec blank v l a w' (H.mono hb)
 have h100 := fun w' (hb : Below w.heap.size w w') => refCells_spec blank v l a w' (H.mono hb) hf
 rw [hz] at h37
 generalize acCells l a = s at h100 ⊢
 have H37 := Lib.hid h37; clear h37
 have H100 := Lib.hid h100; clear h100
 clear hf hz h8 H
 go_enter Tryz.func31, Tryz.ntmps31
 go_wp2_with fail
 refine (H37.out _ bel_by).mono ?_
 rintro e w1 ⟨rfl, hb⟩
 have hc := (bcell hb).1
 have hf := (bcell hb).2
 have hs := hb.size
 go_wp2_with fail
 refine (H100.out _ bel_by).mono ?_
 rintro e w2 ⟨rfl, hb2⟩
 have hc2 := (bcell hb2).1
 have hf2 := (bcell hb2).2
 simp only [World.size_alloc] at hs
 have g1 : w.heap.size + 1 + 1 < w1.heap.size := by omega
 clear hs
 go_wp2_with fail
 refine bodyPost_ret (by simp [results, Tryz.results31, go_sem, hc, hf, hc2, hf2, g1]) rfl ⟨rfl, bel_by⟩
/-- whether two actions are independent -/
def apartB (l : List Sol) (a b : Ac) : Bool := !meetsB (acCells l a) (acCells l b)
set_option maxHeartbeats 1000000 in
theorem refApart_spec (blank : Sol) (v : Value) (l : List Sol) (a b : Ac) (w : World) (H : SlS w v l) (ha : fits l.length a = true) (hb : fits l.length b = true) :
  Calls Tryz.prog 102 #[.agg #[.int .u64 (pl blank 0), .int .u64 (pl blank 1), .int .u64 (pl blank 2), .int .u64 (pl blank 3), .int .u64 (pl blank 4), .int .u64 (pl blank 5), .int .u64 (pl blank 6), .int .u64 (pl blank 7), v], .agg #[.int .u8 a.1, .int .i64 a.2.1, .int .u64 (pl a.2.2 0), .int .u64 (pl a.2.2 1), .int .u64 (pl a.2.2 2), .int .u64 (pl a.2.2 3), .int .u64 (pl a.2.2 4), .int .u64 (pl a.2.2 5), .int .u64 (pl a.2.2 6), .int .u64 (pl a.2.2 7)], .agg #[.int .u8 b.1, .int .i64 b.2.1, .int .u64 (pl b.2.2 0), .int .u64 (pl b.2.2 1), .int .u64 (pl b.2.2 2), .int .u64 (pl b.2.2 3), .int .u64 (pl b.2.2 4), .int .u64 (pl b.2.2 5), .int .u64 (pl b.2.2 6), .int .u64 (pl b.2.2 7)]] w fun e w' => e = .returned (.bool (apartB l a b)) ∧ Below w.heap.size w w' := by
 have h1 := fun w' (hw : Below w.heap.size w w') => refCells_spec blank v l a w' (H.mono hw) ha
 have h2 := fun w' (hw : Below w.heap.size w w') => refCells_spec blank v l b w' (H.mono hw) hb
 unfold apartB
 have h3 := refMeet_spec (acCells l a) (acCells l b)
 generalize acCells l a = s at h1 h3 ⊢
 generalize acCells l b = t at h2 h3 ⊢
 have H1 := Lib.hid h1; clear h1
 have H2 := Lib.hid h2; clear h2
 have H3 := Lib.hid h3; clear h3
 clear ha hb H
 go_enter Tryz.func102, Tryz.ntmps102
 go_wp2_with fail
 refine wp_region_grow 9 [Is (.agg #[.int .u64 (pl blank 0), .int .u64 (pl blank 1), .int .u64 (pl blank 2), .int .u64 (pl blank 3), .int .u64 (pl blank 4), .int .u64 (pl blank 5), .int .u64 (pl blank 6), .int .u64 (pl blank 7), v]), Is (.agg #[.int .u8 a.1, .int .i64 a.2.1, .int .u64 (pl a.2.2 0), .int .u64 (pl a.2.2 1), .int .u64 (pl a.2.2 2), .int .u64 (pl a.2.2 3), .int .u64 (pl a.2.2 4), .int .u64 (pl a.2.2 5), .int .u64 (pl a.2.2 6), .int .u64 (pl a.2.2 7)]), Is (solV s), Is (.agg #[.int .u64 (pl blank 0), .int .u64 (pl blank 1), .int .u64 (pl blank 2), .int .u64 (pl blank 3), .int .u64 (pl blank 4), .int .u64 (pl blank 5), .int .u64 (pl blank 6), .int .u64 (pl blank 7), v]), Is (.agg #[.int .u8 b.1, .int .i64 b.2.1, .int .u64 (pl b.2.2 0), .int .u64 (pl b.2.2 1), .int .u64 (pl b.2.2 2), .int .u64 (pl b.2.2 3), .int .u64 (pl b.2.2 4), .int .u64 (pl b.2.2 5), .int .u64 (pl b.2.2 6), .int .u64 (pl b.2.2 7)]), Is (solV t), Is (.bool (meetsB s t)), Is (.bool (!meetsB s t)), Is (.bool (!meetsB s t))] (by kernel_rfl) (by kernel_rfl) rfl ⟨fun _ _ _ h _ => h, fun _ _ _ h _ => h, fun _ _ _ h _ => h, fun _ _ _ h _ => h, fun _ _ _ h _ => h, fun _ _ _ h _ => h, fun _ _ _ h _ => h, fun _ _ _ h _ => h, fun _ _ _ h _ => h, trivial⟩ ?_
 simp only [List.take_succ_cons, List.take_zero, List.drop_succ_cons, List.drop_zero]
 iterate 2 (refine rel_cons ?_ (fun _ => ?_); · intro w1 hb hF; have hc := (Grows.cells hb).1; have hf := (Grows.cells hb).2; (try simp [facts, Is] at hF); go_simp; exact Grows.refl _)
 refine rel_cons ?_ (fun v2 => ?_)
 ·intro w1 hb hF; have hc := (Grows.cells hb).1; have hf := (Grows.cells hb).2; try simp [facts, Is] at hF
  go_simp
  refine (H1.out _ (bel_trans bel_by hb)).mono ?_
  rintro e w2 ⟨rfl, h2⟩
  exact ⟨rfl, h2⟩
 iterate 2 (refine rel_cons ?_ (fun _ => ?_); · intro w1 hb hF; have hc := (Grows.cells hb).1; have hf := (Grows.cells hb).2; (try simp [facts, Is] at hF); go_simp; exact Grows.refl _)
 refine rel_cons ?_ (fun v5 => ?_)
 ·intro w1 hb hF; have hc := (Grows.cells hb).1; have hf := (Grows.cells hb).2; try simp [facts, Is] at hF
  go_simp
  refine (H2.out _ (bel_trans bel_by hb)).mono ?_
  rintro e w2 ⟨rfl, h2⟩
  exact ⟨rfl, h2⟩
 refine rel_cons ?_ (fun v6 => ?_)
 ·intro w1 hb hF; have hc := (Grows.cells hb).1; have hf := (Grows.cells hb).2; try simp [facts, Is] at hF
  go_simp
  refine (H3.out _).mono ?_
  rintro e w2 ⟨rfl, h2⟩
  exact ⟨rfl, h2⟩
 iterate 2 (refine rel_cons ?_ (fun _ => ?_); · intro w1 hb hF; have hc := (Grows.cells hb).1; have hf := (Grows.cells hb).2; (try simp [facts, Is] at hF); go_simp; exact Grows.refl _)
 refine rel_nil ?_
 intro w1 hb hF
 simp [Is, Nat.forall_lt_succ_right] at hF
 simp only [Act.put, List.setIfInBounds_toArray, List.set_cons_succ, List.set_cons_zero, hF]
 clear hF
 refine wpList_nil ?_
 go_wp2_with fail
 go_ret
 exact ⟨rfl, bel_trans bel_by hb⟩
end Go.Proofs.YtccnkebkgegohaaGreatDoor
end
