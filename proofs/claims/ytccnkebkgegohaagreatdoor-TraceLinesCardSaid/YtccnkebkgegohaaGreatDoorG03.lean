import Derived.Test.YtccnkebkgegohaaGreatDoorG02
/-
  Given contracts of functions of the program, and laws for them, one behind the other.
-/
set_option linter.unusedVariables false
set_option linter.unusedSimpArgs false
set_option linter.unusedSectionVars false
section
namespace Go.Proofs.YtccnkebkgegohaaGreatDoor
open Go.RowKit Go.Rel
set_option maxRecDepth 100000
set_option maxHeartbeats 1000000 in
theorem mkCut_yes (blank : Sol) (a : Option Addr) (n c : Nat) (K : Nat) (s : Sol) (w : World) (hs : (s == 0#512) = false) :
  Calls Tryz.prog 186 #[.agg #[.int .u64 (pl blank 0), .int .u64 (pl blank 1), .int .u64 (pl blank 2), .int .u64 (pl blank 3), .int .u64 (pl blank 4), .int .u64 (pl blank 5), .int .u64 (pl blank 6), .int .u64 (pl blank 7), .slice a n c], .agg #[.int .u8 K, .int .i64 0, .int .u64 (pl s 0), .int .u64 (pl s 1), .int .u64 (pl s 2), .int .u64 (pl s 3), .int .u64 (pl s 4), .int .u64 (pl s 5), .int .u64 (pl s 6), .int .u64 (pl s 7)]] w fun e w' =>
   e = .returned (.iface 212 (.agg #[.int .u64 (pl s 0), .int .u64 (pl s 1), .int .u64 (pl s 2), .int .u64 (pl s 3), .int .u64 (pl s 4), .int .u64 (pl s 5), .int .u64 (pl s 6), .int .u64 (pl s 7)])) ∧ Below w.heap.size w w' := by
 go_enter Tryz.func186, Tryz.ntmps186
 go_wp2
 go_ret
 exact ⟨rfl, bel_by⟩
set_option maxHeartbeats 1000000 in
theorem mkCut_no (blank : Sol) (a : Option Addr) (n c : Nat) (K : Nat) (p : Int) (s : Sol) (w : World) (hs : (p == 0) = false ∨ (s == 0#512) = true) :
  Calls Tryz.prog 186 #[.agg #[.int .u64 (pl blank 0), .int .u64 (pl blank 1), .int .u64 (pl blank 2), .int .u64 (pl blank 3), .int .u64 (pl blank 4), .int .u64 (pl blank 5), .int .u64 (pl blank 6), .int .u64 (pl blank 7), .slice a n c], .agg #[.int .u8 K, .int .i64 p, .int .u64 (pl s 0), .int .u64 (pl s 1), .int .u64 (pl s 2), .int .u64 (pl s 3), .int .u64 (pl s 4), .int .u64 (pl s 5), .int .u64 (pl s 6), .int .u64 (pl s 7)]] w fun e w' =>
   e = .returned .nilIface ∧ Below w.heap.size w w' := by
 cases hp : (p == 0) with
 | false =>
  clear hs
  have hp' : (p != 0) = true := by simp [bne, hp]
  go_enter Tryz.func186, Tryz.ntmps186
  go_wp2
  go_ret
  exact ⟨rfl, bel_by⟩
 | true =>
  have hs' : (s == 0#512) = true := by rcases hs with h | h; rw [hp] at h; cases h; exact h
  clear hs
  have hp' : (p != 0) = false := by simp [bne, hp]
  go_enter Tryz.func186, Tryz.ntmps186
  go_wp2
  go_ret
  exact ⟨rfl, bel_by⟩
set_option maxHeartbeats 1000000 in
theorem mkFit_of (blank s : Sol) (a : Option Addr) (n c : Nat) (K : Nat) (p : Int) (bk : Nat) (w : World) (hbk : bk < w.heap.size)
  (h0 : w.cell? ⟨bk, 0, none⟩ = some (.func (.func 185) #[] #[])) (f0 f1 f2 f3 f4 f5 f6 f7 f8 : Int) (r : Bool) (R : Value) (hR : R = if r then .iface 217 (.agg #[.int .u8 f8, .int .u64 f0, .int .u64 f1, .int .u64 f2, .int .u64 f3, .int .u64 f4, .int .u64 f5, .int .u64 f6, .int .u64 f7]) else .nilIface)
  (hk : ∀ w', Below w.heap.size w w' → Calls Tryz.prog 185 #[.agg #[.int .u64 (pl blank 0), .int .u64 (pl blank 1), .int .u64 (pl blank 2), .int .u64 (pl blank 3), .int .u64 (pl blank 4), .int .u64 (pl blank 5), .int .u64 (pl blank 6), .int .u64 (pl blank 7), .slice a n c], .agg #[.int .u8 K, .int .i64 p, .int .u64 (pl s 0), .int .u64 (pl s 1), .int .u64 (pl s 2), .int .u64 (pl s 3), .int .u64 (pl s 4), .int .u64 (pl s 5), .int .u64 (pl s 6), .int .u64 (pl s 7)]] w' fun e w'' => e = .returned (.tuple #[.agg #[.int .u8 f8, .int .u64 f0, .int .u64 f1, .int .u64 f2, .int .u64 f3, .int .u64 f4, .int .u64 f5, .int .u64 f6, .int .u64 f7], .bool r]) ∧ Below w'.heap.size w' w'') :
  Calls Tryz.prog 187 #[.agg #[.int .u64 (pl blank 0), .int .u64 (pl blank 1), .int .u64 (pl blank 2), .int .u64 (pl blank 3), .int .u64 (pl blank 4), .int .u64 (pl blank 5), .int .u64 (pl blank 6), .int .u64 (pl blank 7), .slice a n c], .agg #[.int .u8 K, .int .i64 p, .int .u64 (pl s 0), .int .u64 (pl s 1), .int .u64 (pl s 2), .int .u64 (pl s 3), .int .u64 (pl s 4), .int .u64 (pl s 5), .int .u64 (pl s 6), .int .u64 (pl s 7)], .pointer (some ⟨bk, 0, none⟩)] w fun e w' =>
   e = .returned R ∧ Below w.heap.size w w' := by
 have HK := Lib.hid hk; clear hk
 have hb1 : bk < w.heap.size + 1 := by omega
 cases r with
 | true =>
  have HR := Lib.hid hR; clear hR
  go_enter Tryz.func187, Tryz.ntmps187
  go_wp2_with fail
  refine (HK.out _ bel_by).mono ?_
  rintro e w1 ⟨rfl, hb⟩
  go_wp2_with fail
  go_ret
  refine ⟨?_, bel_by⟩
  rw [HR.out]; rfl
 | false =>
  have HR := Lib.hid hR; clear hR
  go_enter Tryz.func187, Tryz.ntmps187
  go_wp2_with fail
  refine (HK.out _ bel_by).mono ?_
  rintro e w1 ⟨rfl, hb⟩
  go_wp2_with fail
  go_ret
  refine ⟨?_, bel_by⟩
  rw [HR.out]; rfl
set_option maxHeartbeats 1000000 in
theorem mkTake_of (blank s : Sol) (a : Option Addr) (n c : Nat) (K : Nat) (p : Int) (bk : Nat) (w : World) (hbk : bk < w.heap.size)
  (h0 : w.cell? ⟨bk, 0, none⟩ = some (.func (.func 185) #[] #[])) (f0 f1 f2 f3 f4 f5 f6 f7 f8 : Int) (r : Bool) (R : Value) (hR : R = if r then .iface 218 (.agg #[.int .u8 f8, .int .u64 f0, .int .u64 f1, .int .u64 f2, .int .u64 f3, .int .u64 f4, .int .u64 f5, .int .u64 f6, .int .u64 f7]) else .nilIface)
  (hk : ∀ w', Below w.heap.size w w' → Calls Tryz.prog 185 #[.agg #[.int .u64 (pl blank 0), .int .u64 (pl blank 1), .int .u64 (pl blank 2), .int .u64 (pl blank 3), .int .u64 (pl blank 4), .int .u64 (pl blank 5), .int .u64 (pl blank 6), .int .u64 (pl blank 7), .slice a n c], .agg #[.int .u8 K, .int .i64 p, .int .u64 (pl s 0), .int .u64 (pl s 1), .int .u64 (pl s 2), .int .u64 (pl s 3), .int .u64 (pl s 4), .int .u64 (pl s 5), .int .u64 (pl s 6), .int .u64 (pl s 7)]] w' fun e w'' => e = .returned (.tuple #[.agg #[.int .u8 f8, .int .u64 f0, .int .u64 f1, .int .u64 f2, .int .u64 f3, .int .u64 f4, .int .u64 f5, .int .u64 f6, .int .u64 f7], .bool r]) ∧ Below w'.heap.size w' w'') :
  Calls Tryz.prog 188 #[.agg #[.int .u64 (pl blank 0), .int .u64 (pl blank 1), .int .u64 (pl blank 2), .int .u64 (pl blank 3), .int .u64 (pl blank 4), .int .u64 (pl blank 5), .int .u64 (pl blank 6), .int .u64 (pl blank 7), .slice a n c], .agg #[.int .u8 K, .int .i64 p, .int .u64 (pl s 0), .int .u64 (pl s 1), .int .u64 (pl s 2), .int .u64 (pl s 3), .int .u64 (pl s 4), .int .u64 (pl s 5), .int .u64 (pl s 6), .int .u64 (pl s 7)], .pointer (some ⟨bk, 0, none⟩)] w fun e w' =>
   e = .returned R ∧ Below w.heap.size w w' := by
 have HK := Lib.hid hk; clear hk
 have hb1 : bk < w.heap.size + 1 := by omega
 cases r with
 | true =>
  have HR := Lib.hid hR; clear hR
  go_enter Tryz.func188, Tryz.ntmps188
  go_wp2_with fail
  refine (HK.out _ bel_by).mono ?_
  rintro e w1 ⟨rfl, hb⟩
  go_wp2_with fail
  go_ret
  refine ⟨?_, bel_by⟩
  rw [HR.out]; rfl
 | false =>
  have HR := Lib.hid hR; clear hR
  go_enter Tryz.func188, Tryz.ntmps188
  go_wp2_with fail
  refine (HK.out _ bel_by).mono ?_
  rintro e w1 ⟨rfl, hb⟩
  go_wp2_with fail
  go_ret
  refine ⟨?_, bel_by⟩
  rw [HR.out]; rfl

/-- the table of makers -/
def mkV (b : Nat) : Value := .agg #[.nilFunc, .func (.func 186) #[] #[], .func (.func 187) #[] #[.pointer (some ⟨b, 0, none⟩)], .func (.func 188) #[] #[.pointer (some ⟨b, 0, none⟩)]]
def KeptAt (b : Nat) (w : World) : Prop := b < w.heap.size ∧ w.cell? ⟨b, 0, none⟩ = some (.func (.func 185) #[] #[])
theorem KeptAt.grow {b : Nat} {w w' : World} (h : KeptAt b w) (hb : Grows w w') : KeptAt b w' := ⟨Nat.lt_of_lt_of_le h.1 (Below.size hb), (Below.cell (p := ⟨b, 0, none⟩) hb h.1).trans h.2⟩
set_option maxHeartbeats 1000000 in
theorem makers_spec (w : World) : Calls Tryz.prog 150 #[] w fun e w' => (∃ b, e = .returned (mkV b) ∧ KeptAt b w') ∧ Below w.heap.size w w' := by
 have hmf := hmf
 go_enter Tryz.func150, Tryz.ntmps150
 go_wp2
 refine bodyPost_ret (v := mkV (w.heap.size + 1)) (by simp [results, Tryz.results150, go_sem, mkV]) rfl ⟨⟨w.heap.size + 1, rfl, ?_, ?_⟩, bel_by⟩
 ·simp
 ·simp [go_sem]
end Go.Proofs.YtccnkebkgegohaaGreatDoor
end
section
namespace Go.Proofs.YtccnkebkgegohaaGreatDoor
open Go.RowKit Go.Rel
set_option maxRecDepth 100000
def MkAt (v : Value) (w : World) : Prop := ∃ b, v = mkV b ∧ KeptAt b w
theorem MkAt.grow (v : Value) (w w' : World) (h : MkAt v w) (hb : Grows w w') : MkAt v w' := let ⟨b, h1, h2⟩ := h; ⟨b, h1, h2.grow hb⟩
def FnAt (f : Nat) (v : Value) (w : World) : Prop := ∃ b, v = .func (.func f) #[] #[.pointer (some ⟨b, 0, none⟩)] ∧ KeptAt b w
theorem FnAt.grow (f : Nat) (v : Value) (w w' : World) (h : FnAt f v w) (hb : Grows w w') : FnAt f v w' := let ⟨b, h1, h2⟩ := h; ⟨b, h1, h2.grow hb⟩
theorem idx1 (b : Nat) (w : World) : (Instr.index 180 (mkV b) (.int .u8 1)).run Tryz.prog w = .ok (.func (.func 186) #[] #[]) w := by kernel_rfl
theorem idx2 (b : Nat) (w : World) : (Instr.index 180 (mkV b) (.int .u8 2)).run Tryz.prog w = .ok (.func (.func 187) #[] #[.pointer (some ⟨b, 0, none⟩)]) w := by kernel_rfl
theorem idx3 (b : Nat) (w : World) : (Instr.index 180 (mkV b) (.int .u8 3)).run Tryz.prog w = .ok (.func (.func 188) #[] #[.pointer (some ⟨b, 0, none⟩)]) w := by kernel_rfl
set_option maxHeartbeats 1000000 in
theorem made_other (blank : Sol) (v : Value) (a : Ac) (w : World) (h : a.1 < 1 ∨ 3 < a.1) :
  Calls Tryz.prog 99 #[.agg #[.int .u64 (pl blank 0), .int .u64 (pl blank 1), .int .u64 (pl blank 2), .int .u64 (pl blank 3), .int .u64 (pl blank 4), .int .u64 (pl blank 5), .int .u64 (pl blank 6), .int .u64 (pl blank 7), v], .agg #[.int .u8 a.1, .int .i64 a.2.1, .int .u64 (pl a.2.2 0), .int .u64 (pl a.2.2 1), .int .u64 (pl a.2.2 2), .int .u64 (pl a.2.2 3), .int .u64 (pl a.2.2 4), .int .u64 (pl a.2.2 5), .int .u64 (pl a.2.2 6), .int .u64 (pl a.2.2 7)]] w fun e w' => e = .returned .nilIface ∧ Below w.heap.size w w' := by
 by_cases h1 : a.1 < 1
 ·clear h
  go_enter Tryz.func99, Tryz.ntmps99
  go_wp2_with fail
  go_ret
  exact ⟨rfl, bel_by⟩
 ·have h3 : 3 < a.1 := by omega
  clear h
  go_enter Tryz.func99, Tryz.ntmps99
  go_wp2_with fail
  go_ret
  exact ⟨rfl, bel_by⟩
set_option maxHeartbeats 1000000 in
theorem made_cut (blank : Sol) (v : Value) (p : Int) (s : Sol) (w : World) (R : Value)
  (hk : ∀ w', Below w.heap.size w w' → Calls Tryz.prog 186 #[.agg #[.int .u64 (pl blank 0), .int .u64 (pl blank 1), .int .u64 (pl blank 2), .int .u64 (pl blank 3), .int .u64 (pl blank 4), .int .u64 (pl blank 5), .int .u64 (pl blank 6), .int .u64 (pl blank 7), v], .agg #[.int .u8 1, .int .i64 p, .int .u64 (pl s 0), .int .u64 (pl s 1), .int .u64 (pl s 2), .int .u64 (pl s 3), .int .u64 (pl s 4), .int .u64 (pl s 5), .int .u64 (pl s 6), .int .u64 (pl s 7)]] w' fun e w'' => e = .returned R ∧ Below w'.heap.size w' w'') :
  Calls Tryz.prog 99 #[.agg #[.int .u64 (pl blank 0), .int .u64 (pl blank 1), .int .u64 (pl blank 2), .int .u64 (pl blank 3), .int .u64 (pl blank 4), .int .u64 (pl blank 5), .int .u64 (pl blank 6), .int .u64 (pl blank 7), v], .agg #[.int .u8 1, .int .i64 p, .int .u64 (pl s 0), .int .u64 (pl s 1), .int .u64 (pl s 2), .int .u64 (pl s 3), .int .u64 (pl s 4), .int .u64 (pl s 5), .int .u64 (pl s 6), .int .u64 (pl s 7)]] w fun e w' => e = .returned R ∧ Below w.heap.size w w' := by
 have HK := Lib.hid hk; clear hk
 go_enter Tryz.func99, Tryz.ntmps99
 go_wp2_with fail
 refine wp_region_grow 8 [MkAt, Is (.pointer (some ⟨w.heap.size + 1, 0, none⟩)), Is (.int .u8 1), Is (.func (.func 186) #[] #[]), Is (.agg #[.int .u64 (pl blank 0), .int .u64 (pl blank 1), .int .u64 (pl blank 2), .int .u64 (pl blank 3), .int .u64 (pl blank 4), .int .u64 (pl blank 5), .int .u64 (pl blank 6), .int .u64 (pl blank 7), v]), Is (.agg #[.int .u8 1, .int .i64 p, .int .u64 (pl s 0), .int .u64 (pl s 1), .int .u64 (pl s 2), .int .u64 (pl s 3), .int .u64 (pl s 4), .int .u64 (pl s 5), .int .u64 (pl s 6), .int .u64 (pl s 7)]), Is R, Is R] (by kernel_rfl) (by kernel_rfl) rfl ⟨MkAt.grow, fun _ _ _ h _ => h, fun _ _ _ h _ => h, fun _ _ _ h _ => h, fun _ _ _ h _ => h, fun _ _ _ h _ => h, fun _ _ _ h _ => h, fun _ _ _ h _ => h, trivial⟩ ?_
 simp only [List.take_succ_cons, List.take_zero, List.drop_succ_cons, List.drop_zero]
 refine rel_cons ?_ (fun v0 => ?_)
 ·intro w1 hb hF; have hc := (Grows.cells hb).1; have hf := (Grows.cells hb).2; try simp [facts, Is] at hF
  go_simp
  refine (makers_spec w1).mono ?_
  rintro e w2 ⟨⟨b, rfl, hk⟩, h2⟩
  exact ⟨_, rfl, h2, b, rfl, hk⟩
 iterate 2 (refine rel_cons ?_ (fun _ => ?_); · intro w1 hb hF; have hc := (Grows.cells hb).1; have hf := (Grows.cells hb).2; (try simp [facts, Is] at hF); go_simp; exact Grows.refl _)
 refine rel_cons ?_ (fun v3 => ?_)
 ·intro w1 hb hF; have hc := (Grows.cells hb).1; have hf := (Grows.cells hb).2; try simp [facts, Is] at hF
  refine Exists.elim hF.1 (fun b h0 => ?_)
  have e0 := h0.1
  have e1 := hF.2
  clear hF h0
  have hi := idx1 b w1
  go_simp
  exact Grows.refl _
 iterate 2 (refine rel_cons ?_ (fun _ => ?_); · intro w1 hb hF; have hc := (Grows.cells hb).1; have hf := (Grows.cells hb).2; (try simp [facts, Is] at hF); go_simp; exact Grows.refl _)
 refine rel_cons ?_ (fun v6 => ?_)
 ·intro w1 hb hF; have hc := (Grows.cells hb).1; have hf := (Grows.cells hb).2; try simp [facts, Is] at hF
  go_simp
  refine (HK.out _ (bel_trans bel_by hb)).mono ?_
  rintro e w2 ⟨rfl, h2⟩
  exact ⟨rfl, h2⟩
 refine rel_cons ?_ (fun v7 => ?_)
 ·intro w1 hb hF; have hc := (Grows.cells hb).1; have hf := (Grows.cells hb).2; try simp [facts, Is] at hF
  go_simp
  exact Grows.refl _
 refine rel_nil ?_
 intro w1 hb hF
 simp [Is, Nat.forall_lt_succ_right] at hF
 have e0 := hF.1.1.1.1.1.1.1
 have e1 := hF.1.1.1.1.1.1.2
 have e2 := hF.1.1.1.1.1.2
 have e3 := hF.1.1.1.1.2
 have e4 := hF.1.1.1.2
 have e5 := hF.1.1.2
 have e6 := hF.1.2
 have e7 := hF.2
 clear hF
 simp only [Act.put, List.setIfInBounds_toArray, List.set_cons_succ, List.set_cons_zero, e1, e2, e3, e4, e5, e6, e7]
 clear e1 e2 e3 e4 e5 e6 e7
 clear e0
 refine wpList_nil ?_
 go_wp2_with fail
 go_ret
 exact ⟨rfl, bel_trans bel_by hb⟩
set_option maxHeartbeats 1000000 in
theorem made_fit (blank : Sol) (v : Value) (p : Int) (s : Sol) (w : World) (R : Value)
  (hk : ∀ b w', KeptAt b w' → Below w.heap.size w w' → Calls Tryz.prog 187 #[.agg #[.int .u64 (pl blank 0), .int .u64 (pl blank 1), .int .u64 (pl blank 2), .int .u64 (pl blank 3), .int .u64 (pl blank 4), .int .u64 (pl blank 5), .int .u64 (pl blank 6), .int .u64 (pl blank 7), v], .agg #[.int .u8 2, .int .i64 p, .int .u64 (pl s 0), .int .u64 (pl s 1), .int .u64 (pl s 2), .int .u64 (pl s 3), .int .u64 (pl s 4), .int .u64 (pl s 5), .int .u64 (pl s 6), .int .u64 (pl s 7)], .pointer (some ⟨b, 0, none⟩)] w' fun e w'' => e = .returned R ∧ Below w'.heap.size w' w'') :
  Calls Tryz.prog 99 #[.agg #[.int .u64 (pl blank 0), .int .u64 (pl blank 1), .int .u64 (pl blank 2), .int .u64 (pl blank 3), .int .u64 (pl blank 4), .int .u64 (pl blank 5), .int .u64 (pl blank 6), .int .u64 (pl blank 7), v], .agg #[.int .u8 2, .int .i64 p, .int .u64 (pl s 0), .int .u64 (pl s 1), .int .u64 (pl s 2), .int .u64 (pl s 3), .int .u64 (pl s 4), .int .u64 (pl s 5), .int .u64 (pl s 6), .int .u64 (pl s 7)]] w fun e w' => e = .returned R ∧ Below w.heap.size w w' := by
 have HK := Lib.hid hk; clear hk
 go_enter Tryz.func99, Tryz.ntmps99
 go_wp2_with fail
 refine wp_region_grow 8 [MkAt, Is (.pointer (some ⟨w.heap.size + 1, 0, none⟩)), Is (.int .u8 2), FnAt 187, Is (.agg #[.int .u64 (pl blank 0), .int .u64 (pl blank 1), .int .u64 (pl blank 2), .int .u64 (pl blank 3), .int .u64 (pl blank 4), .int .u64 (pl blank 5), .int .u64 (pl blank 6), .int .u64 (pl blank 7), v]), Is (.agg #[.int .u8 2, .int .i64 p, .int .u64 (pl s 0), .int .u64 (pl s 1), .int .u64 (pl s 2), .int .u64 (pl s 3), .int .u64 (pl s 4), .int .u64 (pl s 5), .int .u64 (pl s 6), .int .u64 (pl s 7)]), Is R, Is R] (by kernel_rfl) (by kernel_rfl) rfl ⟨MkAt.grow, fun _ _ _ h _ => h, fun _ _ _ h _ => h, FnAt.grow 187, fun _ _ _ h _ => h, fun _ _ _ h _ => h, fun _ _ _ h _ => h, fun _ _ _ h _ => h, trivial⟩ ?_
 simp only [List.take_succ_cons, List.take_zero, List.drop_succ_cons, List.drop_zero]
 refine rel_cons ?_ (fun v0 => ?_)
 ·intro w1 hb hF; have hc := (Grows.cells hb).1; have hf := (Grows.cells hb).2; try simp [facts, Is] at hF
  go_simp
  refine (makers_spec w1).mono ?_
  rintro e w2 ⟨⟨b, rfl, hk⟩, h2⟩
  exact ⟨_, rfl, h2, b, rfl, hk⟩
 iterate 2 (refine rel_cons ?_ (fun _ => ?_); · intro w1 hb hF; have hc := (Grows.cells hb).1; have hf := (Grows.cells hb).2; (try simp [facts, Is] at hF); go_simp; exact Grows.refl _)
 refine rel_cons ?_ (fun v3 => ?_)
 ·intro w1 hb hF; have hc := (Grows.cells hb).1; have hf := (Grows.cells hb).2; try simp [facts, Is] at hF
  refine Exists.elim hF.1 (fun b h0 => ?_)
  have e0 := h0.1
  have e1 := hF.2
  have hi := idx2 b w1
  have hk := h0.2
  clear hF h0
  go_simp
  exact ⟨Grows.refl _, b, rfl, hk⟩
 iterate 2 (refine rel_cons ?_ (fun _ => ?_); · intro w1 hb hF; have hc := (Grows.cells hb).1; have hf := (Grows.cells hb).2; (try simp [facts, Is] at hF); go_simp; exact Grows.refl _)
 refine rel_cons ?_ (fun v6 => ?_)
 ·intro w1 hb hF; have hc := (Grows.cells hb).1; have hf := (Grows.cells hb).2; try simp [facts, Is] at hF
  refine Exists.elim hF.1 (fun b h0 => ?_)
  have e0 := h0.1
  have hk := h0.2
  have e1 := hF.2.1
  have e2 := hF.2.2.1
  clear hF h0
  go_simp
  refine (HK.out _ _ hk (bel_trans bel_by hb)).mono ?_
  rintro e w2 ⟨rfl, h2⟩
  exact ⟨rfl, h2⟩
 refine rel_cons ?_ (fun v7 => ?_)
 ·intro w1 hb hF; have hc := (Grows.cells hb).1; have hf := (Grows.cells hb).2; try simp [facts, Is] at hF
  go_simp
  exact Grows.refl _
 refine rel_nil ?_
 intro w1 hb hF
 simp [Is, Nat.forall_lt_succ_right] at hF
 have e0 := hF.1.1.1.1.1.1.1
 have e1 := hF.1.1.1.1.1.1.2
 have e2 := hF.1.1.1.1.1.2
 have e3 := hF.1.1.1.1.2
 have e4 := hF.1.1.1.2
 have e5 := hF.1.1.2
 have e6 := hF.1.2
 have e7 := hF.2
 clear hF
 simp only [Act.put, List.setIfInBounds_toArray, List.set_cons_succ, List.set_cons_zero, e1, e2, e4, e5, e6, e7]
 clear e1 e2 e4 e5 e6 e7
 clear e0 e3
 refine wpList_nil ?_
 go_wp2_with fail
 go_ret
 exact ⟨rfl, bel_trans bel_by hb⟩
set_option maxHeartbeats 1000000 in
theorem made_take (blank : Sol) (v : Value) (p : Int) (s : Sol) (w : World) (R : Value)
  (hk : ∀ b w', KeptAt b w' → Below w.heap.size w w' → Calls Tryz.prog 188 #[.agg #[.int .u64 (pl blank 0), .int .u64 (pl blank 1), .int .u64 (pl blank 2), .int .u64 (pl blank 3), .int .u64 (pl blank 4), .int .u64 (pl blank 5), .int .u64 (pl blank 6), .int .u64 (pl blank 7), v], .agg #[.int .u8 3, .int .i64 p, .int .u64 (pl s 0), .int .u64 (pl s 1), .int .u64 (pl s 2), .int .u64 (pl s 3), .int .u64 (pl s 4), .int .u64 (pl s 5), .int .u64 (pl s 6), .int .u64 (pl s 7)], .pointer (some ⟨b, 0, none⟩)] w' fun e w'' => e = .returned R ∧ Below w'.heap.size w' w'') :
  Calls Tryz.prog 99 #[.agg #[.int .u64 (pl blank 0), .int .u64 (pl blank 1), .int .u64 (pl blank 2), .int .u64 (pl blank 3), .int .u64 (pl blank 4), .int .u64 (pl blank 5), .int .u64 (pl blank 6), .int .u64 (pl blank 7), v], .agg #[.int .u8 3, .int .i64 p, .int .u64 (pl s 0), .int .u64 (pl s 1), .int .u64 (pl s 2), .int .u64 (pl s 3), .int .u64 (pl s 4), .int .u64 (pl s 5), .int .u64 (pl s 6), .int .u64 (pl s 7)]] w fun e w' => e = .returned R ∧ Below w.heap.size w w' := by
 have HK := Lib.hid hk; clear hk
 go_enter Tryz.func99, Tryz.ntmps99
 go_wp2_with fail
 refine wp_region_grow 8 [MkAt, Is (.pointer (some ⟨w.heap.size + 1, 0, none⟩)), Is (.int .u8 3), FnAt 188, Is (.agg #[.int .u64 (pl blank 0), .int .u64 (pl blank 1), .int .u64 (pl blank 2), .int .u64 (pl blank 3), .int .u64 (pl blank 4), .int .u64 (pl blank 5), .int .u64 (pl blank 6), .int .u64 (pl blank 7), v]), Is (.agg #[.int .u8 3, .int .i64 p, .int .u64 (pl s 0), .int .u64 (pl s 1), .int .u64 (pl s 2), .int .u64 (pl s 3), .int .u64 (pl s 4), .int .u64 (pl s 5), .int .u64 (pl s 6), .int .u64 (pl s 7)]), Is R, Is R] (by kernel_rfl) (by kernel_rfl) rfl ⟨MkAt.grow, fun _ _ _ h _ => h, fun _ _ _ h _ => h, FnAt.grow 188, fun _ _ _ h _ => h, fun _ _ _ h _ => h, fun _ _ _ h _ => h, fun _ _ _ h _ => h, trivial⟩ ?_
 simp only [List.take_succ_cons, List.take_zero, List.drop_succ_cons, List.drop_zero]
 refine rel_cons ?_ (fun v0 => ?_)
 ·intro w1 hb hF; have hc := (Grows.cells hb).1; have hf := (Grows.cells hb).2; try simp [facts, Is] at hF
  go_simp
  refine (makers_spec w1).mono ?_
  rintro e w2 ⟨⟨b, rfl, hk⟩, h2⟩
  exact ⟨_, rfl, h2, b, rfl, hk⟩
 iterate 2 (refine rel_cons ?_ (fun _ => ?_); · intro w1 hb hF; have hc := (Grows.cells hb).1; have hf := (Grows.cells hb).2; (try simp [facts, Is] at hF); go_simp; exact Grows.refl _)
 refine rel_cons ?_ (fun v3 => ?_)
 ·intro w1 hb hF; have hc := (Grows.cells hb).1; have hf := (Grows.cells hb).2; try simp [facts, Is] at hF
  refine Exists.elim hF.1 (fun b h0 => ?_)
  have e0 := h0.1
  have e1 := hF.2
  have hi := idx3 b w1
  have hk := h0.2
  clear hF h0
  go_simp
  exact ⟨Grows.refl _, b, rfl, hk⟩
 iterate 2 (refine rel_cons ?_ (fun _ => ?_); · intro w1 hb hF; have hc := (Grows.cells hb).1; have hf := (Grows.cells hb).2; (try simp [facts, Is] at hF); go_simp; exact Grows.refl _)
 refine rel_cons ?_ (fun v6 => ?_)
 ·intro w1 hb hF; have hc := (Grows.cells hb).1; have hf := (Grows.cells hb).2; try simp [facts, Is] at hF
  refine Exists.elim hF.1 (fun b h0 => ?_)
  have e0 := h0.1
  have hk := h0.2
  have e1 := hF.2.1
  have e2 := hF.2.2.1
  clear hF h0
  go_simp
  refine (HK.out _ _ hk (bel_trans bel_by hb)).mono ?_
  rintro e w2 ⟨rfl, h2⟩
  exact ⟨rfl, h2⟩
 refine rel_cons ?_ (fun v7 => ?_)
 ·intro w1 hb hF; have hc := (Grows.cells hb).1; have hf := (Grows.cells hb).2; try simp [facts, Is] at hF
  go_simp
  exact Grows.refl _
 refine rel_nil ?_
 intro w1 hb hF
 simp [Is, Nat.forall_lt_succ_right] at hF
 have e0 := hF.1.1.1.1.1.1.1
 have e1 := hF.1.1.1.1.1.1.2
 have e2 := hF.1.1.1.1.1.2
 have e3 := hF.1.1.1.1.2
 have e4 := hF.1.1.1.2
 have e5 := hF.1.1.2
 have e6 := hF.1.2
 have e7 := hF.2
 clear hF
 simp only [Act.put, List.setIfInBounds_toArray, List.set_cons_succ, List.set_cons_zero, e1, e2, e4, e5, e6, e7]
 clear e1 e2 e4 e5 e6 e7
 clear e0 e3
 refine wpList_nil ?_
 go_wp2_with fail
 go_ret
 exact ⟨rfl, bel_trans bel_by hb⟩
end Go.Proofs.YtccnkebkgegohaaGreatDoor
end
section
namespace Go.Proofs.YtccnkebkgegohaaGreatDoor
open Go.RowKit Go.Rel
set_option maxRecDepth 100000
attribute [go_sem] bits_and_pl bits_or_pl bits_xor_pl
/-- whether two solids have a cell in common -/
def meetsB (a b : Sol) : Bool := !(a &&& b == 0#512)
theorem pl_zero' (k : Nat) : pl 0#512 k = 0 := pl_zero k
theorem meetsB_yes {a b : Sol} {k : Nat} (h : (pl (a &&& b) k != 0) = true) : meetsB a b = true := by
 unfold meetsB
 rw [Bool.not_eq_true', beq_eq_false_iff_ne]
 intro h0
 rw [h0, pl_zero'] at h; simp at h
theorem meetsB_no {a b : Sol} (h : ∀ k, k < 8 → (pl (a &&& b) k != 0) = false) : meetsB a b = false := by
 unfold meetsB
 rw [Bool.not_eq_false', beq_iff_eq]
 refine sol_ext fun k hk => pl_eq.1 ?_
 have := h k hk
 rw [pl_zero']
 simpa using this
theorem inB_no {a b : Sol} {k : Nat} (h : (pl (a &&& b) k != pl a k) = true) : (a &&& b == a) = false := by
 rw [beq_eq_false_iff_ne]
 intro h0
 rw [h0] at h; simp at h
theorem inB_yes {a b : Sol} (h : ∀ k, k < 8 → (pl (a &&& b) k != pl a k) = false) : (a &&& b == a) = true := by
 rw [beq_iff_eq]
 refine sol_ext fun k hk => pl_eq.1 ?_
 have := h k hk
 simpa using this
theorem eight {p : Nat → Prop} (h0 : p 0) (h1 : p 1) (h2 : p 2) (h3 : p 3) (h4 : p 4) (h5 : p 5) (h6 : p 6) (h7 : p 7) : ∀ k, k < 8 → p k := by
 intro k hk
 obtain rfl | rfl | rfl | rfl | rfl | rfl | rfl | rfl : k = 0 ∨ k = 1 ∨ k = 2 ∨ k = 3 ∨ k = 4 ∨ k = 5 ∨ k = 6 ∨ k = 7 := by omega
 ·exact h0
 ·exact h1
 ·exact h2
 ·exact h3
 ·exact h4
 ·exact h5
 ·exact h6
 ·exact h7
set_option maxHeartbeats 2000000 in
theorem refMeet_spec (a b : Sol) (w : World) : Calls Tryz.prog 152 #[solV a, solV b] w fun e w' => e = .returned (.bool (meetsB a b)) ∧ Below w.heap.size w w' := by
 go_enter Tryz.func152, Tryz.ntmps152
 go_wp2
 refine wp_loop_rounds 9 ?_
 rw [rounds_succ]
 go_wp2
 go_quiet (fail)
 go_wp2
 ·have h : (pl (a &&& b) 0 != 0) = true := by assumption
  go_ret
  exact ⟨ret_bool (meetsB_yes h).symm, bel_by⟩
 have h0 : (pl (a &&& b) 0 != 0) = false := by assumption
 rw [rounds_succ]
 go_wp2
 go_quiet (fail)
 go_wp2
 ·have h : (pl (a &&& b) 1 != 0) = true := by assumption
  go_ret
  exact ⟨ret_bool (meetsB_yes h).symm, bel_by⟩
 have h1 : (pl (a &&& b) 1 != 0) = false := by assumption
 rw [rounds_succ]
 go_wp2
 go_quiet (fail)
 go_wp2
 ·have h : (pl (a &&& b) 2 != 0) = true := by assumption
  go_ret
  exact ⟨ret_bool (meetsB_yes h).symm, bel_by⟩
 have h2 : (pl (a &&& b) 2 != 0) = false := by assumption
 rw [rounds_succ]
 go_wp2
 go_quiet (fail)
 go_wp2
 ·have h : (pl (a &&& b) 3 != 0) = true := by assumption
  go_ret
  exact ⟨ret_bool (meetsB_yes h).symm, bel_by⟩
 have h3 : (pl (a &&& b) 3 != 0) = false := by assumption
 rw [rounds_succ]
 go_wp2
 go_quiet (fail)
 go_wp2
 ·have h : (pl (a &&& b) 4 != 0) = true := by assumption
  go_ret
  exact ⟨ret_bool (meetsB_yes h).symm, bel_by⟩
 have h4 : (pl (a &&& b) 4 != 0) = false := by assumption
 rw [rounds_succ]
 go_wp2
 go_quiet (fail)
 go_wp2
 ·have h : (pl (a &&& b) 5 != 0) = true := by assumption
  go_ret
  exact ⟨ret_bool (meetsB_yes h).symm, bel_by⟩
 have h5 : (pl (a &&& b) 5 != 0) = false := by assumption
 rw [rounds_succ]
 go_wp2
 go_quiet (fail)
 go_wp2
 ·have h : (pl (a &&& b) 6 != 0) = true := by assumption
  go_ret
  exact ⟨ret_bool (meetsB_yes h).symm, bel_by⟩
 have h6 : (pl (a &&& b) 6 != 0) = false := by assumption
 rw [rounds_succ]
 go_wp2
 go_quiet (fail)
 go_wp2
 ·have h : (pl (a &&& b) 7 != 0) = true := by assumption
  go_ret
  exact ⟨ret_bool (meetsB_yes h).symm, bel_by⟩
 have h7 : (pl (a &&& b) 7 != 0) = false := by assumption
 rw [rounds_succ]
 go_wp2
 go_ret
 exact ⟨ret_bool (meetsB_no (eight h0 h1 h2 h3 h4 h5 h6 h7)).symm, bel_by⟩
set_option maxHeartbeats 2000000 in
theorem refInside_spec (a b : Sol) (w : World) : Calls Tryz.prog 190 #[solV a, solV b] w fun e w' => e = .returned (.bool (a &&& b == a)) ∧ Below w.heap.size w w' := by
 go_enter Tryz.func190, Tryz.ntmps190
 go_wp2
 refine wp_loop_rounds 9 ?_
 rw [rounds_succ]
 go_wp2
 go_quiet (fail)
 go_wp2
 ·have h : (pl (a &&& b) 0 != pl a 0) = true := by assumption
  go_ret
  exact ⟨ret_bool (inB_no h).symm, bel_by⟩
 have h0 : (pl (a &&& b) 0 != pl a 0) = false := by assumption
 rw [rounds_succ]
 go_wp2
 go_quiet (fail)
 go_wp2
 ·have h : (pl (a &&& b) 1 != pl a 1) = true := by assumption
  go_ret
  exact ⟨ret_bool (inB_no h).symm, bel_by⟩
 have h1 : (pl (a &&& b) 1 != pl a 1) = false := by assumption
 rw [rounds_succ]
 go_wp2
 go_quiet (fail)
 go_wp2
 ·have h : (pl (a &&& b) 2 != pl a 2) = true := by assumption
  go_ret
  exact ⟨ret_bool (inB_no h).symm, bel_by⟩
 have h2 : (pl (a &&& b) 2 != pl a 2) = false := by assumption
 rw [rounds_succ]
 go_wp2
 go_quiet (fail)
 go_wp2
 ·have h : (pl (a &&& b) 3 != pl a 3) = true := by assumption
  go_ret
  exact ⟨ret_bool (inB_no h).symm, bel_by⟩
 have h3 : (pl (a &&& b) 3 != pl a 3) = false := by assumption
 rw [rounds_succ]
 go_wp2
 go_quiet (fail)
 go_wp2
 ·have h : (pl (a &&& b) 4 != pl a 4) = true := by assumption
  go_ret
  exact ⟨ret_bool (inB_no h).symm, bel_by⟩
 have h4 : (pl (a &&& b) 4 != pl a 4) = false := by assumption
 rw [rounds_succ]
 go_wp2
 go_quiet (fail)
 go_wp2
 ·have h : (pl (a &&& b) 5 != pl a 5) = true := by assumption
  go_ret
  exact ⟨ret_bool (inB_no h).symm, bel_by⟩
 have h5 : (pl (a &&& b) 5 != pl a 5) = false := by assumption
 rw [rounds_succ]
 go_wp2
 go_quiet (fail)
 go_wp2
 ·have h : (pl (a &&& b) 6 != pl a 6) = true := by assumption
  go_ret
  exact ⟨ret_bool (inB_no h).symm, bel_by⟩
 have h6 : (pl (a &&& b) 6 != pl a 6) = false := by assumption
 rw [rounds_succ]
 go_wp2
 go_quiet (fail)
 go_wp2
 ·have h : (pl (a &&& b) 7 != pl a 7) = true := by assumption
  go_ret
  exact ⟨ret_bool (inB_no h).symm, bel_by⟩
 have h7 : (pl (a &&& b) 7 != pl a 7) = false := by assumption
 rw [rounds_succ]
 go_wp2
 go_ret
 exact ⟨ret_bool (inB_yes (eight h0 h1 h2 h3 h4 h5 h6 h7)).symm, bel_by⟩
end Go.Proofs.YtccnkebkgegohaaGreatDoor
end
section
namespace Go.Proofs.YtccnkebkgegohaaGreatDoor
open Go.RowKit Go.Rel
set_option maxRecDepth 100000
/-! the given reference: fits, cells, CheckPattern -/
theorem fits_kind {n : Nat} {a : Ac} (h : fits n a = true) : a.1 = 1 ∨ a.1 = 2 ∨ a.1 = 3 := by
 unfold fits at h
 split at h
 ·exact .inl (by assumption)
 ·simp only [Bool.and_eq_true, Bool.or_eq_true, beq_iff_eq] at h
  omega
set_option maxHeartbeats 2000000 in
theorem refFits_cut (n : Nat) (p : Int) (s : Sol) (w : World) :
  Calls Tryz.prog 104 #[.int .i64 n, .agg #[.int .u8 1, .int .i64 p, .int .u64 (pl s 0), .int .u64 (pl s 1), .int .u64 (pl s 2), .int .u64 (pl s 3), .int .u64 (pl s 4), .int .u64 (pl s 5), .int .u64 (pl s 6), .int .u64 (pl s 7)]] w fun e w' => e = .returned (.bool (p == 0 && !(s == 0#512))) ∧ Below w.heap.size w w' := by
 cases hp : (p == 0) with
 | false =>
  go_enter Tryz.func104, Tryz.ntmps104
  go_wp2
  go_ret
  exact ⟨rfl, bel_by⟩
 | true =>
  go_enter Tryz.func104, Tryz.ntmps104
  go_wp2
  go_ret
  exact ⟨rfl, bel_by⟩
set_option maxHeartbeats 2000000 in
theorem refFits_kept (n : Nat) (K : Nat) (p : Int) (s : Sol) (w : World) (hK : K = 2 ∨ K = 3) :
  Calls Tryz.prog 104 #[.int .i64 n, .agg #[.int .u8 K, .int .i64 p, .int .u64 (pl s 0), .int .u64 (pl s 1), .int .u64 (pl s 2), .int .u64 (pl s 3), .int .u64 (pl s 4), .int .u64 (pl s 5), .int .u64 (pl s 6), .int .u64 (pl s 7)]] w fun e w' => e = .returned (.bool (decide (0 ≤ p) && decide (p < n) && s == 0#512)) ∧ Below w.heap.size w w' := by
 rcases hK with rfl | rfl
 all_goals
  by_cases h0 : 0 ≤ p
  ·by_cases h1 : p < n
   ·go_enter Tryz.func104, Tryz.ntmps104
    go_wp2
    go_ret
    exact ⟨ret_bool (by simp [h0, h1]), bel_by⟩
   ·go_enter Tryz.func104, Tryz.ntmps104
    go_wp2
    go_ret
    exact ⟨ret_bool (by rw [show decide (p < (n : Int)) = false from decide_eq_false (by omega)]; simp), bel_by⟩
  ·go_enter Tryz.func104, Tryz.ntmps104
   go_wp2
   go_ret
   exact ⟨ret_bool (by rw [show decide (0 ≤ p) = false from decide_eq_false (by omega)]; simp), bel_by⟩
set_option maxHeartbeats 2000000 in
theorem refFits_other (n : Nat) (K : Nat) (p : Int) (s : Sol) (w : World) (h1 : ¬ K = 1) (h2 : ¬ K = 2) (h3 : ¬ K = 3) :
  Calls Tryz.prog 104 #[.int .i64 n, .agg #[.int .u8 K, .int .i64 p, .int .u64 (pl s 0), .int .u64 (pl s 1), .int .u64 (pl s 2), .int .u64 (pl s 3), .int .u64 (pl s 4), .int .u64 (pl s 5), .int .u64 (pl s 6), .int .u64 (pl s 7)]] w fun e w' => e = .returned (.bool false) ∧ Below w.heap.size w w' := by
 have g1 : ((K : Int) == 1) = false := by rw [beq_eq_false_iff_ne]; omega
 have g2 : ((K : Int) == 2) = false := by rw [beq_eq_false_iff_ne]; omega
 have g3 : ((K : Int) == 3) = false := by rw [beq_eq_false_iff_ne]; omega
 go_enter Tryz.func104, Tryz.ntmps104
 go_wp2
 go_ret
 exact ⟨rfl, bel_by⟩
theorem refFits_spec (n : Nat) (a : Ac) (w : World) :
  Calls Tryz.prog 104 #[.int .i64 n, .agg #[.int .u8 a.1, .int .i64 a.2.1, .int .u64 (pl a.2.2 0), .int .u64 (pl a.2.2 1), .int .u64 (pl a.2.2 2), .int .u64 (pl a.2.2 3), .int .u64 (pl a.2.2 4), .int .u64 (pl a.2.2 5), .int .u64 (pl a.2.2 6), .int .u64 (pl a.2.2 7)]] w fun e w' => e = .returned (.bool (fits n a)) ∧ Below w.heap.size w w' := by
 obtain ⟨K, p, s⟩ := a
 by_cases h1 : K = 1
 ·subst h1; exact refFits_cut n p s w
 ·by_cases h23 : K = 2 ∨ K = 3
  ·have := refFits_kept n K p s w h23
   have e : fits n (K, p, s) = (decide (0 ≤ p) && decide (p < n) && s == 0#512) := by
    unfold fits; rw [if_neg h1]
    rcases h23 with rfl | rfl <;> simp
   rw [e]; exact this
  ·have e : fits n (K, p, s) = false := by
    unfold fits; rw [if_neg h1]
    have : K ≠ 2 ∧ K ≠ 3 := by omega
    simp [this.1, this.2]
   rw [e]; exact refFits_other n K p s w h1 (by omega) (by omega)
set_option maxHeartbeats 2000000 in
theorem refCells_cut (blank : Sol) (v : Value) (p : Int) (s : Sol) (w : World) :
  Calls Tryz.prog 100 #[.agg #[.int .u64 (pl blank 0), .int .u64 (pl blank 1), .int .u64 (pl blank 2), .int .u64 (pl blank 3), .int .u64 (pl blank 4), .int .u64 (pl blank 5), .int .u64 (pl blank 6), .int .u64 (pl blank 7), v], .agg #[.int .u8 1, .int .i64 p, .int .u64 (pl s 0), .int .u64 (pl s 1), .int .u64 (pl s 2), .int .u64 (pl s 3), .int .u64 (pl s 4), .int .u64 (pl s 5), .int .u64 (pl s 6), .int .u64 (pl s 7)]] w fun e w' => e = .returned (solV s) ∧ Below w.heap.size w w' := by
 go_enter Tryz.func100, Tryz.ntmps100
 go_wp2
 exact bodyPost_ret (by simp [results, Tryz.results100, go_sem]) rfl ⟨rfl, bel_by⟩
set_option maxHeartbeats 2000000 in
theorem refCells_kept (blank : Sol) (b off n c : Nat) (K : Nat) (k : Nat) (s x : Sol) (w : World) (hK : ((K : Int) == 1) = false) (hk : k < n) (hbw : b < w.heap.size) (hm : c ≤ 9223372036854775807) (hc : n ≤ c)
  (c0 : w.cell? ⟨b, off + k * 8, none⟩ = some (.int .u64 (pl x 0))) (c1 : w.cell? ⟨b, off + k * 8 + 1, none⟩ = some (.int .u64 (pl x 1))) (c2 : w.cell? ⟨b, off + k * 8 + 2, none⟩ = some (.int .u64 (pl x 2)))
  (c3 : w.cell? ⟨b, off + k * 8 + 3, none⟩ = some (.int .u64 (pl x 3))) (c4 : w.cell? ⟨b, off + k * 8 + 4, none⟩ = some (.int .u64 (pl x 4))) (c5 : w.cell? ⟨b, off + k * 8 + 5, none⟩ = some (.int .u64 (pl x 5)))
  (c6 : w.cell? ⟨b, off + k * 8 + 6, none⟩ = some (.int .u64 (pl x 6))) (c7 : w.cell? ⟨b, off + k * 8 + 7, none⟩ = some (.int .u64 (pl x 7))) :
  Calls Tryz.prog 100 #[.agg #[.int .u64 (pl blank 0), .int .u64 (pl blank 1), .int .u64 (pl blank 2), .int .u64 (pl blank 3), .int .u64 (pl blank 4), .int .u64 (pl blank 5), .int .u64 (pl blank 6), .int .u64 (pl blank 7), .slice (some ⟨b, off, none⟩) n c], .agg #[.int .u8 K, .int .i64 k, .int .u64 (pl s 0), .int .u64 (pl s 1), .int .u64 (pl s 2), .int .u64 (pl s 3), .int .u64 (pl s 4), .int .u64 (pl s 5), .int .u64 (pl s 6), .int .u64 (pl s 7)]] w fun e w' => e = .returned (solV x) ∧ Below w.heap.size w w' := by
 have hb1 : b < w.heap.size + 1 := by omega
 have hb2 : b < w.heap.size + 1 + 1 := by omega
 have hb3 : b < w.heap.size + 1 + 1 + 1 := by omega
 go_enter Tryz.func100, Tryz.ntmps100
 go_wp2
 exact bodyPost_ret (by simp [results, Tryz.results100, go_sem]) rfl ⟨rfl, bel_by⟩
theorem refCells_spec (blank : Sol) (v : Value) (l : List Sol) (a : Ac) (w : World) (H : SlS w v l) (hf : fits l.length a = true) :
  Calls Tryz.prog 100 #[.agg #[.int .u64 (pl blank 0), .int .u64 (pl blank 1), .int .u64 (pl blank 2), .int .u64 (pl blank 3), .int .u64 (pl blank 4), .int .u64 (pl blank 5), .int .u64 (pl blank 6), .int .u64 (pl blank 7), v], .agg #[.int .u8 a.1, .int .i64 a.2.1, .int .u64 (pl a.2.2 0), .int .u64 (pl a.2.2 1), .int .u64 (pl a.2.2 2), .int .u64 (pl a.2.2 3), .int .u64 (pl a.2.2 4), .int .u64 (pl a.2.2 5), .int .u64 (pl a.2.2 6), .int .u64 (pl a.2.2 7)]] w fun e w' => e = .returned (solV (acCells l a)) ∧ Below w.heap.size w w' := by
 obtain ⟨K, p, s⟩ := a
 unfold acCells
 by_cases h1 : K = 1
 ·subst h1; rw [if_pos rfl]; exact refCells_cut blank v p s w
 ·rw [if_neg h1]
  have hp : 0 ≤ p ∧ p < l.length := by
   unfold fits at hf
   rw [if_neg h1] at hf
   simp only [Bool.and_eq_true, decide_eq_true_eq] at hf
   exact ⟨hf.1.1.2, hf.1.2⟩
  obtain ⟨k, rfl⟩ := Int.eq_ofNat_of_zero_le hp.1
  have hk : k < l.length := by omega
  rcases H.cases with ⟨hl, _⟩ | ⟨b, off, c, rfl, hc, hm, hpos, hcs⟩
  ·have : l = [] := by simpa using hl
   subst this; simp at hk
  ·rw [List.length_map] at hc ⊢
   obtain ⟨c0, c1, c2, c3, c4, c5, c6, c7⟩ := sol_cells hcs (k := k) (x := l.getD k 0) (by simp [hk])
   have hK : ((K : Int) == 1) = false := by rw [beq_eq_false_iff_ne]; omega
   exact refCells_kept blank b off l.length c K k s (l.getD k 0) w hK hk hcs.1 hm hc c0 c1 c2 c3 c4 c5 c6 c7
end Go.Proofs.YtccnkebkgegohaaGreatDoor
end
section
namespace Go.Proofs.YtccnkebkgegohaaGreatDoor
open Go.RowKit Go.Rel
set_option maxRecDepth 100000
theorem any_yes {l : List Sol} {k : Nat} {x : Sol} (hx : l[k]? = some x) (h : (x == 0#512) = true) : (l.any fun x => 0#512 == x) = true := by
 refine List.any_eq_true.2 ⟨x, List.mem_of_getElem? hx, ?_⟩
 rw [beq_iff_eq] at h ⊢; exact h.symm
theorem any_no {l : List Sol} (h : ∀ (j : Nat) (y : Sol), l[j]? = some y → (y == 0#512) = false) : (l.any fun x => 0#512 == x) = false := by
 rw [List.any_eq_false]
 intro x hx
 obtain ⟨j, hj⟩ := List.mem_iff_getElem?.1 hx
 have := h j x hj
 rw [beq_eq_false_iff_ne] at this
 rw [Bool.not_eq_true, beq_eq_false_iff_ne]
 exact fun e => this e.symm
set_option maxHeartbeats 1000000 in
theorem refCheckPattern_early (blank : Sol) (a : Option Addr) (n c : Nat) (w : World) (h : 8 < n ∨ (blank == 0#512) = true) :
  Calls Tryz.prog 35 #[.agg #[.int .u64 (pl blank 0), .int .u64 (pl blank 1), .int .u64 (pl blank 2), .int .u64 (pl blank 3), .int .u64 (pl blank 4), .int .u64 (pl blank 5), .int .u64 (pl blank 6), .int .u64 (pl blank 7), .slice a n c]] w fun e w' => e = .returned (.int .i64 (if 8 < n then 2 else 1)) ∧ Below w.heap.size w w' := by
 by_cases h8 : 8 < n
 ·clear h
  rw [if_pos h8]
  go_enter Tryz.func35, Tryz.ntmps35
  go_wp2
  go_ret
  exact ⟨rfl, bel_by⟩
 ·have hb : (blank == 0#512) = true := by rcases h with h | h; exact absurd h h8; exact h
  clear h
  rw [if_neg h8]
  go_enter Tryz.func35, Tryz.ntmps35
  go_wp2
  go_ret
  exact ⟨rfl, bel_by⟩
set_option maxHeartbeats 1000000 in
theorem refCheckPattern_nil (blank : Sol) (a : Option Addr) (c : Nat) (w : World) (hb : (blank == 0#512) = false) :
  Calls Tryz.prog 35 #[.agg #[.int .u64 (pl blank 0), .int .u64 (pl blank 1), .int .u64 (pl blank 2), .int .u64 (pl blank 3), .int .u64 (pl blank 4), .int .u64 (pl blank 5), .int .u64 (pl blank 6), .int .u64 (pl blank 7), .slice a 0 c]] w fun e w' => e = .returned (.int .i64 0) ∧ Below w.heap.size w w' := by
 go_enter Tryz.func35, Tryz.ntmps35
 go_wp2
 refine wp_loop_rounds 1 ?_
 rw [rounds_succ]
 go_wp2
 go_ret
 exact ⟨rfl, bel_by⟩
set_option maxHeartbeats 1000000 in
theorem refCheckPattern_loop (blank : Sol) (b off c n : Nat) (l : List Sol) (w : World) (hb0 : (blank == 0#512) = false) (h8 : ¬ 8 < n) (hn : l.length = n) (hcs : Cells w b off 8 (l.map solL)) (R : Int) (hR : R = if l.any (fun x => 0#512 == x) then 1 else 0) :
  Calls Tryz.prog 35 #[.agg #[.int .u64 (pl blank 0), .int .u64 (pl blank 1), .int .u64 (pl blank 2), .int .u64 (pl blank 3), .int .u64 (pl blank 4), .int .u64 (pl blank 5), .int .u64 (pl blank 6), .int .u64 (pl blank 7), .slice (some ⟨b, off, none⟩) n c]] w fun e w' => e = .returned (.int .i64 R) ∧ Below w.heap.size w w' := by
 have HR := Lib.hid hR; clear hR
 have hb := hcs.1
 have H := Lib.hid hcs; clear hcs
 have HN := Lib.hid hn; clear hn
 have hb1 : b < w.heap.size + 1 := by omega
 go_enter Tryz.func35, Tryz.ntmps35
 go_wp2
 go_loop [3] (fun i => ∃ k : Nat, k ≤ n ∧ i = .int .i64 k ∧ Hid (∀ (j : Nat) (y : Sol), j < k → l[j]? = some y → (y == 0#512) = false)) (fun i => n - (intOf i).toNat)
 case atStart => exact ⟨0, Nat.zero_le _, rfl, fun j y hj => by omega⟩
 case round =>
  obtain ⟨k, hk, rfl, HP⟩ := hrel
  by_cases hlt : k < n
  ·obtain ⟨x, hx⟩ : ∃ x, l[k]? = some x := ⟨l[k]'(by rw [HN.out]; exact hlt), by simp [HN.out, hlt]⟩
   obtain ⟨c0, c1, c2, c3, c4, c5, c6, c7⟩ := sol_cells H.out hx
   have HX := Lib.hid hx; clear hx
   go_wp2
   ·have he : (x == 0#512) = true := by assumption
    go_ret
    exact ⟨ret_int (by rw [HR.out, any_yes HX.out he]; rfl), bel_by⟩
   ·have he : (x == 0#512) = false := by assumption
    go_round
    case rel => exact ⟨k + 1, by omega, by go_num, fun j y hj hy => by
     rcases Nat.lt_or_eq_of_le (Nat.le_of_lt_succ hj) with h | h
     ·exact HP.out j y h hy
     ·subst h; rw [HX.out] at hy; cases hy; exact he⟩
    case measure => simp [intOf]; omega
  ·go_wp2
   go_ret
   exact ⟨ret_int (by rw [HR.out, any_no (fun j y hy => HP.out j y (by have := (List.getElem?_eq_some_iff.1 hy).1; rw [HN.out] at this; omega) hy)]; rfl), bel_by⟩
theorem refCheckPattern_spec (blank : Sol) (v : Value) (l : List Sol) (w : World) (H : SlS w v l) :
  Calls Tryz.prog 35 #[.agg #[.int .u64 (pl blank 0), .int .u64 (pl blank 1), .int .u64 (pl blank 2), .int .u64 (pl blank 3), .int .u64 (pl blank 4), .int .u64 (pl blank 5), .int .u64 (pl blank 6), .int .u64 (pl blank 7), v]] w fun e w' => e = .returned (.int .i64 (chkPat blank l)) ∧ Below w.heap.size w w' := by
 unfold chkPat
 by_cases h8 : 8 < l.length
 ·obtain ⟨a, n, c, rfl, rfl, hc, hm⟩ := H.out
  have := refCheckPattern_early blank a l.length c w (.inl h8)
  rw [if_pos h8] at this ⊢
  exact this
 ·rw [if_neg h8]
  cases hb : (blank == 0#512) with
  | true =>
   obtain ⟨a, n, c, rfl, rfl, hc, hm⟩ := H.out
   have := refCheckPattern_early blank a l.length c w (.inr hb)
   rw [if_neg h8] at this
   simpa using this
  | false =>
   rw [Bool.false_or]
   rcases H.cases with ⟨hl, a, c, rfl, hm⟩ | ⟨b, off, c, rfl, hc, hm, hpos, hcs⟩
   ·have : l = [] := by simpa using hl
    subst this
    exact refCheckPattern_nil blank a c w hb
   ·rw [List.length_map]
    exact refCheckPattern_loop blank b off c l.length l w hb h8 rfl hcs _ rfl
end Go.Proofs.YtccnkebkgegohaaGreatDoor
end
