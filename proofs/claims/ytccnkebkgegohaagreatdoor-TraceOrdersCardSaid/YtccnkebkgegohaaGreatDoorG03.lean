import Derived.Test.YtccnkebkgegohaaGreatDoorG02
/-
  Given contracts of functions of the program, and laws for them, one behind the other.
-/
set_option linter.unusedVariables false
set_option linter.unusedSimpArgs false
set_option linter.unusedSectionVars false
section
namespace Go.Proofs.YtccnkebkgegohaaGreatDoor
open Go.RowKit Go.Rel
set_option maxRecDepth 100000
/-- an action: kind, piece, cells -/
abbrev Ac := Nat × Int × Sol
abbrev acL (a : Ac) : List Value := [.int .u8 a.1, .int .i64 a.2.1, .int .u64 (pl a.2.2 0), .int .u64 (pl a.2.2 1), .int .u64 (pl a.2.2 2), .int .u64 (pl a.2.2 3), .int .u64 (pl a.2.2 4), .int .u64 (pl a.2.2 5), .int .u64 (pl a.2.2 6), .int .u64 (pl a.2.2 7)]
/-- a deed: 1 cut, 2 fit, 3 take; the piece's bit; the cells -/
abbrev Deed := Nat × Int × Sol
def deedV (d : Deed) : Value :=
  if d.1 = 1 then .iface 212 (.agg #[.int .u64 (pl d.2.2 0), .int .u64 (pl d.2.2 1), .int .u64 (pl d.2.2 2), .int .u64 (pl d.2.2 3), .int .u64 (pl d.2.2 4), .int .u64 (pl d.2.2 5), .int .u64 (pl d.2.2 6), .int .u64 (pl d.2.2 7)])
  else if d.1 = 2 then .iface 217 (.agg #[.int .u8 d.2.1, .int .u64 (pl d.2.2 0), .int .u64 (pl d.2.2 1), .int .u64 (pl d.2.2 2), .int .u64 (pl d.2.2 3), .int .u64 (pl d.2.2 4), .int .u64 (pl d.2.2 5), .int .u64 (pl d.2.2 6), .int .u64 (pl d.2.2 7)])
  else .iface 218 (.agg #[.int .u8 d.2.1, .int .u64 (pl d.2.2 0), .int .u64 (pl d.2.2 1), .int .u64 (pl d.2.2 2), .int .u64 (pl d.2.2 3), .int .u64 (pl d.2.2 4), .int .u64 (pl d.2.2 5), .int .u64 (pl d.2.2 6), .int .u64 (pl d.2.2 7)])
/-- whether an action is as said, for a number of pieces -/
def fits (n : Nat) (a : Ac) : Bool :=
  if a.1 = 1 then a.2.1 == 0 && !(a.2.2 == 0#512)
  else (a.1 == 2 || a.1 == 3) && decide (0 ≤ a.2.1) && decide (a.2.1 < n) && a.2.2 == 0#512
def bitOf (p : Int) : Int := 2 ^ p.toNat
/-- the cells of an action that is as said -/
def acCells (l : List Sol) (a : Ac) : Sol := if a.1 = 1 then a.2.2 else l.getD a.2.1.toNat 0
def made (l : List Sol) (a : Ac) : Deed := (a.1, if a.1 = 1 then 0 else bitOf a.2.1, acCells l a)

theorem hmf (fn : Fn) (first cap : Array Value) (w : World) : (Instr.makeFunc fn first cap).run Tryz.prog w = .ok (.func fn first cap) w := rfl

set_option maxHeartbeats 1000000 in
theorem kept_no (blank : Sol) (a : Option Addr) (n c : Nat) (K : Nat) (p : Int) (s : Sol) (w : World) (hn : n ≤ 8) (hno : p < 0 ∨ (n : Int) ≤ p ∨ (s == 0#512) = false) :
    Calls Tryz.prog 185 #[.agg #[.int .u64 (pl blank 0), .int .u64 (pl blank 1), .int .u64 (pl blank 2), .int .u64 (pl blank 3), .int .u64 (pl blank 4), .int .u64 (pl blank 5), .int .u64 (pl blank 6), .int .u64 (pl blank 7), .slice a n c], .agg #[.int .u8 K, .int .i64 p, .int .u64 (pl s 0), .int .u64 (pl s 1), .int .u64 (pl s 2), .int .u64 (pl s 3), .int .u64 (pl s 4), .int .u64 (pl s 5), .int .u64 (pl s 6), .int .u64 (pl s 7)]] w fun e w' =>
      e = .returned (.tuple #[.agg #[.int .u8 0, .int .u64 0, .int .u64 0, .int .u64 0, .int .u64 0, .int .u64 0, .int .u64 0, .int .u64 0, .int .u64 0], .bool false]) ∧ Below w.heap.size w w' := by
  by_cases h1 : p < 0
  · go_enter Tryz.func185, Tryz.ntmps185
    go_wp2
    exact bodyPost_ret (by simp [results, Tryz.results185, go_sem]) rfl ⟨rfl, (by repeat (first | with_reducible exact bel_refl _ | with_reducible assumption | with_reducible refine bel_drewN ?_ _ | with_reducible refine bel_drew ?_ | with_reducible refine bel_alloc ?_ _ | with_reducible refine bel_row ?_ ?_ _ | with_reducible refine bel_set ?_ ?_ _ | refine bel_trans ?_ (by with_reducible assumption) | (simp; done) | (simp; omega)))⟩
  · by_cases h2 : (n : Int) ≤ p
    · go_enter Tryz.func185, Tryz.ntmps185
      go_wp2
      exact bodyPost_ret (by simp [results, Tryz.results185, go_sem]) rfl ⟨rfl, (by repeat (first | with_reducible exact bel_refl _ | with_reducible assumption | with_reducible refine bel_drewN ?_ _ | with_reducible refine bel_drew ?_ | with_reducible refine bel_alloc ?_ _ | with_reducible refine bel_row ?_ ?_ _ | with_reducible refine bel_set ?_ ?_ _ | refine bel_trans ?_ (by with_reducible assumption) | (simp; done) | (simp; omega)))⟩
    · have h3 : (s == 0#512) = false := by
        rcases hno with h | h | h
        · exact absurd h h1
        · exact absurd h h2
        · exact h
      clear hno
      go_enter Tryz.func185, Tryz.ntmps185
      go_wp2
      exact bodyPost_ret (by simp [results, Tryz.results185, go_sem]) rfl ⟨rfl, (by repeat (first | with_reducible exact bel_refl _ | with_reducible assumption | with_reducible refine bel_drewN ?_ _ | with_reducible refine bel_drew ?_ | with_reducible refine bel_alloc ?_ _ | with_reducible refine bel_row ?_ ?_ _ | with_reducible refine bel_set ?_ ?_ _ | refine bel_trans ?_ (by with_reducible assumption) | (simp; done) | (simp; omega)))⟩
set_option maxHeartbeats 1000000 in
theorem kept_yes (blank : Sol) (b off n c : Nat) (K : Nat) (k : Nat) (s x : Sol) (w : World) (hs : (s == 0#512) = true) (hn : n ≤ 8) (hk : k < n) (hbw : b < w.heap.size)
    (c0 : w.cell? ⟨b, off + k * 8, none⟩ = some (.int .u64 (pl x 0))) (c1 : w.cell? ⟨b, off + k * 8 + 1, none⟩ = some (.int .u64 (pl x 1))) (c2 : w.cell? ⟨b, off + k * 8 + 2, none⟩ = some (.int .u64 (pl x 2)))
    (c3 : w.cell? ⟨b, off + k * 8 + 3, none⟩ = some (.int .u64 (pl x 3))) (c4 : w.cell? ⟨b, off + k * 8 + 4, none⟩ = some (.int .u64 (pl x 4))) (c5 : w.cell? ⟨b, off + k * 8 + 5, none⟩ = some (.int .u64 (pl x 5)))
    (c6 : w.cell? ⟨b, off + k * 8 + 6, none⟩ = some (.int .u64 (pl x 6))) (c7 : w.cell? ⟨b, off + k * 8 + 7, none⟩ = some (.int .u64 (pl x 7))) :
    Calls Tryz.prog 185 #[.agg #[.int .u64 (pl blank 0), .int .u64 (pl blank 1), .int .u64 (pl blank 2), .int .u64 (pl blank 3), .int .u64 (pl blank 4), .int .u64 (pl blank 5), .int .u64 (pl blank 6), .int .u64 (pl blank 7), .slice (some ⟨b, off, none⟩) n c], .agg #[.int .u8 K, .int .i64 k, .int .u64 (pl s 0), .int .u64 (pl s 1), .int .u64 (pl s 2), .int .u64 (pl s 3), .int .u64 (pl s 4), .int .u64 (pl s 5), .int .u64 (pl s 6), .int .u64 (pl s 7)]] w fun e w' =>
      e = .returned (.tuple #[.agg #[.int .u8 (2 ^ k), .int .u64 (pl x 0), .int .u64 (pl x 1), .int .u64 (pl x 2), .int .u64 (pl x 3), .int .u64 (pl x 4), .int .u64 (pl x 5), .int .u64 (pl x 6), .int .u64 (pl x 7)], .bool true]) ∧ Below w.heap.size w w' := by
  have hw8 : IntKind.u8.wrap ((2 : Int) ^ k) = 2 ^ k := by
    obtain rfl | rfl | rfl | rfl | rfl | rfl | rfl | rfl : k = 0 ∨ k = 1 ∨ k = 2 ∨ k = 3 ∨ k = 4 ∨ k = 5 ∨ k = 6 ∨ k = 7 := by omega
    all_goals decide
  have hb1 : b < w.heap.size + 1 := by omega
  have hb2 : b < w.heap.size + 1 + 1 := by omega
  have hb3 : b < w.heap.size + 1 + 1 + 1 := by omega
  go_enter Tryz.func185, Tryz.ntmps185
  go_wp2
  refine Go.Rel.region_still_tail 10 (by kernel_rfl) (by kernel_rfl) ?_
  simp only [List.take_succ_cons, List.take_zero, List.drop_succ_cons, List.drop_zero]
  repeat still_step
  refine wpStill_nil ?_
  go_wp2
  exact bodyPost_ret (by simp [results, Tryz.results185, go_sem]) rfl ⟨rfl, (by repeat (first | with_reducible exact bel_refl _ | with_reducible assumption | with_reducible refine bel_drewN ?_ _ | with_reducible refine bel_drew ?_ | with_reducible refine bel_alloc ?_ _ | with_reducible refine bel_row ?_ ?_ _ | with_reducible refine bel_set ?_ ?_ _ | refine bel_trans ?_ (by with_reducible assumption) | (simp; done) | (simp; omega)))⟩
end Go.Proofs.YtccnkebkgegohaaGreatDoor
end
section
namespace Go.Proofs.YtccnkebkgegohaaGreatDoor
open Go.RowKit Go.Rel
set_option maxRecDepth 100000
set_option maxHeartbeats 1000000 in
theorem mkCut_yes (blank : Sol) (a : Option Addr) (n c : Nat) (K : Nat) (s : Sol) (w : World) (hs : (s == 0#512) = false) :
    Calls Tryz.prog 186 #[.agg #[.int .u64 (pl blank 0), .int .u64 (pl blank 1), .int .u64 (pl blank 2), .int .u64 (pl blank 3), .int .u64 (pl blank 4), .int .u64 (pl blank 5), .int .u64 (pl blank 6), .int .u64 (pl blank 7), .slice a n c], .agg #[.int .u8 K, .int .i64 0, .int .u64 (pl s 0), .int .u64 (pl s 1), .int .u64 (pl s 2), .int .u64 (pl s 3), .int .u64 (pl s 4), .int .u64 (pl s 5), .int .u64 (pl s 6), .int .u64 (pl s 7)]] w fun e w' =>
      e = .returned (.iface 212 (.agg #[.int .u64 (pl s 0), .int .u64 (pl s 1), .int .u64 (pl s 2), .int .u64 (pl s 3), .int .u64 (pl s 4), .int .u64 (pl s 5), .int .u64 (pl s 6), .int .u64 (pl s 7)])) ∧ Below w.heap.size w w' := by
  go_enter Tryz.func186, Tryz.ntmps186
  go_wp2
  go_ret
  exact ⟨rfl, (by repeat (first | with_reducible exact bel_refl _ | with_reducible assumption | with_reducible refine bel_drewN ?_ _ | with_reducible refine bel_drew ?_ | with_reducible refine bel_alloc ?_ _ | with_reducible refine bel_row ?_ ?_ _ | with_reducible refine bel_set ?_ ?_ _ | refine bel_trans ?_ (by with_reducible assumption) | (simp; done) | (simp; omega)))⟩
set_option maxHeartbeats 1000000 in
theorem mkCut_no (blank : Sol) (a : Option Addr) (n c : Nat) (K : Nat) (p : Int) (s : Sol) (w : World) (hs : (p == 0) = false ∨ (s == 0#512) = true) :
    Calls Tryz.prog 186 #[.agg #[.int .u64 (pl blank 0), .int .u64 (pl blank 1), .int .u64 (pl blank 2), .int .u64 (pl blank 3), .int .u64 (pl blank 4), .int .u64 (pl blank 5), .int .u64 (pl blank 6), .int .u64 (pl blank 7), .slice a n c], .agg #[.int .u8 K, .int .i64 p, .int .u64 (pl s 0), .int .u64 (pl s 1), .int .u64 (pl s 2), .int .u64 (pl s 3), .int .u64 (pl s 4), .int .u64 (pl s 5), .int .u64 (pl s 6), .int .u64 (pl s 7)]] w fun e w' =>
      e = .returned .nilIface ∧ Below w.heap.size w w' := by
  cases hp : (p == 0) with
  | false =>
    clear hs
    have hp' : (p != 0) = true := by simp [bne, hp]
    go_enter Tryz.func186, Tryz.ntmps186
    go_wp2
    go_ret
    exact ⟨rfl, (by repeat (first | with_reducible exact bel_refl _ | with_reducible assumption | with_reducible refine bel_drewN ?_ _ | with_reducible refine bel_drew ?_ | with_reducible refine bel_alloc ?_ _ | with_reducible refine bel_row ?_ ?_ _ | with_reducible refine bel_set ?_ ?_ _ | refine bel_trans ?_ (by with_reducible assumption) | (simp; done) | (simp; omega)))⟩
  | true =>
    have hs' : (s == 0#512) = true := by rcases hs with h | h; rw [hp] at h; cases h; exact h
    clear hs
    have hp' : (p != 0) = false := by simp [bne, hp]
    go_enter Tryz.func186, Tryz.ntmps186
    go_wp2
    go_ret
    exact ⟨rfl, (by repeat (first | with_reducible exact bel_refl _ | with_reducible assumption | with_reducible refine bel_drewN ?_ _ | with_reducible refine bel_drew ?_ | with_reducible refine bel_alloc ?_ _ | with_reducible refine bel_row ?_ ?_ _ | with_reducible refine bel_set ?_ ?_ _ | refine bel_trans ?_ (by with_reducible assumption) | (simp; done) | (simp; omega)))⟩
set_option maxHeartbeats 1000000 in
theorem mkFit_of (blank s : Sol) (a : Option Addr) (n c : Nat) (K : Nat) (p : Int) (bk : Nat) (w : World) (hbk : bk < w.heap.size)
    (h0 : w.cell? ⟨bk, 0, none⟩ = some (.func (.func 185) #[] #[])) (f0 f1 f2 f3 f4 f5 f6 f7 f8 : Int) (r : Bool) (R : Value) (hR : R = if r then .iface 217 (.agg #[.int .u8 f8, .int .u64 f0, .int .u64 f1, .int .u64 f2, .int .u64 f3, .int .u64 f4, .int .u64 f5, .int .u64 f6, .int .u64 f7]) else .nilIface)
    (hk : ∀ w', Below w.heap.size w w' → Calls Tryz.prog 185 #[.agg #[.int .u64 (pl blank 0), .int .u64 (pl blank 1), .int .u64 (pl blank 2), .int .u64 (pl blank 3), .int .u64 (pl blank 4), .int .u64 (pl blank 5), .int .u64 (pl blank 6), .int .u64 (pl blank 7), .slice a n c], .agg #[.int .u8 K, .int .i64 p, .int .u64 (pl s 0), .int .u64 (pl s 1), .int .u64 (pl s 2), .int .u64 (pl s 3), .int .u64 (pl s 4), .int .u64 (pl s 5), .int .u64 (pl s 6), .int .u64 (pl s 7)]] w' fun e w'' => e = .returned (.tuple #[.agg #[.int .u8 f8, .int .u64 f0, .int .u64 f1, .int .u64 f2, .int .u64 f3, .int .u64 f4, .int .u64 f5, .int .u64 f6, .int .u64 f7], .bool r]) ∧ Below w'.heap.size w' w'') :
    Calls Tryz.prog 187 #[.agg #[.int .u64 (pl blank 0), .int .u64 (pl blank 1), .int .u64 (pl blank 2), .int .u64 (pl blank 3), .int .u64 (pl blank 4), .int .u64 (pl blank 5), .int .u64 (pl blank 6), .int .u64 (pl blank 7), .slice a n c], .agg #[.int .u8 K, .int .i64 p, .int .u64 (pl s 0), .int .u64 (pl s 1), .int .u64 (pl s 2), .int .u64 (pl s 3), .int .u64 (pl s 4), .int .u64 (pl s 5), .int .u64 (pl s 6), .int .u64 (pl s 7)], .pointer (some ⟨bk, 0, none⟩)] w fun e w' =>
      e = .returned R ∧ Below w.heap.size w w' := by
  have HK := Lib.hid hk; clear hk
  have hb1 : bk < w.heap.size + 1 := by omega
  cases r with
  | true =>
    have HR := Lib.hid hR; clear hR
    go_enter Tryz.func187, Tryz.ntmps187
    go_wp2_with fail
    refine (HK.out _ (by repeat (first | with_reducible exact bel_refl _ | with_reducible assumption | with_reducible refine bel_drewN ?_ _ | with_reducible refine bel_drew ?_ | with_reducible refine bel_alloc ?_ _ | with_reducible refine bel_row ?_ ?_ _ | with_reducible refine bel_set ?_ ?_ _ | refine bel_trans ?_ (by with_reducible assumption) | (simp; done) | (simp; omega)))).mono ?_
    rintro e w1 ⟨rfl, hb⟩
    go_wp2_with fail
    go_ret
    refine ⟨?_, (by repeat (first | with_reducible exact bel_refl _ | with_reducible assumption | with_reducible refine bel_drewN ?_ _ | with_reducible refine bel_drew ?_ | with_reducible refine bel_alloc ?_ _ | with_reducible refine bel_row ?_ ?_ _ | with_reducible refine bel_set ?_ ?_ _ | refine bel_trans ?_ (by with_reducible assumption) | (simp; done) | (simp; omega)))⟩
    rw [HR.out]; rfl
  | false =>
    have HR := Lib.hid hR; clear hR
    go_enter Tryz.func187, Tryz.ntmps187
    go_wp2_with fail
    refine (HK.out _ (by repeat (first | with_reducible exact bel_refl _ | with_reducible assumption | with_reducible refine bel_drewN ?_ _ | with_reducible refine bel_drew ?_ | with_reducible refine bel_alloc ?_ _ | with_reducible refine bel_row ?_ ?_ _ | with_reducible refine bel_set ?_ ?_ _ | refine bel_trans ?_ (by with_reducible assumption) | (simp; done) | (simp; omega)))).mono ?_
    rintro e w1 ⟨rfl, hb⟩
    go_wp2_with fail
    go_ret
    refine ⟨?_, (by repeat (first | with_reducible exact bel_refl _ | with_reducible assumption | with_reducible refine bel_drewN ?_ _ | with_reducible refine bel_drew ?_ | with_reducible refine bel_alloc ?_ _ | with_reducible refine bel_row ?_ ?_ _ | with_reducible refine bel_set ?_ ?_ _ | refine bel_trans ?_ (by with_reducible assumption) | (simp; done) | (simp; omega)))⟩
    rw [HR.out]; rfl
set_option maxHeartbeats 1000000 in
theorem mkTake_of (blank s : Sol) (a : Option Addr) (n c : Nat) (K : Nat) (p : Int) (bk : Nat) (w : World) (hbk : bk < w.heap.size)
    (h0 : w.cell? ⟨bk, 0, none⟩ = some (.func (.func 185) #[] #[])) (f0 f1 f2 f3 f4 f5 f6 f7 f8 : Int) (r : Bool) (R : Value) (hR : R = if r then .iface 218 (.agg #[.int .u8 f8, .int .u64 f0, .int .u64 f1, .int .u64 f2, .int .u64 f3, .int .u64 f4, .int .u64 f5, .int .u64 f6, .int .u64 f7]) else .nilIface)
    (hk : ∀ w', Below w.heap.size w w' → Calls Tryz.prog 185 #[.agg #[.int .u64 (pl blank 0), .int .u64 (pl blank 1), .int .u64 (pl blank 2), .int .u64 (pl blank 3), .int .u64 (pl blank 4), .int .u64 (pl blank 5), .int .u64 (pl blank 6), .int .u64 (pl blank 7), .slice a n c], .agg #[.int .u8 K, .int .i64 p, .int .u64 (pl s 0), .int .u64 (pl s 1), .int .u64 (pl s 2), .int .u64 (pl s 3), .int .u64 (pl s 4), .int .u64 (pl s 5), .int .u64 (pl s 6), .int .u64 (pl s 7)]] w' fun e w'' => e = .returned (.tuple #[.agg #[.int .u8 f8, .int .u64 f0, .int .u64 f1, .int .u64 f2, .int .u64 f3, .int .u64 f4, .int .u64 f5, .int .u64 f6, .int .u64 f7], .bool r]) ∧ Below w'.heap.size w' w'') :
    Calls Tryz.prog 188 #[.agg #[.int .u64 (pl blank 0), .int .u64 (pl blank 1), .int .u64 (pl blank 2), .int .u64 (pl blank 3), .int .u64 (pl blank 4), .int .u64 (pl blank 5), .int .u64 (pl blank 6), .int .u64 (pl blank 7), .slice a n c], .agg #[.int .u8 K, .int .i64 p, .int .u64 (pl s 0), .int .u64 (pl s 1), .int .u64 (pl s 2), .int .u64 (pl s 3), .int .u64 (pl s 4), .int .u64 (pl s 5), .int .u64 (pl s 6), .int .u64 (pl s 7)], .pointer (some ⟨bk, 0, none⟩)] w fun e w' =>
      e = .returned R ∧ Below w.heap.size w w' := by
  have HK := Lib.hid hk; clear hk
  have hb1 : bk < w.heap.size + 1 := by omega
  cases r with
  | true =>
    have HR := Lib.hid hR; clear hR
    go_enter Tryz.func188, Tryz.ntmps188
    go_wp2_with fail
    refine (HK.out _ (by repeat (first | with_reducible exact bel_refl _ | with_reducible assumption | with_reducible refine bel_drewN ?_ _ | with_reducible refine bel_drew ?_ | with_reducible refine bel_alloc ?_ _ | with_reducible refine bel_row ?_ ?_ _ | with_reducible refine bel_set ?_ ?_ _ | refine bel_trans ?_ (by with_reducible assumption) | (simp; done) | (simp; omega)))).mono ?_
    rintro e w1 ⟨rfl, hb⟩
    go_wp2_with fail
    go_ret
    refine ⟨?_, (by repeat (first | with_reducible exact bel_refl _ | with_reducible assumption | with_reducible refine bel_drewN ?_ _ | with_reducible refine bel_drew ?_ | with_reducible refine bel_alloc ?_ _ | with_reducible refine bel_row ?_ ?_ _ | with_reducible refine bel_set ?_ ?_ _ | refine bel_trans ?_ (by with_reducible assumption) | (simp; done) | (simp; omega)))⟩
    rw [HR.out]; rfl
  | false =>
    have HR := Lib.hid hR; clear hR
    go_enter Tryz.func188, Tryz.ntmps188
    go_wp2_with fail
    refine (HK.out _ (by repeat (first | with_reducible exact bel_refl _ | with_reducible assumption | with_reducible refine bel_drewN ?_ _ | with_reducible refine bel_drew ?_ | with_reducible refine bel_alloc ?_ _ | with_reducible refine bel_row ?_ ?_ _ | with_reducible refine bel_set ?_ ?_ _ | refine bel_trans ?_ (by with_reducible assumption) | (simp; done) | (simp; omega)))).mono ?_
    rintro e w1 ⟨rfl, hb⟩
    go_wp2_with fail
    go_ret
    refine ⟨?_, (by repeat (first | with_reducible exact bel_refl _ | with_reducible assumption | with_reducible refine bel_drewN ?_ _ | with_reducible refine bel_drew ?_ | with_reducible refine bel_alloc ?_ _ | with_reducible refine bel_row ?_ ?_ _ | with_reducible refine bel_set ?_ ?_ _ | refine bel_trans ?_ (by with_reducible assumption) | (simp; done) | (simp; omega)))⟩
    rw [HR.out]; rfl

/-- the table of makers -/
def mkV (b : Nat) : Value := .agg #[.nilFunc, .func (.func 186) #[] #[], .func (.func 187) #[] #[.pointer (some ⟨b, 0, none⟩)], .func (.func 188) #[] #[.pointer (some ⟨b, 0, none⟩)]]
def KeptAt (b : Nat) (w : World) : Prop := b < w.heap.size ∧ w.cell? ⟨b, 0, none⟩ = some (.func (.func 185) #[] #[])
theorem KeptAt.grow {b : Nat} {w w' : World} (h : KeptAt b w) (hb : Grows w w') : KeptAt b w' := ⟨Nat.lt_of_lt_of_le h.1 (Below.size hb), (Below.cell (p := ⟨b, 0, none⟩) hb h.1).trans h.2⟩
set_option maxHeartbeats 1000000 in
theorem makers_spec (w : World) : Calls Tryz.prog 150 #[] w fun e w' => (∃ b, e = .returned (mkV b) ∧ KeptAt b w') ∧ Below w.heap.size w w' := by
  have hmf := hmf
  go_enter Tryz.func150, Tryz.ntmps150
  go_wp2
  refine bodyPost_ret (v := mkV (w.heap.size + 1)) (by simp [results, Tryz.results150, go_sem, mkV]) rfl ⟨⟨w.heap.size + 1, rfl, ?_, ?_⟩, (by repeat (first | with_reducible exact bel_refl _ | with_reducible assumption | with_reducible refine bel_drewN ?_ _ | with_reducible refine bel_drew ?_ | with_reducible refine bel_alloc ?_ _ | with_reducible refine bel_row ?_ ?_ _ | with_reducible refine bel_set ?_ ?_ _ | refine bel_trans ?_ (by with_reducible assumption) | (simp; done) | (simp; omega)))⟩
  · simp
  · simp [go_sem]
end Go.Proofs.YtccnkebkgegohaaGreatDoor
end
section
namespace Go.Proofs.YtccnkebkgegohaaGreatDoor
open Go.RowKit Go.Rel
set_option maxRecDepth 100000
def MkAt (v : Value) (w : World) : Prop := ∃ b, v = mkV b ∧ KeptAt b w
theorem MkAt.grow (v : Value) (w w' : World) (h : MkAt v w) (hb : Grows w w') : MkAt v w' := let ⟨b, h1, h2⟩ := h; ⟨b, h1, h2.grow hb⟩
def FnAt (f : Nat) (v : Value) (w : World) : Prop := ∃ b, v = .func (.func f) #[] #[.pointer (some ⟨b, 0, none⟩)] ∧ KeptAt b w
theorem FnAt.grow (f : Nat) (v : Value) (w w' : World) (h : FnAt f v w) (hb : Grows w w') : FnAt f v w' := let ⟨b, h1, h2⟩ := h; ⟨b, h1, h2.grow hb⟩
theorem idx1 (b : Nat) (w : World) : (Instr.index 180 (mkV b) (.int .u8 1)).run Tryz.prog w = .ok (.func (.func 186) #[] #[]) w := by kernel_rfl
theorem idx2 (b : Nat) (w : World) : (Instr.index 180 (mkV b) (.int .u8 2)).run Tryz.prog w = .ok (.func (.func 187) #[] #[.pointer (some ⟨b, 0, none⟩)]) w := by kernel_rfl
theorem idx3 (b : Nat) (w : World) : (Instr.index 180 (mkV b) (.int .u8 3)).run Tryz.prog w = .ok (.func (.func 188) #[] #[.pointer (some ⟨b, 0, none⟩)]) w := by kernel_rfl
set_option maxHeartbeats 1000000 in
theorem made_other (blank : Sol) (v : Value) (a : Ac) (w : World) (h : a.1 < 1 ∨ 3 < a.1) :
    Calls Tryz.prog 99 #[.agg #[.int .u64 (pl blank 0), .int .u64 (pl blank 1), .int .u64 (pl blank 2), .int .u64 (pl blank 3), .int .u64 (pl blank 4), .int .u64 (pl blank 5), .int .u64 (pl blank 6), .int .u64 (pl blank 7), v], .agg #[.int .u8 a.1, .int .i64 a.2.1, .int .u64 (pl a.2.2 0), .int .u64 (pl a.2.2 1), .int .u64 (pl a.2.2 2), .int .u64 (pl a.2.2 3), .int .u64 (pl a.2.2 4), .int .u64 (pl a.2.2 5), .int .u64 (pl a.2.2 6), .int .u64 (pl a.2.2 7)]] w fun e w' => e = .returned .nilIface ∧ Below w.heap.size w w' := by
  by_cases h1 : a.1 < 1
  · clear h
    go_enter Tryz.func99, Tryz.ntmps99
    go_wp2_with fail
    go_ret
    exact ⟨rfl, (by repeat (first | with_reducible exact bel_refl _ | with_reducible assumption | with_reducible refine bel_drewN ?_ _ | with_reducible refine bel_drew ?_ | with_reducible refine bel_alloc ?_ _ | with_reducible refine bel_row ?_ ?_ _ | with_reducible refine bel_set ?_ ?_ _ | refine bel_trans ?_ (by with_reducible assumption) | (simp; done) | (simp; omega)))⟩
  · have h3 : 3 < a.1 := by omega
    clear h
    go_enter Tryz.func99, Tryz.ntmps99
    go_wp2_with fail
    go_ret
    exact ⟨rfl, (by repeat (first | with_reducible exact bel_refl _ | with_reducible assumption | with_reducible refine bel_drewN ?_ _ | with_reducible refine bel_drew ?_ | with_reducible refine bel_alloc ?_ _ | with_reducible refine bel_row ?_ ?_ _ | with_reducible refine bel_set ?_ ?_ _ | refine bel_trans ?_ (by with_reducible assumption) | (simp; done) | (simp; omega)))⟩
set_option maxHeartbeats 1000000 in
theorem made_cut (blank : Sol) (v : Value) (p : Int) (s : Sol) (w : World) (R : Value)
    (hk : ∀ w', Below w.heap.size w w' → Calls Tryz.prog 186 #[.agg #[.int .u64 (pl blank 0), .int .u64 (pl blank 1), .int .u64 (pl blank 2), .int .u64 (pl blank 3), .int .u64 (pl blank 4), .int .u64 (pl blank 5), .int .u64 (pl blank 6), .int .u64 (pl blank 7), v], .agg #[.int .u8 1, .int .i64 p, .int .u64 (pl s 0), .int .u64 (pl s 1), .int .u64 (pl s 2), .int .u64 (pl s 3), .int .u64 (pl s 4), .int .u64 (pl s 5), .int .u64 (pl s 6), .int .u64 (pl s 7)]] w' fun e w'' => e = .returned R ∧ Below w'.heap.size w' w'') :
    Calls Tryz.prog 99 #[.agg #[.int .u64 (pl blank 0), .int .u64 (pl blank 1), .int .u64 (pl blank 2), .int .u64 (pl blank 3), .int .u64 (pl blank 4), .int .u64 (pl blank 5), .int .u64 (pl blank 6), .int .u64 (pl blank 7), v], .agg #[.int .u8 1, .int .i64 p, .int .u64 (pl s 0), .int .u64 (pl s 1), .int .u64 (pl s 2), .int .u64 (pl s 3), .int .u64 (pl s 4), .int .u64 (pl s 5), .int .u64 (pl s 6), .int .u64 (pl s 7)]] w fun e w' => e = .returned R ∧ Below w.heap.size w w' := by
  have HK := Lib.hid hk; clear hk
  go_enter Tryz.func99, Tryz.ntmps99
  go_wp2_with fail
  refine wp_region_grow 8 [MkAt, Is (.pointer (some ⟨w.heap.size + 1, 0, none⟩)), Is (.int .u8 1), Is (.func (.func 186) #[] #[]), Is (.agg #[.int .u64 (pl blank 0), .int .u64 (pl blank 1), .int .u64 (pl blank 2), .int .u64 (pl blank 3), .int .u64 (pl blank 4), .int .u64 (pl blank 5), .int .u64 (pl blank 6), .int .u64 (pl blank 7), v]), Is (.agg #[.int .u8 1, .int .i64 p, .int .u64 (pl s 0), .int .u64 (pl s 1), .int .u64 (pl s 2), .int .u64 (pl s 3), .int .u64 (pl s 4), .int .u64 (pl s 5), .int .u64 (pl s 6), .int .u64 (pl s 7)]), Is R, Is R] (by kernel_rfl) (by kernel_rfl) rfl ⟨MkAt.grow, fun _ _ _ h _ => h, fun _ _ _ h _ => h, fun _ _ _ h _ => h, fun _ _ _ h _ => h, fun _ _ _ h _ => h, fun _ _ _ h _ => h, fun _ _ _ h _ => h, trivial⟩ ?_
  simp only [List.take_succ_cons, List.take_zero, List.drop_succ_cons, List.drop_zero]
  refine rel_cons ?_ (fun v0 => ?_)
  · intro w1 hb hF
    have hc := (Grows.cells hb).1
    have hf := (Grows.cells hb).2
    try simp [facts, Is] at hF
    go_simp
    refine (makers_spec w1).mono ?_
    rintro e w2 ⟨⟨b, rfl, hk⟩, h2⟩
    exact ⟨_, rfl, h2, b, rfl, hk⟩
  refine rel_cons ?_ (fun v1 => ?_)
  · intro w1 hb hF
    have hc := (Grows.cells hb).1
    have hf := (Grows.cells hb).2
    try simp [facts, Is] at hF
    go_simp
    exact Grows.refl _
  refine rel_cons ?_ (fun v2 => ?_)
  · intro w1 hb hF
    have hc := (Grows.cells hb).1
    have hf := (Grows.cells hb).2
    try simp [facts, Is] at hF
    go_simp
    exact Grows.refl _
  refine rel_cons ?_ (fun v3 => ?_)
  · intro w1 hb hF
    have hc := (Grows.cells hb).1
    have hf := (Grows.cells hb).2
    try simp [facts, Is] at hF
    refine Exists.elim hF.1 (fun b h0 => ?_)
    have e0 := h0.1
    have e1 := hF.2
    clear hF h0
    have hi := idx1 b w1
    go_simp
    exact Grows.refl _
  refine rel_cons ?_ (fun v4 => ?_)
  · intro w1 hb hF
    have hc := (Grows.cells hb).1
    have hf := (Grows.cells hb).2
    try simp [facts, Is] at hF
    go_simp
    exact Grows.refl _
  refine rel_cons ?_ (fun v5 => ?_)
  · intro w1 hb hF
    have hc := (Grows.cells hb).1
    have hf := (Grows.cells hb).2
    try simp [facts, Is] at hF
    go_simp
    exact Grows.refl _
  refine rel_cons ?_ (fun v6 => ?_)
  · intro w1 hb hF
    have hc := (Grows.cells hb).1
    have hf := (Grows.cells hb).2
    try simp [facts, Is] at hF
    go_simp
    refine (HK.out _ (bel_trans (by repeat (first | with_reducible exact bel_refl _ | with_reducible assumption | with_reducible refine bel_drewN ?_ _ | with_reducible refine bel_drew ?_ | with_reducible refine bel_alloc ?_ _ | with_reducible refine bel_row ?_ ?_ _ | with_reducible refine bel_set ?_ ?_ _ | refine bel_trans ?_ (by with_reducible assumption) | (simp; done) | (simp; omega))) hb)).mono ?_
    rintro e w2 ⟨rfl, h2⟩
    exact ⟨rfl, h2⟩
  refine rel_cons ?_ (fun v7 => ?_)
  · intro w1 hb hF
    have hc := (Grows.cells hb).1
    have hf := (Grows.cells hb).2
    try simp [facts, Is] at hF
    go_simp
    exact Grows.refl _
  refine rel_nil ?_
  intro w1 hb hF
  simp [Is, Nat.forall_lt_succ_right] at hF
  have e0 := hF.1.1.1.1.1.1.1
  have e1 := hF.1.1.1.1.1.1.2
  have e2 := hF.1.1.1.1.1.2
  have e3 := hF.1.1.1.1.2
  have e4 := hF.1.1.1.2
  have e5 := hF.1.1.2
  have e6 := hF.1.2
  have e7 := hF.2
  clear hF
  simp only [Act.put, List.setIfInBounds_toArray, List.set_cons_succ, List.set_cons_zero, e1, e2, e3, e4, e5, e6, e7]
  clear e1 e2 e3 e4 e5 e6 e7
  clear e0
  refine wpList_nil ?_
  go_wp2_with fail
  go_ret
  exact ⟨rfl, bel_trans (by repeat (first | with_reducible exact bel_refl _ | with_reducible assumption | with_reducible refine bel_drewN ?_ _ | with_reducible refine bel_drew ?_ | with_reducible refine bel_alloc ?_ _ | with_reducible refine bel_row ?_ ?_ _ | with_reducible refine bel_set ?_ ?_ _ | refine bel_trans ?_ (by with_reducible assumption) | (simp; done) | (simp; omega))) hb⟩
set_option maxHeartbeats 1000000 in
theorem made_fit (blank : Sol) (v : Value) (p : Int) (s : Sol) (w : World) (R : Value)
    (hk : ∀ b w', KeptAt b w' → Below w.heap.size w w' → Calls Tryz.prog 187 #[.agg #[.int .u64 (pl blank 0), .int .u64 (pl blank 1), .int .u64 (pl blank 2), .int .u64 (pl blank 3), .int .u64 (pl blank 4), .int .u64 (pl blank 5), .int .u64 (pl blank 6), .int .u64 (pl blank 7), v], .agg #[.int .u8 2, .int .i64 p, .int .u64 (pl s 0), .int .u64 (pl s 1), .int .u64 (pl s 2), .int .u64 (pl s 3), .int .u64 (pl s 4), .int .u64 (pl s 5), .int .u64 (pl s 6), .int .u64 (pl s 7)], .pointer (some ⟨b, 0, none⟩)] w' fun e w'' => e = .returned R ∧ Below w'.heap.size w' w'') :
    Calls Tryz.prog 99 #[.agg #[.int .u64 (pl blank 0), .int .u64 (pl blank 1), .int .u64 (pl blank 2), .int .u64 (pl blank 3), .int .u64 (pl blank 4), .int .u64 (pl blank 5), .int .u64 (pl blank 6), .int .u64 (pl blank 7), v], .agg #[.int .u8 2, .int .i64 p, .int .u64 (pl s 0), .int .u64 (pl s 1), .int .u64 (pl s 2), .int .u64 (pl s 3), .int .u64 (pl s 4), .int .u64 (pl s 5), .int .u64 (pl s 6), .int .u64 (pl s 7)]] w fun e w' => e = .returned R ∧ Below w.heap.size w w' := by
  have HK := Lib.hid hk; clear hk
  go_enter Tryz.func99, Tryz.ntmps99
  go_wp2_with fail
  refine wp_region_grow 8 [MkAt, Is (.pointer (some ⟨w.heap.size + 1, 0, none⟩)), Is (.int .u8 2), FnAt 187, Is (.agg #[.int .u64 (pl blank 0), .int .u64 (pl blank 1), .int .u64 (pl blank 2), .int .u64 (pl blank 3), .int .u64 (pl blank 4), .int .u64 (pl blank 5), .int .u64 (pl blank 6), .int .u64 (pl blank 7), v]), Is (.agg #[.int .u8 2, .int .i64 p, .int .u64 (pl s 0), .int .u64 (pl s 1), .int .u64 (pl s 2), .int .u64 (pl s 3), .int .u64 (pl s 4), .int .u64 (pl s 5), .int .u64 (pl s 6), .int .u64 (pl s 7)]), Is R, Is R] (by kernel_rfl) (by kernel_rfl) rfl ⟨MkAt.grow, fun _ _ _ h _ => h, fun _ _ _ h _ => h, FnAt.grow 187, fun _ _ _ h _ => h, fun _ _ _ h _ => h, fun _ _ _ h _ => h, fun _ _ _ h _ => h, trivial⟩ ?_
  simp only [List.take_succ_cons, List.take_zero, List.drop_succ_cons, List.drop_zero]
  refine rel_cons ?_ (fun v0 => ?_)
  · intro w1 hb hF
    have hc := (Grows.cells hb).1
    have hf := (Grows.cells hb).2
    try simp [facts, Is] at hF
    go_simp
    refine (makers_spec w1).mono ?_
    rintro e w2 ⟨⟨b, rfl, hk⟩, h2⟩
    exact ⟨_, rfl, h2, b, rfl, hk⟩
  refine rel_cons ?_ (fun v1 => ?_)
  · intro w1 hb hF
    have hc := (Grows.cells hb).1
    have hf := (Grows.cells hb).2
    try simp [facts, Is] at hF
    go_simp
    exact Grows.refl _
  refine rel_cons ?_ (fun v2 => ?_)
  · intro w1 hb hF
    have hc := (Grows.cells hb).1
    have hf := (Grows.cells hb).2
    try simp [facts, Is] at hF
    go_simp
    exact Grows.refl _
  refine rel_cons ?_ (fun v3 => ?_)
  · intro w1 hb hF
    have hc := (Grows.cells hb).1
    have hf := (Grows.cells hb).2
    try simp [facts, Is] at hF
    refine Exists.elim hF.1 (fun b h0 => ?_)
    have e0 := h0.1
    have e1 := hF.2
    have hi := idx2 b w1
    have hk := h0.2
    clear hF h0
    go_simp
    exact ⟨Grows.refl _, b, rfl, hk⟩
  refine rel_cons ?_ (fun v4 => ?_)
  · intro w1 hb hF
    have hc := (Grows.cells hb).1
    have hf := (Grows.cells hb).2
    try simp [facts, Is] at hF
    go_simp
    exact Grows.refl _
  refine rel_cons ?_ (fun v5 => ?_)
  · intro w1 hb hF
    have hc := (Grows.cells hb).1
    have hf := (Grows.cells hb).2
    try simp [facts, Is] at hF
    go_simp
    exact Grows.refl _
  refine rel_cons ?_ (fun v6 => ?_)
  · intro w1 hb hF
    have hc := (Grows.cells hb).1
    have hf := (Grows.cells hb).2
    try simp [facts, Is] at hF
    refine Exists.elim hF.1 (fun b h0 => ?_)
    have e0 := h0.1
    have hk := h0.2
    have e1 := hF.2.1
    have e2 := hF.2.2.1
    clear hF h0
    go_simp
    refine (HK.out _ _ hk (bel_trans (by repeat (first | with_reducible exact bel_refl _ | with_reducible assumption | with_reducible refine bel_drewN ?_ _ | with_reducible refine bel_drew ?_ | with_reducible refine bel_alloc ?_ _ | with_reducible refine bel_row ?_ ?_ _ | with_reducible refine bel_set ?_ ?_ _ | refine bel_trans ?_ (by with_reducible assumption) | (simp; done) | (simp; omega))) hb)).mono ?_
    rintro e w2 ⟨rfl, h2⟩
    exact ⟨rfl, h2⟩
  refine rel_cons ?_ (fun v7 => ?_)
  · intro w1 hb hF
    have hc := (Grows.cells hb).1
    have hf := (Grows.cells hb).2
    try simp [facts, Is] at hF
    go_simp
    exact Grows.refl _
  refine rel_nil ?_
  intro w1 hb hF
  simp [Is, Nat.forall_lt_succ_right] at hF
  have e0 := hF.1.1.1.1.1.1.1
  have e1 := hF.1.1.1.1.1.1.2
  have e2 := hF.1.1.1.1.1.2
  have e3 := hF.1.1.1.1.2
  have e4 := hF.1.1.1.2
  have e5 := hF.1.1.2
  have e6 := hF.1.2
  have e7 := hF.2
  clear hF
  simp only [Act.put, List.setIfInBounds_toArray, List.set_cons_succ, List.set_cons_zero, e1, e2, e4, e5, e6, e7]
  clear e1 e2 e4 e5 e6 e7
  clear e0 e3
  refine wpList_nil ?_
  go_wp2_with fail
  go_ret
  exact ⟨rfl, bel_trans (by repeat (first | with_reducible exact bel_refl _ | with_reducible assumption | with_reducible refine bel_drewN ?_ _ | with_reducible refine bel_drew ?_ | with_reducible refine bel_alloc ?_ _ | with_reducible refine bel_row ?_ ?_ _ | with_reducible refine bel_set ?_ ?_ _ | refine bel_trans ?_ (by with_reducible assumption) | (simp; done) | (simp; omega))) hb⟩
set_option maxHeartbeats 1000000 in
theorem made_take (blank : Sol) (v : Value) (p : Int) (s : Sol) (w : World) (R : Value)
    (hk : ∀ b w', KeptAt b w' → Below w.heap.size w w' → Calls Tryz.prog 188 #[.agg #[.int .u64 (pl blank 0), .int .u64 (pl blank 1), .int .u64 (pl blank 2), .int .u64 (pl blank 3), .int .u64 (pl blank 4), .int .u64 (pl blank 5), .int .u64 (pl blank 6), .int .u64 (pl blank 7), v], .agg #[.int .u8 3, .int .i64 p, .int .u64 (pl s 0), .int .u64 (pl s 1), .int .u64 (pl s 2), .int .u64 (pl s 3), .int .u64 (pl s 4), .int .u64 (pl s 5), .int .u64 (pl s 6), .int .u64 (pl s 7)], .pointer (some ⟨b, 0, none⟩)] w' fun e w'' => e = .returned R ∧ Below w'.heap.size w' w'') :
    Calls Tryz.prog 99 #[.agg #[.int .u64 (pl blank 0), .int .u64 (pl blank 1), .int .u64 (pl blank 2), .int .u64 (pl blank 3), .int .u64 (pl blank 4), .int .u64 (pl blank 5), .int .u64 (pl blank 6), .int .u64 (pl blank 7), v], .agg #[.int .u8 3, .int .i64 p, .int .u64 (pl s 0), .int .u64 (pl s 1), .int .u64 (pl s 2), .int .u64 (pl s 3), .int .u64 (pl s 4), .int .u64 (pl s 5), .int .u64 (pl s 6), .int .u64 (pl s 7)]] w fun e w' => e = .returned R ∧ Below w.heap.size w w' := by
  have HK := Lib.hid hk; clear hk
  go_enter Tryz.func99, Tryz.ntmps99
  go_wp2_with fail
  refine wp_region_grow 8 [MkAt, Is (.pointer (some ⟨w.heap.size + 1, 0, none⟩)), Is (.int .u8 3), FnAt 188, Is (.agg #[.int .u64 (pl blank 0), .int .u64 (pl blank 1), .int .u64 (pl blank 2), .int .u64 (pl blank 3), .int .u64 (pl blank 4), .int .u64 (pl blank 5), .int .u64 (pl blank 6), .int .u64 (pl blank 7), v]), Is (.agg #[.int .u8 3, .int .i64 p, .int .u64 (pl s 0), .int .u64 (pl s 1), .int .u64 (pl s 2), .int .u64 (pl s 3), .int .u64 (pl s 4), .int .u64 (pl s 5), .int .u64 (pl s 6), .int .u64 (pl s 7)]), Is R, Is R] (by kernel_rfl) (by kernel_rfl) rfl ⟨MkAt.grow, fun _ _ _ h _ => h, fun _ _ _ h _ => h, FnAt.grow 188, fun _ _ _ h _ => h, fun _ _ _ h _ => h, fun _ _ _ h _ => h, fun _ _ _ h _ => h, trivial⟩ ?_
  simp only [List.take_succ_cons, List.take_zero, List.drop_succ_cons, List.drop_zero]
  refine rel_cons ?_ (fun v0 => ?_)
  · intro w1 hb hF
    have hc := (Grows.cells hb).1
    have hf := (Grows.cells hb).2
    try simp [facts, Is] at hF
    go_simp
    refine (makers_spec w1).mono ?_
    rintro e w2 ⟨⟨b, rfl, hk⟩, h2⟩
    exact ⟨_, rfl, h2, b, rfl, hk⟩
  refine rel_cons ?_ (fun v1 => ?_)
  · intro w1 hb hF
    have hc := (Grows.cells hb).1
    have hf := (Grows.cells hb).2
    try simp [facts, Is] at hF
    go_simp
    exact Grows.refl _
  refine rel_cons ?_ (fun v2 => ?_)
  · intro w1 hb hF
    have hc := (Grows.cells hb).1
    have hf := (Grows.cells hb).2
    try simp [facts, Is] at hF
    go_simp
    exact Grows.refl _
  refine rel_cons ?_ (fun v3 => ?_)
  · intro w1 hb hF
    have hc := (Grows.cells hb).1
    have hf := (Grows.cells hb).2
    try simp [facts, Is] at hF
    refine Exists.elim hF.1 (fun b h0 => ?_)
    have e0 := h0.1
    have e1 := hF.2
    have hi := idx3 b w1
    have hk := h0.2
    clear hF h0
    go_simp
    exact ⟨Grows.refl _, b, rfl, hk⟩
  refine rel_cons ?_ (fun v4 => ?_)
  · intro w1 hb hF
    have hc := (Grows.cells hb).1
    have hf := (Grows.cells hb).2
    try simp [facts, Is] at hF
    go_simp
    exact Grows.refl _
  refine rel_cons ?_ (fun v5 => ?_)
  · intro w1 hb hF
    have hc := (Grows.cells hb).1
    have hf := (Grows.cells hb).2
    try simp [facts, Is] at hF
    go_simp
    exact Grows.refl _
  refine rel_cons ?_ (fun v6 => ?_)
  · intro w1 hb hF
    have hc := (Grows.cells hb).1
    have hf := (Grows.cells hb).2
    try simp [facts, Is] at hF
    refine Exists.elim hF.1 (fun b h0 => ?_)
    have e0 := h0.1
    have hk := h0.2
    have e1 := hF.2.1
    have e2 := hF.2.2.1
    clear hF h0
    go_simp
    refine (HK.out _ _ hk (bel_trans (by repeat (first | with_reducible exact bel_refl _ | with_reducible assumption | with_reducible refine bel_drewN ?_ _ | with_reducible refine bel_drew ?_ | with_reducible refine bel_alloc ?_ _ | with_reducible refine bel_row ?_ ?_ _ | with_reducible refine bel_set ?_ ?_ _ | refine bel_trans ?_ (by with_reducible assumption) | (simp; done) | (simp; omega))) hb)).mono ?_
    rintro e w2 ⟨rfl, h2⟩
    exact ⟨rfl, h2⟩
  refine rel_cons ?_ (fun v7 => ?_)
  · intro w1 hb hF
    have hc := (Grows.cells hb).1
    have hf := (Grows.cells hb).2
    try simp [facts, Is] at hF
    go_simp
    exact Grows.refl _
  refine rel_nil ?_
  intro w1 hb hF
  simp [Is, Nat.forall_lt_succ_right] at hF
  have e0 := hF.1.1.1.1.1.1.1
  have e1 := hF.1.1.1.1.1.1.2
  have e2 := hF.1.1.1.1.1.2
  have e3 := hF.1.1.1.1.2
  have e4 := hF.1.1.1.2
  have e5 := hF.1.1.2
  have e6 := hF.1.2
  have e7 := hF.2
  clear hF
  simp only [Act.put, List.setIfInBounds_toArray, List.set_cons_succ, List.set_cons_zero, e1, e2, e4, e5, e6, e7]
  clear e1 e2 e4 e5 e6 e7
  clear e0 e3
  refine wpList_nil ?_
  go_wp2_with fail
  go_ret
  exact ⟨rfl, bel_trans (by repeat (first | with_reducible exact bel_refl _ | with_reducible assumption | with_reducible refine bel_drewN ?_ _ | with_reducible refine bel_drew ?_ | with_reducible refine bel_alloc ?_ _ | with_reducible refine bel_row ?_ ?_ _ | with_reducible refine bel_set ?_ ?_ _ | refine bel_trans ?_ (by with_reducible assumption) | (simp; done) | (simp; omega))) hb⟩
end Go.Proofs.YtccnkebkgegohaaGreatDoor
end
