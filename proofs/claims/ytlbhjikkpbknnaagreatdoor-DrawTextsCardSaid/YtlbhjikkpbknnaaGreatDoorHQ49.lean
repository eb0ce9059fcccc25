import Derived.Test.YtlbhjikkpbknnaaGreatDoorHQ48
import Derived.Shelf.Vars
import Derived.Stop.LaidErr
import Derived.LaidMore
import Derived.LaidLaws
/-
  Given contracts of functions of the program, and laws for them, one behind the other.
-/
set_option linter.unusedVariables false
set_option linter.unusedSimpArgs false
set_option linter.unusedSectionVars false
section
namespace Go.Proofs.YtlbhjikkpbknnaaGreatDoor
open Go.RowKit Go.Rel Go.Draw
set_option maxRecDepth 100000
/-! DrawTexts -/
def MvC (W : World) (g : Nat) (a b c : Int) : Prop := Blk W g #[.int .i64 a, .int .i64 b, .int .i64 c] 25
theorem MvC.grow {W W' : World} {g : Nat} {a b c : Int} (h : MvC W g a b c) (hb : Below W.heap.size W W') : MvC W' g a b c := Blk.grow h hb
theorem MvC.cells {W : World} {g : Nat} {a b c : Int} (h : MvC W g a b c) : W.cell? ⟨g, 0, none⟩ = some (.int .i64 a) ∧ W.cell? ⟨g, 1, none⟩ = some (.int .i64 b) ∧ W.cell? ⟨g, 2, none⟩ = some (.int .i64 c) ∧ g < W.heap.size := ⟨Blk.cell h 0, Blk.cell h 1, Blk.cell h 2, Blk.lt h⟩
set_option maxHeartbeats 32000000 in
theorem DrawTexts_walk {W : World} {a b c : Int} {s : List UInt8} (hT : Tab W) (hE : Env W) : Calls Tryz.prog 9 #[.agg #[.int .i64 a, .int .i64 b, .int .i64 c], .string ⟨s.toArray⟩] W fun e w' => e = .returned (.bool true) ∧ Below W.heap.size W w' := by
 have HC := Lib.hid fun W1 (h : Below W.heap.size W W1) => cast_spec (hT.grow h)
 by_cases hlen : 60 < s.length
 ·have hl1 : (60 : Int) < (s.length : Int) := by omega
  have hl2 : decide ((60 : Int) < (s.length : Int)) = true := decide_eq_true hl1
  have HB := Lib.hid (bel_alloc (bel_refl W) (.cells #[.int .i64 a, .int .i64 b, .int .i64 c] 25))
  clear hT hE hlen
  go_enter Tryz.func9, Tryz.ntmps9
  go_wp2_with fail
  refine (HC.out _ HB.out).mono ?_
  rintro e w4 ⟨rfl, hb4⟩
  have H4 := Lib.hid (bel_trans HB.out hb4); clear hb4
  go_wp2_with fail
  go_ret
  exact ⟨rfl, H4.out⟩
 ·have hl1 : ¬ ((60 : Int) < (s.length : Int)) := by omega
  have hl2 : decide ((60 : Int) < (s.length : Int)) = false := decide_eq_false hl1
  have hsl : s.length ≤ 1000 := by omega
  obtain ⟨T, hT1⟩ : ∃ T, T = wrI (a, b, c) := ⟨_, rfl⟩
  obtain ⟨E, hE1⟩ : ∃ E, E = wrE (a, b, c) := ⟨_, rfl⟩
  have HW := Lib.hid fun W => Write_n (w := W) a b c
  have HV := Lib.hid fun W => refWrite_n (w := W) a b c
  rw [← hT1, ← hE1] at HW HV
  have hTl : T.length ≤ 1000 := by
   rw [hT1]
   by_cases h : okW (a, b, c) = true
   ·have := wr_len h; omega
   ·unfold wrI; rw [if_neg h]; simp
  obtain ⟨R, hR⟩ : ∃ R, R = rdM s := ⟨_, rfl⟩
  have HR := Lib.hid fun W1 (h : Below W.heap.size W W1) => Read_n hsl (hE.grow h)
  have HQ := Lib.hid fun W1 => refRead_m (w := W1) hsl
  rw [← hR] at HR HQ
  have HRT := Lib.hid fun W1 (h : Below W.heap.size W W1) => Read_n hTl (hE.grow h)
  have HET : Hid (E = 0 → rdM T = some (a, b, c)) := Lib.hid fun h => by
   rw [hE1] at h
   have hok : okW (a, b, c) = true := by
    unfold wrE at h
    cases h1 : okW (a, b, c) with
    | true => rfl
    | false => rw [h1] at h; cases h
   exact rdM_of hok hT1.symm
  have HRx : Hid (∀ y, R = some y → wrE y = 0 ∧ wrI y = s) := Lib.hid fun y h => by
   rw [hR] at h
   obtain ⟨h1, h2⟩ := rdM_some h
   exact ⟨by unfold wrE; rw [if_pos h1], h2⟩
  clear hT hE hlen hsl hT1 hE1 hTl hR
  have hcases : R = none ∨ ∃ y0 y1 y2 : Int, R = some (y0, y1, y2) := by
   cases R with
   | none => exact .inl rfl
   | some y => exact .inr ⟨y.1, y.2.1, y.2.2, rfl⟩
  by_cases hE0 : E = 0
  ·subst hE0
   rcases hcases with rfl | ⟨y0, y1, y2, rfl⟩
   ·go_enter Tryz.func9, Tryz.ntmps9
    go_wp2_with fail
    obtain ⟨v1, hv1⟩ : ∃ x, x = W.alloc (.cells #[.int .i64 a, .int .i64 b, .int .i64 c] 25) := ⟨_, rfl⟩
    have hb : Below W.heap.size W v1 := by subst hv1; exact bel_alloc (bel_refl _) _
    have HP1 := Lib.hid hb
    have HM2 : Hid (MvC v1 W.heap.size a b c) := Lib.hid (by subst hv1; exact Blk.new _ _ _)
    rw [← hv1]
    clear hv1 hb
    refine (HW.out _).mono ?_
    rintro e v2 ⟨rfl, hb⟩
    have HP2 := Lib.hid (bel_trans HP1.out hb)
    replace HM2 := Lib.hid (HM2.out.grow hb)
    clear hb
    unfold bsV
    obtain ⟨c2a, c2b, c2c, c2l⟩ := HM2.out.cells
    go_wp2_with fail
    clear c2a c2b c2c c2l
    refine (HV.out _).mono ?_
    rintro e v3 ⟨rfl, hb⟩
    have HP3 := Lib.hid (bel_trans HP2.out hb)
    replace HM2 := Lib.hid (HM2.out.grow hb)
    clear hb
    unfold bsV
    go_wp2_with fail
    refine (HR.out _ HP3.out).mono ?_
    rintro e v4 ⟨rfl, hb⟩
    have HP4 := Lib.hid (bel_trans HP3.out hb)
    replace HM2 := Lib.hid (HM2.out.grow hb)
    clear hb
    rw [show rdV none = .tuple #[.agg #[.int .i64 0, .int .i64 0, .int .i64 0], .int .i64 4] from rfl]
    go_wp2_with fail
    obtain ⟨v5, hv5⟩ : ∃ x, x = v4.alloc (.cells #[.int .i64 0, .int .i64 0, .int .i64 0] 25) := ⟨_, rfl⟩
    have hb : Below v4.heap.size v4 v5 := by subst hv5; exact bel_alloc (bel_refl _) _
    have HP5 := Lib.hid (bel_trans HP4.out hb)
    have HM9 : Hid (MvC v5 v4.heap.size (0) (0) (0)) := Lib.hid (by subst hv5; exact Blk.new _ _ _)
    replace HM2 := Lib.hid (HM2.out.grow hb)
    rw [← hv5]
    obtain ⟨N9, hN9⟩ : ∃ N, N = v4.heap.size := ⟨_, rfl⟩
    rw [← hN9] at HM9 ⊢
    clear hv5 hb hN9
    refine (HQ.out _).mono ?_
    rintro e v6 ⟨rfl, hb⟩
    have HP6 := Lib.hid (bel_trans HP5.out hb)
    replace HM2 := Lib.hid (HM2.out.grow hb)
    replace HM9 := Lib.hid (HM9.out.grow hb)
    clear hb
    rw [show rdV none = .tuple #[.agg #[.int .i64 0, .int .i64 0, .int .i64 0], .int .i64 4] from rfl]
    obtain ⟨v7, hv7⟩ : ∃ x, x = v6.alloc (.cells #[.int .i64 0, .int .i64 0, .int .i64 0] 25) := ⟨_, rfl⟩
    have hb : Below v6.heap.size v6 v7 := by subst hv7; exact bel_alloc (bel_refl _) _
    have hq9 : ∀ o p, p < 3 → (v6.alloc o).cell? ⟨N9, p, none⟩ = v6.cell? ⟨N9, p, none⟩ := fun o p _ => (bel_alloc (bel_refl v6) o).cell (p := ⟨N9, p, none⟩) HM9.out.cells.2.2.2
    obtain ⟨c9a, c9b, c9c, c9l⟩ := HM9.out.cells
    have q9a := fun o => (hq9 o 0 (by decide)).trans c9a
    have q9b := fun o => (hq9 o 1 (by decide)).trans c9b
    have q9c := fun o => (hq9 o 2 (by decide)).trans c9c
    clear hq9
    have HP7 := Lib.hid (bel_trans HP6.out hb)
    replace HM2 := Lib.hid (HM2.out.grow hb)
    replace HM9 := Lib.hid (HM9.out.grow hb)
    go_wp2_with fail
    clear q9a q9b q9c c9a c9b c9c c9l
    rw [← hv7]
    clear hv7 hb
    refine (HRT.out _ HP7.out).mono ?_
    rintro e v8 ⟨rfl, hb⟩
    have HP8 := Lib.hid (bel_trans HP7.out hb)
    replace HM2 := Lib.hid (HM2.out.grow hb)
    replace HM9 := Lib.hid (HM9.out.grow hb)
    clear hb
    rw [HET.out (by first | rfl | trivial), show rdV (some (a, b, c)) = .tuple #[.agg #[.int .i64 a, .int .i64 b, .int .i64 c], .int .i64 0] from rfl]
    obtain ⟨v9, hv9⟩ : ∃ x, x = v8.alloc (.cells #[.int .i64 a, .int .i64 b, .int .i64 c] 25) := ⟨_, rfl⟩
    have hb : Below v8.heap.size v8 v9 := by subst hv9; exact bel_alloc (bel_refl _) _
    have hq2 : ∀ o p, p < 3 → (v8.alloc o).cell? ⟨W.heap.size, p, none⟩ = v8.cell? ⟨W.heap.size, p, none⟩ := fun o p _ => (bel_alloc (bel_refl v8) o).cell (p := ⟨W.heap.size, p, none⟩) HM2.out.cells.2.2.2
    obtain ⟨c2a, c2b, c2c, c2l⟩ := HM2.out.cells
    have q2a := fun o => (hq2 o 0 (by decide)).trans c2a
    have q2b := fun o => (hq2 o 1 (by decide)).trans c2b
    have q2c := fun o => (hq2 o 2 (by decide)).trans c2c
    clear hq2
    have HP9 := Lib.hid (bel_trans HP8.out hb)
    replace HM2 := Lib.hid (HM2.out.grow hb)
    replace HM9 := Lib.hid (HM9.out.grow hb)
    go_wp2_with fail
    clear q2a q2b q2c c2a c2b c2c c2l
    rw [← hv9]
    clear hv9 hb
    refine (HC.out _ HP9.out).mono ?_
    rintro e v10 ⟨rfl, hb⟩
    have HP10 := Lib.hid (bel_trans HP9.out hb)
    replace HM2 := Lib.hid (HM2.out.grow hb)
    replace HM9 := Lib.hid (HM9.out.grow hb)
    clear hb
    go_wp2_with fail
    go_ret
    exact ⟨rfl, HP10.out⟩
   ·go_enter Tryz.func9, Tryz.ntmps9
    go_wp2_with fail
    obtain ⟨v1, hv1⟩ : ∃ x, x = W.alloc (.cells #[.int .i64 a, .int .i64 b, .int .i64 c] 25) := ⟨_, rfl⟩
    have hb : Below W.heap.size W v1 := by subst hv1; exact bel_alloc (bel_refl _) _
    have HP1 := Lib.hid hb
    have HM2 : Hid (MvC v1 W.heap.size a b c) := Lib.hid (by subst hv1; exact Blk.new _ _ _)
    rw [← hv1]
    clear hv1 hb
    refine (HW.out _).mono ?_
    rintro e v2 ⟨rfl, hb⟩
    have HP2 := Lib.hid (bel_trans HP1.out hb)
    replace HM2 := Lib.hid (HM2.out.grow hb)
    clear hb
    unfold bsV
    obtain ⟨c2a, c2b, c2c, c2l⟩ := HM2.out.cells
    go_wp2_with fail
    clear c2a c2b c2c c2l
    refine (HV.out _).mono ?_
    rintro e v3 ⟨rfl, hb⟩
    have HP3 := Lib.hid (bel_trans HP2.out hb)
    replace HM2 := Lib.hid (HM2.out.grow hb)
    clear hb
    unfold bsV
    go_wp2_with fail
    refine (HR.out _ HP3.out).mono ?_
    rintro e v4 ⟨rfl, hb⟩
    have HP4 := Lib.hid (bel_trans HP3.out hb)
    replace HM2 := Lib.hid (HM2.out.grow hb)
    clear hb
    rw [show rdV (some (y0, y1, y2)) = .tuple #[.agg #[.int .i64 y0, .int .i64 y1, .int .i64 y2], .int .i64 0] from rfl]
    go_wp2_with fail
    obtain ⟨v5, hv5⟩ : ∃ x, x = v4.alloc (.cells #[.int .i64 y0, .int .i64 y1, .int .i64 y2] 25) := ⟨_, rfl⟩
    have hb : Below v4.heap.size v4 v5 := by subst hv5; exact bel_alloc (bel_refl _) _
    have HP5 := Lib.hid (bel_trans HP4.out hb)
    have HM9 : Hid (MvC v5 v4.heap.size (y0) (y1) (y2)) := Lib.hid (by subst hv5; exact Blk.new _ _ _)
    replace HM2 := Lib.hid (HM2.out.grow hb)
    rw [← hv5]
    obtain ⟨N9, hN9⟩ : ∃ N, N = v4.heap.size := ⟨_, rfl⟩
    rw [← hN9] at HM9 ⊢
    clear hv5 hb hN9
    refine (HQ.out _).mono ?_
    rintro e v6 ⟨rfl, hb⟩
    have HP6 := Lib.hid (bel_trans HP5.out hb)
    replace HM2 := Lib.hid (HM2.out.grow hb)
    replace HM9 := Lib.hid (HM9.out.grow hb)
    clear hb
    rw [show rdV (some (y0, y1, y2)) = .tuple #[.agg #[.int .i64 y0, .int .i64 y1, .int .i64 y2], .int .i64 0] from rfl]
    obtain ⟨v7, hv7⟩ : ∃ x, x = v6.alloc (.cells #[.int .i64 y0, .int .i64 y1, .int .i64 y2] 25) := ⟨_, rfl⟩
    have hb : Below v6.heap.size v6 v7 := by subst hv7; exact bel_alloc (bel_refl _) _
    have hq9 : ∀ o p, p < 3 → (v6.alloc o).cell? ⟨N9, p, none⟩ = v6.cell? ⟨N9, p, none⟩ := fun o p _ => (bel_alloc (bel_refl v6) o).cell (p := ⟨N9, p, none⟩) HM9.out.cells.2.2.2
    obtain ⟨c9a, c9b, c9c, c9l⟩ := HM9.out.cells
    have q9a := fun o => (hq9 o 0 (by decide)).trans c9a
    have q9b := fun o => (hq9 o 1 (by decide)).trans c9b
    have q9c := fun o => (hq9 o 2 (by decide)).trans c9c
    clear hq9
    have HP7 := Lib.hid (bel_trans HP6.out hb)
    replace HM2 := Lib.hid (HM2.out.grow hb)
    replace HM9 := Lib.hid (HM9.out.grow hb)
    go_wp2_with fail
    clear q9a q9b q9c c9a c9b c9c c9l
    rw [← hv7]
    clear hv7 hb
    refine (HRT.out _ HP7.out).mono ?_
    rintro e v8 ⟨rfl, hb⟩
    have HP8 := Lib.hid (bel_trans HP7.out hb)
    replace HM2 := Lib.hid (HM2.out.grow hb)
    replace HM9 := Lib.hid (HM9.out.grow hb)
    clear hb
    rw [HET.out (by first | rfl | trivial), show rdV (some (a, b, c)) = .tuple #[.agg #[.int .i64 a, .int .i64 b, .int .i64 c], .int .i64 0] from rfl]
    obtain ⟨v9, hv9⟩ : ∃ x, x = v8.alloc (.cells #[.int .i64 a, .int .i64 b, .int .i64 c] 25) := ⟨_, rfl⟩
    have hb : Below v8.heap.size v8 v9 := by subst hv9; exact bel_alloc (bel_refl _) _
    have hq2 : ∀ o p, p < 3 → (v8.alloc o).cell? ⟨W.heap.size, p, none⟩ = v8.cell? ⟨W.heap.size, p, none⟩ := fun o p _ => (bel_alloc (bel_refl v8) o).cell (p := ⟨W.heap.size, p, none⟩) HM2.out.cells.2.2.2
    obtain ⟨c2a, c2b, c2c, c2l⟩ := HM2.out.cells
    have q2a := fun o => (hq2 o 0 (by decide)).trans c2a
    have q2b := fun o => (hq2 o 1 (by decide)).trans c2b
    have q2c := fun o => (hq2 o 2 (by decide)).trans c2c
    clear hq2
    have hq9 : ∀ o p, p < 3 → (v8.alloc o).cell? ⟨N9, p, none⟩ = v8.cell? ⟨N9, p, none⟩ := fun o p _ => (bel_alloc (bel_refl v8) o).cell (p := ⟨N9, p, none⟩) HM9.out.cells.2.2.2
    obtain ⟨c9a, c9b, c9c, c9l⟩ := HM9.out.cells
    have q9a := fun o => (hq9 o 0 (by decide)).trans c9a
    have q9b := fun o => (hq9 o 1 (by decide)).trans c9b
    have q9c := fun o => (hq9 o 2 (by decide)).trans c9c
    clear hq9
    have HP9 := Lib.hid (bel_trans HP8.out hb)
    replace HM2 := Lib.hid (HM2.out.grow hb)
    replace HM9 := Lib.hid (HM9.out.grow hb)
    go_wp2_with fail
    clear q2a q2b q2c c2a c2b c2c c2l
    clear q9a q9b q9c c9a c9b c9c c9l
    rw [← hv9]
    clear hv9 hb
    have hy := HRx.out _ rfl
    have HWy := Lib.hid fun W => Write_n (w := W) y0 y1 y2
    rw [hy.1, hy.2] at HWy
    clear hy
    refine (HWy.out _).mono ?_
    rintro e v10 ⟨rfl, hb⟩
    have HP10 := Lib.hid (bel_trans HP9.out hb)
    replace HM2 := Lib.hid (HM2.out.grow hb)
    replace HM9 := Lib.hid (HM9.out.grow hb)
    clear hb
    unfold bsV
    go_wp2_with fail
    refine (HC.out _ HP10.out).mono ?_
    rintro e v11 ⟨rfl, hb⟩
    have HP11 := Lib.hid (bel_trans HP10.out hb)
    replace HM2 := Lib.hid (HM2.out.grow hb)
    replace HM9 := Lib.hid (HM9.out.grow hb)
    clear hb
    go_wp2_with fail
    go_ret
    exact ⟨rfl, HP11.out⟩
  ·have hE1 : ¬ (E = 0) := hE0
   rcases hcases with rfl | ⟨y0, y1, y2, rfl⟩
   ·go_enter Tryz.func9, Tryz.ntmps9
    go_wp2_with fail
    obtain ⟨v1, hv1⟩ : ∃ x, x = W.alloc (.cells #[.int .i64 a, .int .i64 b, .int .i64 c] 25) := ⟨_, rfl⟩
    have hb : Below W.heap.size W v1 := by subst hv1; exact bel_alloc (bel_refl _) _
    have HP1 := Lib.hid hb
    have HM2 : Hid (MvC v1 W.heap.size a b c) := Lib.hid (by subst hv1; exact Blk.new _ _ _)
    rw [← hv1]
    clear hv1 hb
    refine (HW.out _).mono ?_
    rintro e v2 ⟨rfl, hb⟩
    have HP2 := Lib.hid (bel_trans HP1.out hb)
    replace HM2 := Lib.hid (HM2.out.grow hb)
    clear hb
    unfold bsV
    obtain ⟨c2a, c2b, c2c, c2l⟩ := HM2.out.cells
    go_wp2_with fail
    clear c2a c2b c2c c2l
    refine (HV.out _).mono ?_
    rintro e v3 ⟨rfl, hb⟩
    have HP3 := Lib.hid (bel_trans HP2.out hb)
    replace HM2 := Lib.hid (HM2.out.grow hb)
    clear hb
    unfold bsV
    go_wp2_with fail
    refine (HR.out _ HP3.out).mono ?_
    rintro e v4 ⟨rfl, hb⟩
    have HP4 := Lib.hid (bel_trans HP3.out hb)
    replace HM2 := Lib.hid (HM2.out.grow hb)
    clear hb
    rw [show rdV none = .tuple #[.agg #[.int .i64 0, .int .i64 0, .int .i64 0], .int .i64 4] from rfl]
    go_wp2_with fail
    obtain ⟨v5, hv5⟩ : ∃ x, x = v4.alloc (.cells #[.int .i64 0, .int .i64 0, .int .i64 0] 25) := ⟨_, rfl⟩
    have hb : Below v4.heap.size v4 v5 := by subst hv5; exact bel_alloc (bel_refl _) _
    have HP5 := Lib.hid (bel_trans HP4.out hb)
    have HM9 : Hid (MvC v5 v4.heap.size (0) (0) (0)) := Lib.hid (by subst hv5; exact Blk.new _ _ _)
    replace HM2 := Lib.hid (HM2.out.grow hb)
    rw [← hv5]
    obtain ⟨N9, hN9⟩ : ∃ N, N = v4.heap.size := ⟨_, rfl⟩
    rw [← hN9] at HM9 ⊢
    clear hv5 hb hN9
    refine (HQ.out _).mono ?_
    rintro e v6 ⟨rfl, hb⟩
    have HP6 := Lib.hid (bel_trans HP5.out hb)
    replace HM2 := Lib.hid (HM2.out.grow hb)
    replace HM9 := Lib.hid (HM9.out.grow hb)
    clear hb
    rw [show rdV none = .tuple #[.agg #[.int .i64 0, .int .i64 0, .int .i64 0], .int .i64 4] from rfl]
    obtain ⟨v7, hv7⟩ : ∃ x, x = v6.alloc (.cells #[.int .i64 0, .int .i64 0, .int .i64 0] 25) := ⟨_, rfl⟩
    have hb : Below v6.heap.size v6 v7 := by subst hv7; exact bel_alloc (bel_refl _) _
    have hq9 : ∀ o p, p < 3 → (v6.alloc o).cell? ⟨N9, p, none⟩ = v6.cell? ⟨N9, p, none⟩ := fun o p _ => (bel_alloc (bel_refl v6) o).cell (p := ⟨N9, p, none⟩) HM9.out.cells.2.2.2
    obtain ⟨c9a, c9b, c9c, c9l⟩ := HM9.out.cells
    have q9a := fun o => (hq9 o 0 (by decide)).trans c9a
    have q9b := fun o => (hq9 o 1 (by decide)).trans c9b
    have q9c := fun o => (hq9 o 2 (by decide)).trans c9c
    clear hq9
    have HP7 := Lib.hid (bel_trans HP6.out hb)
    replace HM2 := Lib.hid (HM2.out.grow hb)
    replace HM9 := Lib.hid (HM9.out.grow hb)
    go_wp2_with fail
    clear q9a q9b q9c c9a c9b c9c c9l
    rw [← hv7]
    clear hv7 hb
    refine (HC.out _ HP7.out).mono ?_
    rintro e v8 ⟨rfl, hb⟩
    have HP8 := Lib.hid (bel_trans HP7.out hb)
    replace HM2 := Lib.hid (HM2.out.grow hb)
    replace HM9 := Lib.hid (HM9.out.grow hb)
    clear hb
    go_wp2_with fail
    go_ret
    exact ⟨rfl, HP8.out⟩
   ·go_enter Tryz.func9, Tryz.ntmps9
    go_wp2_with fail
    obtain ⟨v1, hv1⟩ : ∃ x, x = W.alloc (.cells #[.int .i64 a, .int .i64 b, .int .i64 c] 25) := ⟨_, rfl⟩
    have hb : Below W.heap.size W v1 := by subst hv1; exact bel_alloc (bel_refl _) _
    have HP1 := Lib.hid hb
    have HM2 : Hid (MvC v1 W.heap.size a b c) := Lib.hid (by subst hv1; exact Blk.new _ _ _)
    rw [← hv1]
    clear hv1 hb
    refine (HW.out _).mono ?_
    rintro e v2 ⟨rfl, hb⟩
    have HP2 := Lib.hid (bel_trans HP1.out hb)
    replace HM2 := Lib.hid (HM2.out.grow hb)
    clear hb
    unfold bsV
    obtain ⟨c2a, c2b, c2c, c2l⟩ := HM2.out.cells
    go_wp2_with fail
    clear c2a c2b c2c c2l
    refine (HV.out _).mono ?_
    rintro e v3 ⟨rfl, hb⟩
    have HP3 := Lib.hid (bel_trans HP2.out hb)
    replace HM2 := Lib.hid (HM2.out.grow hb)
    clear hb
    unfold bsV
    go_wp2_with fail
    refine (HR.out _ HP3.out).mono ?_
    rintro e v4 ⟨rfl, hb⟩
    have HP4 := Lib.hid (bel_trans HP3.out hb)
    replace HM2 := Lib.hid (HM2.out.grow hb)
    clear hb
    rw [show rdV (some (y0, y1, y2)) = .tuple #[.agg #[.int .i64 y0, .int .i64 y1, .int .i64 y2], .int .i64 0] from rfl]
    go_wp2_with fail
    obtain ⟨v5, hv5⟩ : ∃ x, x = v4.alloc (.cells #[.int .i64 y0, .int .i64 y1, .int .i64 y2] 25) := ⟨_, rfl⟩
    have hb : Below v4.heap.size v4 v5 := by subst hv5; exact bel_alloc (bel_refl _) _
    have HP5 := Lib.hid (bel_trans HP4.out hb)
    have HM9 : Hid (MvC v5 v4.heap.size (y0) (y1) (y2)) := Lib.hid (by subst hv5; exact Blk.new _ _ _)
    replace HM2 := Lib.hid (HM2.out.grow hb)
    rw [← hv5]
    obtain ⟨N9, hN9⟩ : ∃ N, N = v4.heap.size := ⟨_, rfl⟩
    rw [← hN9] at HM9 ⊢
    clear hv5 hb hN9
    refine (HQ.out _).mono ?_
    rintro e v6 ⟨rfl, hb⟩
    have HP6 := Lib.hid (bel_trans HP5.out hb)
    replace HM2 := Lib.hid (HM2.out.grow hb)
    replace HM9 := Lib.hid (HM9.out.grow hb)
    clear hb
    rw [show rdV (some (y0, y1, y2)) = .tuple #[.agg #[.int .i64 y0, .int .i64 y1, .int .i64 y2], .int .i64 0] from rfl]
    obtain ⟨v7, hv7⟩ : ∃ x, x = v6.alloc (.cells #[.int .i64 y0, .int .i64 y1, .int .i64 y2] 25) := ⟨_, rfl⟩
    have hb : Below v6.heap.size v6 v7 := by subst hv7; exact bel_alloc (bel_refl _) _
    have hq9 : ∀ o p, p < 3 → (v6.alloc o).cell? ⟨N9, p, none⟩ = v6.cell? ⟨N9, p, none⟩ := fun o p _ => (bel_alloc (bel_refl v6) o).cell (p := ⟨N9, p, none⟩) HM9.out.cells.2.2.2
    obtain ⟨c9a, c9b, c9c, c9l⟩ := HM9.out.cells
    have q9a := fun o => (hq9 o 0 (by decide)).trans c9a
    have q9b := fun o => (hq9 o 1 (by decide)).trans c9b
    have q9c := fun o => (hq9 o 2 (by decide)).trans c9c
    clear hq9
    have HP7 := Lib.hid (bel_trans HP6.out hb)
    replace HM2 := Lib.hid (HM2.out.grow hb)
    replace HM9 := Lib.hid (HM9.out.grow hb)
    go_wp2_with fail
    clear q9a q9b q9c c9a c9b c9c c9l
    rw [← hv7]
    clear hv7 hb
    have hy := HRx.out _ rfl
    have HWy := Lib.hid fun W => Write_n (w := W) y0 y1 y2
    rw [hy.1, hy.2] at HWy
    clear hy
    refine (HWy.out _).mono ?_
    rintro e v8 ⟨rfl, hb⟩
    have HP8 := Lib.hid (bel_trans HP7.out hb)
    replace HM2 := Lib.hid (HM2.out.grow hb)
    replace HM9 := Lib.hid (HM9.out.grow hb)
    clear hb
    unfold bsV
    go_wp2_with fail
    refine (HC.out _ HP8.out).mono ?_
    rintro e v9 ⟨rfl, hb⟩
    have HP9 := Lib.hid (bel_trans HP8.out hb)
    replace HM2 := Lib.hid (HM2.out.grow hb)
    replace HM9 := Lib.hid (HM9.out.grow hb)
    clear hb
    go_wp2_with fail
    go_ret
    exact ⟨rfl, HP9.out⟩
end Go.Proofs.YtlbhjikkpbknnaaGreatDoor
end
section
namespace Go.Proofs.YtlbhjikkpbknnaaGreatDoor
open Go.ChangeShapes Go.WideShapes Go.ChangeAt Go.RowKit Go.Draw
set_option maxRecDepth 100000
/-! what DrawTexts wants of the world -/
theorem star_es : "*" ++ "errors.errorString" = "*errors.errorString" := by decide
theorem row_es (u : TypeId) (h : Tryz.prog.typeName? 3 u = some "*errors.errorString") : u = 240 :=
 typeName_ptr_named (nm := "errors.errorString") (by rw [star_es]; kernel_rfl) (by kernel_rfl) (by decide) u (by rw [star_es]; exact h)
theorem cells_es : Tryz.prog.cellsOf 242 = 1 := by kernel_rfl
theorem cells_str : Tryz.prog.cellsOf 9 = 1 := by kernel_rfl
theorem gSy : Tryz.prog.globalNamed "strconv.ErrSyntax" = some 2 := by kernel_rfl
theorem gRg : Tryz.prog.globalNamed "strconv.ErrRange" = some 3 := by kernel_rfl
theorem gSyT : (Tryz.prog.globals[2]?).map (·.type) = some 151 := by kernel_rfl
theorem gRgT : (Tryz.prog.globals[3]?).map (·.type) = some 151 := by kernel_rfl
theorem maxLen_cell {W : World} (h : W.ShapedOpen Tryz.prog) : ∃ m, W.cell? ⟨5, 0, none⟩ = some (.int .i64 m) :=
 Go.Proofs.cell_of_shapedOpen_int (zero := #[.int .i64 0]) (t := 3) h (of_decide_eq_true (by kernel_rfl)) (by kernel_rfl) rfl (by kernel_rfl) (by kernel_rfl) Tryz.underlying3
abbrev LAID7 : List (String × DataW Unit) := Rows.drawTextsRow.laid
theorem env_of {W : World} (hL : laidMetH Tryz.prog Rows.drawTextsRow.laid W) (hS : W.ShapedOpen Tryz.prog) : Env W := by
 refine ⟨maxLen_cell hS, ?_, ?_⟩
 ·have h1 := hL.filter (fun x => x.1 == "strconv.ErrSyntax")
  have h2 : laidMet Tryz.prog [("strconv.ErrSyntax", Rows.laid_strconv_ErrSyntax)] W := h1
  obtain ⟨a, s, hv, _⟩ := laid_sentinel h2 gSy gSyT Tryz.underlying151 row_es Tryz.underlying240 Tryz.underlying242 rfl rfl Tryz.underlying9 cells_es cells_str
  exact ⟨_, _, by simpa using World.var?_cell gSy hv 0⟩
 ·have h1 := hL.filter (fun x => x.1 == "strconv.ErrRange")
  have h2 : laidMet Tryz.prog [("strconv.ErrRange", Rows.laid_strconv_ErrRange)] W := h1
  obtain ⟨a, s, hv, _⟩ := laid_sentinel h2 gRg gRgT Tryz.underlying151 row_es Tryz.underlying240 Tryz.underlying242 rfl rfl Tryz.underlying9 cells_es cells_str
  exact ⟨_, _, by simpa using World.var?_cell gRg hv 0⟩
theorem table7 {W : World} (h : laidMetH Tryz.prog Rows.drawTextsRow.laid W) : Tab W := by
 have h1 : laidMetH Tryz.prog LAID W := h.filter (fun x => x.1 == "math/bits.deBruijn32tab" || x.1 == "math/bits.deBruijn64tab")
 exact table h1
def litCells : DataW Unit → Array Value
 | .agg parts => (parts.map fun
  | .lit (.int k n) => Value.int k n
  | _ => undef).toArray
 | _ => #[]
noncomputable def laidWorld7 (os : Os) : World :=
 let w0 := World.doorLaid Tryz.prog 72 os
 { w0 with heap := w0.heap.modify 6 fun
   | .cells _ t frozen => .cells (litCells Go.Pinned.utf8First) t frozen
   | o => o }
theorem laid_met7 (os : Os) (args : Array Value) : laidMetH Tryz.prog Rows.drawTextsRow.laid ((laidWorld7 os).forCall (fun _ _ => 0) ⟨#[], args, []⟩).memory :=
 (show laidMet Tryz.prog Rows.drawTextsRow.laid _ from laidMet_of_run' 80 (by kernel_rfl) (by kernel_rfl))
end Go.Proofs.YtlbhjikkpbknnaaGreatDoor
end
