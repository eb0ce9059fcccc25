import Derived.Test.YtccnkebkgegohaaGreatDoorHY6
import Derived.Test.YtccnkebkgegohaaGreatDoorHY8
/-
  Given contracts of functions of the program, and laws for them, one behind the other.
-/
set_option linter.unusedVariables false
set_option linter.unusedSimpArgs false
set_option linter.unusedSectionVars false
section
namespace Go.Proofs.YtccnkebkgegohaaGreatDoor
open Go.RowKit Go.Rel
set_option maxRecDepth 100000
theorem samePat_eq {b b' : Sol} {l l' : List Sol} (h : samePat b l b' l' = true) : b' = b ∧ l' = l := by
  unfold samePat at h
  simp only [Bool.and_eq_true, beq_iff_eq] at h
  exact ⟨h.1.symm, h.2.symm⟩
theorem pre_of {l : List Sol} {g h : List Ac} (p : Tra.Pre (depA l) g h) : preB l g h = true := pre_iff.2 p
theorem of_pre {l : List Sol} {g h : List Ac} (p : preB l g h = true) : Tra.Pre (depA l) g h := pre_iff.1 p
theorem bad_or {b : Sol} {l : List Sol} {m : List Ac} : Bad b l m ∨ ∃ t, Runs b l m t := by
  cases h : begunM b l m with
  | inl x => exact .inl ⟨x, h⟩
  | inr s =>
    obtain ⟨t, R, _⟩ := Runs.of h
    exact .inr ⟨t, R⟩
theorem Check_ok {b : Sol} {l : List Sol} {m : List Ac} {t : StB} (R : Runs b l m t) {v av : Value} (w : World) (Hv : SlS w v l) (Hav : SlA w av m) :
    Calls Tryz.prog 27 #[.agg #[.int .u64 (pl b 0), .int .u64 (pl b 1), .int .u64 (pl b 2), .int .u64 (pl b 3), .int .u64 (pl b 4), .int .u64 (pl b 5), .int .u64 (pl b 6), .int .u64 (pl b 7), v, av]] w fun e w' => e = .returned (.tuple #[.int .i64 0, .int .i64 0]) ∧ Below w.heap.size w w' := by
  have := Check_spec b v av l m w Hv Hav
  unfold checkR at this
  rw [R.good] at this
  exact this
theorem Check_any (b : Sol) (l : List Sol) (m : List Ac) : ∃ x y : Int, (Bad b l m → (y != 0) = true) ∧ ∀ {v av : Value} (w : World), SlS w v l → SlA w av m →
    Calls Tryz.prog 27 #[.agg #[.int .u64 (pl b 0), .int .u64 (pl b 1), .int .u64 (pl b 2), .int .u64 (pl b 3), .int .u64 (pl b 4), .int .u64 (pl b 5), .int .u64 (pl b 6), .int .u64 (pl b 7), v, av]] w fun e w' => e = .returned (.tuple #[.int .i64 x, .int .i64 y]) ∧ Below w.heap.size w w' := by
  refine ⟨_, (checkR b l m).2, fun ⟨x, hx⟩ => ?_, fun w h1 h2 => Check_spec b _ _ l m w h1 h2⟩
  unfold checkR
  rw [hx]; exact begunM_bad hx
/-- the greatest common beginning -/
theorem meets_law {l : List Sol} (g h k : List Ac) : preB l (nrm l (beyA l g h).1) g = true ∧ preB l (nrm l (beyA l g h).1) h = true ∧ (preB l k g = true → preB l k h = true → preB l k (nrm l (beyA l g h).1) = true) := by
  have B := bey_A l g h
  have e := nrm_eqv l (beyA l g h).1
  exact ⟨pre_of (B.pre1.eqv e (Tra.Eqv.refl _)), pre_of (B.pre2.eqv e (Tra.Eqv.refl _)), fun h1 h2 => pre_of ((B.great (depA_refl l) (depA_symm l) (of_pre h1) (of_pre h2)).eqv (Tra.Eqv.refl _) e)⟩
theorem TraceMeets_walk (b0 : Sol) (u0 : Value) (l0 : List Sol) (av0 : Value) (g : List Ac) (b1 : Sol) (u1 : Value) (l1 : List Sol) (av1 : Value) (h : List Ac) (b2 : Sol) (u2 : Value) (l2 : List Sol) (av2 : Value) (k : List Ac) (w : World)
    (S0 : SlS w u0 l0) (A0 : SlA w av0 g) (_ : ∀ n c, av0 = .slice none n c → c = 0) (S1 : SlS w u1 l1) (A1 : SlA w av1 h) (_ : ∀ n c, av1 = .slice none n c → c = 0) (S2 : SlS w u2 l2) (A2 : SlA w av2 k) (_ : ∀ n c, av2 = .slice none n c → c = 0) (hT : w.cell? ⟨5, 15, none⟩ = some (.int .u8 4)) :
    Calls Tryz.prog 10 #[.agg #[.int .u64 (pl b0 0), .int .u64 (pl b0 1), .int .u64 (pl b0 2), .int .u64 (pl b0 3), .int .u64 (pl b0 4), .int .u64 (pl b0 5), .int .u64 (pl b0 6), .int .u64 (pl b0 7), u0, av0], .agg #[.int .u64 (pl b1 0), .int .u64 (pl b1 1), .int .u64 (pl b1 2), .int .u64 (pl b1 3), .int .u64 (pl b1 4), .int .u64 (pl b1 5), .int .u64 (pl b1 6), .int .u64 (pl b1 7), u1, av1], .agg #[.int .u64 (pl b2 0), .int .u64 (pl b2 1), .int .u64 (pl b2 2), .int .u64 (pl b2 3), .int .u64 (pl b2 4), .int .u64 (pl b2 5), .int .u64 (pl b2 6), .int .u64 (pl b2 7), u2, av2]] w fun e w' => e = .returned (.bool true) ∧ Below w.heap.size w w' := by
  have HAL := alive_h w hT
  have T0 := S0
  have T1 := S1
  have T2 := S2
  have X0 := A0
  have X1 := A1
  have X2 := A2
  obtain ⟨p0, c0, rfl, _, _⟩ := T0
  obtain ⟨p1, c1, rfl, _, _⟩ := T1
  obtain ⟨p2, c2, rfl, _, _⟩ := T2
  obtain ⟨q0, d0, rfl, _, _⟩ := X0
  obtain ⟨q1, d1, rfl, _, _⟩ := X1
  obtain ⟨q2, d2, rfl, _, _⟩ := X2
  generalize (g.map acL).length = k0 at *
  generalize (h.map acL).length = k1 at *
  generalize (k.map acL).length = k2 at *
  generalize (l0.map solL).length = n0 at *
  generalize (l1.map solL).length = n1 at *
  generalize (l2.map solL).length = n2 at *
  cases hm : (many k0 n0 || (many k1 n1 || many k2 n2)) with
  | true => exact TraceMeets_many b0 b1 b2 p0 p1 p2 q0 q1 q2 n0 n1 n2 c0 c1 c2 k0 k1 k2 d0 d1 d2 w hm HAL
  | false =>
    have P1 := Lib.hid fun w' (hb : Below w.heap.size w w') => SamePattern_spec b0 b1 _ _ l0 l1 w' (S0.mono hb) (S1.mono hb)
    have P2 := Lib.hid fun w' (hb : Below w.heap.size w w') => SamePattern_spec b0 b2 _ _ l0 l2 w' (S0.mono hb) (S2.mono hb)
    cases e1 : samePat b0 l0 b1 l1 with
    | false => rw [e1] at P1; exact TraceMeets_other b0 b1 b2 p0 p1 p2 q0 q1 q2 n0 n1 n2 c0 c1 c2 k0 k1 k2 d0 d1 d2 w hm P1 HAL
    | true =>
      rw [e1] at P1
      cases e2 : samePat b0 l0 b2 l2 with
      | false => rw [e2] at P2; exact TraceMeets_other2 b0 b1 b2 p0 p1 p2 q0 q1 q2 n0 n1 n2 c0 c1 c2 k0 k1 k2 d0 d1 d2 w hm P1 P2 HAL
      | true =>
        rw [e2] at P2
        obtain ⟨rfl, rfl⟩ := samePat_eq e1
        obtain ⟨rfl, rfl⟩ := samePat_eq e2
        obtain ⟨x, y, hy, HC⟩ := Check_any b2 l2 k
        have H27 := Lib.hid fun w' (hb : Below w.heap.size w w') => HC w' (S2.mono hb) (A2.mono hb)
        have HS0 := Lib.hid (And.intro S0 A0)
        have HS1 := Lib.hid (And.intro S1 A1)
        have HS2 := Lib.hid (And.intro S2 A2)
        by_cases hb : Bad b2 l2 g ∨ Bad b2 l2 h
        · obtain ⟨z, hz, HT⟩ := together_bad (v := .slice p0 n0 c0) (av := .slice q0 k0 d0) (v2 := .slice p1 n1 c1) (av2 := .slice q1 k1 d1) hb
          exact TraceMeets_bad b2 p0 p1 p2 q0 q1 q2 n0 n1 n2 c0 c1 c2 k0 k1 k2 d0 d1 d2 w hm P1 P2 x y z hz
            (Lib.hid fun w' hbw => Common_err b2 b2 _ _ _ _ z hz w' (Lib.hid fun w2 hb2 => HT w2 ((S0.mono hbw).mono hb2) ((A0.mono hbw).mono hb2) ((S1.mono hbw).mono hb2) ((A1.mono hbw).mono hb2))) H27 HAL
        · obtain ⟨s, R⟩ : ∃ t, Runs b2 l2 g t := by rcases bad_or (b := b2) (l := l2) (m := g) with h1 | h1; exact absurd (.inl h1) hb; exact h1
          obtain ⟨t, R2⟩ : ∃ t, Runs b2 l2 h t := by rcases bad_or (b := b2) (l := l2) (m := h) with h1 | h1; exact absurd (.inr h1) hb; exact h1
          have HR := Lib.hid (And.intro R R2)
          rcases bad_or (b := b2) (l := l2) (m := k) with h3 | ⟨u, R3⟩
          · exact TraceMeets_bad3 (u := s) (k := k) b2 p0 p1 p2 q0 q1 q2 n0 n1 n2 c0 c1 c2 k0 k1 k2 d0 d1 d2 w hm P1 P2 HR HS0 HS1 x y (hy h3) H27 HAL
          · have H27' := Lib.hid fun w' (hb : Below w.heap.size w w') => Check_ok R3 w' (S2.mono hb) (A2.mono hb)
            obtain ⟨v, RC⟩ := R.pre (bey_A l2 g h).pre1
            have HRC := Lib.hid RC.nrm
            have HP := Lib.hid (meets_law (l := l2) g h k)
            cases x1 : preB l2 k g with
            | false => exact TraceMeets_main_a b2 p0 p1 p2 q0 q1 q2 n0 n1 n2 c0 c1 c2 k0 k1 k2 d0 d1 d2 w hm P1 P2 HR HS0 HS1 HS2 (Lib.hid R3) HRC HP (Lib.hid x1) H27' HAL
            | true =>
              cases x2 : preB l2 k h with
              | false => exact TraceMeets_main_b b2 p0 p1 p2 q0 q1 q2 n0 n1 n2 c0 c1 c2 k0 k1 k2 d0 d1 d2 w hm P1 P2 HR HS0 HS1 HS2 (Lib.hid R3) HRC HP (Lib.hid x1) (Lib.hid x2) H27' HAL
              | true => exact TraceMeets_main_c b2 p0 p1 p2 q0 q1 q2 n0 n1 n2 c0 c1 c2 k0 k1 k2 d0 d1 d2 w hm P1 P2 HR HS0 HS1 HS2 (Lib.hid R3) HRC HP (Lib.hid x1) (Lib.hid x2) H27' HAL
end Go.Proofs.YtccnkebkgegohaaGreatDoor
end
