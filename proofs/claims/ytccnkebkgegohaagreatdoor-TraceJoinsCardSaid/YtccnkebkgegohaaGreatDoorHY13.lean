import Derived.Test.YtccnkebkgegohaaGreatDoorHY13a
import Derived.Test.YtccnkebkgegohaaGreatDoorHY12
/-
  Given contracts of functions of the program, and laws for them, one behind the other.
-/
set_option linter.unusedVariables false
set_option linter.unusedSimpArgs false
set_option linter.unusedSectionVars false
section
namespace Go.Proofs.YtccnkebkgegohaaGreatDoor
open Go.RowKit Go.Rel
set_option maxRecDepth 100000
theorem TraceJoins_walk (b0 : Sol) (u0 : Value) (l0 : List Sol) (av0 : Value) (g : List Ac) (b1 : Sol) (u1 : Value) (l1 : List Sol) (av1 : Value) (h : List Ac) (b2 : Sol) (u2 : Value) (l2 : List Sol) (av2 : Value) (k : List Ac) (w : World)
    (S0 : SlS w u0 l0) (A0 : SlA w av0 g) (_ : ∀ n c, av0 = .slice none n c → c = 0) (S1 : SlS w u1 l1) (A1 : SlA w av1 h) (_ : ∀ n c, av1 = .slice none n c → c = 0) (S2 : SlS w u2 l2) (A2 : SlA w av2 k) (_ : ∀ n c, av2 = .slice none n c → c = 0) (hT : w.cell? ⟨5, 15, none⟩ = some (.int .u8 4)) :
    Calls Tryz.prog 12 #[.agg #[.int .u64 (pl b0 0), .int .u64 (pl b0 1), .int .u64 (pl b0 2), .int .u64 (pl b0 3), .int .u64 (pl b0 4), .int .u64 (pl b0 5), .int .u64 (pl b0 6), .int .u64 (pl b0 7), u0, av0], .agg #[.int .u64 (pl b1 0), .int .u64 (pl b1 1), .int .u64 (pl b1 2), .int .u64 (pl b1 3), .int .u64 (pl b1 4), .int .u64 (pl b1 5), .int .u64 (pl b1 6), .int .u64 (pl b1 7), u1, av1], .agg #[.int .u64 (pl b2 0), .int .u64 (pl b2 1), .int .u64 (pl b2 2), .int .u64 (pl b2 3), .int .u64 (pl b2 4), .int .u64 (pl b2 5), .int .u64 (pl b2 6), .int .u64 (pl b2 7), u2, av2]] w fun e w' => e = .returned (.bool true) ∧ Below w.heap.size w w' := by
  have HAL := alive_h w hT
  have T0 := S0
  have T1 := S1
  have T2 := S2
  have X0 := A0
  have X1 := A1
  have X2 := A2
  obtain ⟨p0, c0, rfl, _, _⟩ := T0
  obtain ⟨p1, c1, rfl, _, _⟩ := T1
  obtain ⟨p2, c2, rfl, _, _⟩ := T2
  obtain ⟨q0, d0, rfl, _, _⟩ := X0
  obtain ⟨q1, d1, rfl, _, _⟩ := X1
  obtain ⟨q2, d2, rfl, _, _⟩ := X2
  have hk0 : (g.map acL).length = g.length := List.length_map ..
  have hk1 : (h.map acL).length = h.length := List.length_map ..
  generalize (g.map acL).length = k0 at *
  generalize (h.map acL).length = k1 at *
  generalize (k.map acL).length = k2 at *
  generalize (l0.map solL).length = n0 at *
  generalize (l1.map solL).length = n1 at *
  generalize (l2.map solL).length = n2 at *
  cases hm : (many k0 n0 || (many k1 n1 || many k2 n2)) with
  | true => exact TraceJoins_many b0 b1 b2 p0 p1 p2 q0 q1 q2 n0 n1 n2 c0 c1 c2 k0 k1 k2 d0 d1 d2 w hm HAL
  | false =>
    have hm3 := many3 hm
    have P1 := Lib.hid fun w' (hb : Below w.heap.size w w') => SamePattern_spec b0 b1 _ _ l0 l1 w' (S0.mono hb) (S1.mono hb)
    have P2 := Lib.hid fun w' (hb : Below w.heap.size w w') => SamePattern_spec b0 b2 _ _ l0 l2 w' (S0.mono hb) (S2.mono hb)
    cases e1 : samePat b0 l0 b1 l1 with
    | false => rw [e1] at P1; exact TraceJoins_other b0 b1 b2 p0 p1 p2 q0 q1 q2 n0 n1 n2 c0 c1 c2 k0 k1 k2 d0 d1 d2 w hm P1 HAL
    | true =>
      rw [e1] at P1
      cases e2 : samePat b0 l0 b2 l2 with
      | false => rw [e2] at P2; exact TraceJoins_other2 b0 b1 b2 p0 p1 p2 q0 q1 q2 n0 n1 n2 c0 c1 c2 k0 k1 k2 d0 d1 d2 w hm P1 P2 HAL
      | true =>
        rw [e2] at P2
        obtain ⟨rfl, rfl⟩ := samePat_eq e1
        obtain ⟨rfl, rfl⟩ := samePat_eq e2
        obtain ⟨x, y, hy, HC⟩ := Check_any b2 l2 k
        have H27 := Lib.hid fun w' (hb : Below w.heap.size w w') => HC w' (S2.mono hb) (A2.mono hb)
        have HS0 := Lib.hid (And.intro S0 A0)
        have HS1 := Lib.hid (And.intro S1 A1)
        have HS2 := Lib.hid (And.intro S2 A2)
        by_cases hb : Bad b2 l2 g ∨ Bad b2 l2 h
        · obtain ⟨z, hz, HT⟩ := together_bad (v := .slice p0 n0 c0) (av := .slice q0 k0 d0) (v2 := .slice p1 n1 c1) (av2 := .slice q1 k1 d1) hb
          obtain ⟨z2, _, HM⟩ := Merge_err hb
          exact TraceJoins_bad b2 p0 p1 p2 q0 q1 q2 n0 n1 n2 c0 c1 c2 k0 k1 k2 d0 d1 d2 w hm P1 P2 x y z hz
            (Lib.hid fun w' hbw => Conflict_err b2 b2 _ _ _ _ z hz w' (Lib.hid fun w2 hb2 => HT w2 ((S0.mono hbw).mono hb2) ((A0.mono hbw).mono hb2) ((S1.mono hbw).mono hb2) ((A1.mono hbw).mono hb2)))
            (Lib.hid fun w' hbw => hres_any (HM w' (S0.mono hbw) (A0.mono hbw) (S1.mono hbw) (A1.mono hbw))) H27 HAL
        · obtain ⟨s, R⟩ : ∃ t, Runs b2 l2 g t := by rcases bad_or (b := b2) (l := l2) (m := g) with h1 | h1; exact absurd (.inl h1) hb; exact h1
          obtain ⟨t, R2⟩ : ∃ t, Runs b2 l2 h t := by rcases bad_or (b := b2) (l := l2) (m := h) with h1 | h1; exact absurd (.inr h1) hb; exact h1
          have HR := Lib.hid (And.intro R R2)
          have hg14 := few_len hm3.1 (by have := R.len; omega)
          have hh14 := few_len hm3.2.1 (by have := R2.len; omega)
          have hlen : g.length + h.length ≤ 60 := by omega
          rcases bad_or (b := b2) (l := l2) (m := k) with h3 | ⟨u, R3⟩
          · exact TraceJoins_bad3 (u := s) (k := k) b2 p0 p1 p2 q0 q1 q2 n0 n1 n2 c0 c1 c2 k0 k1 k2 d0 d1 d2 w hm P1 P2 HR HS0 HS1 (confV (confA l2 g h)).1 (confV (confA l2 g h)).2.1 (confV (confA l2 g h)).2.2 (Lib.hid rfl) x y (hy h3)
              (Lib.hid fun w' hbw => Merge_any R R2 hlen w' (S0.mono hbw) (A0.mono hbw) (S1.mono hbw) (A1.mono hbw)) H27 HAL
          · have H27' := Lib.hid fun w' (hb : Below w.heap.size w w') => Check_ok R3 w' (S2.mono hb) (A2.mono hb)
            cases hc : confA l2 g h with
            | some XY =>
              obtain ⟨X, Y⟩ := XY
              have hX : Hid (confV (confA l2 g h) = (X, Y, true)) := Lib.hid (by rw [hc]; rfl)
              have hF : ¬ Free2 l2 g h := fun hf => by rw [(confA_none R.fine R2.fine).2 hf] at hc; cases hc
              have hD := Lib.hid (confA_some R.fine R2.fine hc)
              cases x1 : preB l2 g k with
              | false => exact TraceJoins_clash_f b2 p0 p1 p2 q0 q1 q2 n0 n1 n2 c0 c1 c2 k0 k1 k2 d0 d1 d2 w hm P1 P2 HR HS0 HS1 HS2 (Lib.hid R3) X Y hX (Lib.hid hF) hD (Lib.hid x1) H27' HAL
              | true =>
                have x2 : preB l2 h k = false := by
                  cases x2 : preB l2 h k with
                  | false => rfl
                  | true => exact absurd (free2_of (of_pre x1) (of_pre x2)) hF
                exact TraceJoins_clash_t b2 p0 p1 p2 q0 q1 q2 n0 n1 n2 c0 c1 c2 k0 k1 k2 d0 d1 d2 w hm P1 P2 HR HS0 HS1 HS2 (Lib.hid R3) X Y hX (Lib.hid hF) hD (Lib.hid x1) (Lib.hid x2) H27' HAL
            | none =>
              have hX : Hid (confV (confA l2 g h) = ((0, 0, 0), (0, 0, 0), false)) := Lib.hid (by rw [hc]; rfl)
              have hf : Free2 l2 g h := (confA_none R.fine R2.fine).1 hc
              obtain ⟨v, RM⟩ := join_good R R2 hf (Nat.le_trans (join_len l2 g h) hlen)
              have HP := Lib.hid (joins_law hf k)
              cases x1 : preB l2 g k with
              | false => exact TraceJoins_join_a b2 p0 p1 p2 q0 q1 q2 n0 n1 n2 c0 c1 c2 k0 k1 k2 d0 d1 d2 w hm P1 P2 HR HS0 HS1 HS2 (Lib.hid R3) _ _ hX (Lib.hid hf) hlen (Lib.hid RM.nrm) HP (Lib.hid x1) H27' HAL
              | true =>
                cases x2 : preB l2 h k with
                | false => exact TraceJoins_join_b b2 p0 p1 p2 q0 q1 q2 n0 n1 n2 c0 c1 c2 k0 k1 k2 d0 d1 d2 w hm P1 P2 HR HS0 HS1 HS2 (Lib.hid R3) _ _ hX (Lib.hid hf) hlen (Lib.hid RM.nrm) HP (Lib.hid x1) (Lib.hid x2) H27' HAL
                | true => exact TraceJoins_join_c b2 p0 p1 p2 q0 q1 q2 n0 n1 n2 c0 c1 c2 k0 k1 k2 d0 d1 d2 w hm P1 P2 HR HS0 HS1 HS2 (Lib.hid R3) _ _ hX (Lib.hid hf) hlen (Lib.hid RM.nrm) HP (Lib.hid x1) (Lib.hid x2) H27' HAL
end Go.Proofs.YtccnkebkgegohaaGreatDoor
end
