import Derived.Test.YtccnkebkgegohaaGreatDoorHY13a
import Derived.Test.YtccnkebkgegohaaGreatDoorHY15
import Derived.Test.YtccnkebkgegohaaGreatDoorHY16a
import Derived.Test.YtccnkebkgegohaaGreatDoorHY16b
import Derived.Test.YtccnkebkgegohaaGreatDoorHY16c
/-
  Given contracts of functions of the program, and laws for them, one behind the other.
-/
set_option linter.unusedVariables false
set_option linter.unusedSimpArgs false
set_option linter.unusedSectionVars false
section
namespace Go.Proofs.YtccnkebkgegohaaGreatDoor
open Go.RowKit Go.Rel
set_option maxRecDepth 100000
theorem TraceMerges_walk (b0 : Sol) (u0 : Value) (l0 : List Sol) (av0 : Value) (g : List Ac) (b1 : Sol) (u1 : Value) (l1 : List Sol) (av1 : Value) (h : List Ac) (b2 : Sol) (u2 : Value) (l2 : List Sol) (av2 : Value) (k : List Ac) (w : World)
    (S0 : SlS w u0 l0) (A0 : SlA w av0 g) (_ : ∀ n c, av0 = .slice none n c → c = 0) (S1 : SlS w u1 l1) (A1 : SlA w av1 h) (_ : ∀ n c, av1 = .slice none n c → c = 0) (S2 : SlS w u2 l2) (A2 : SlA w av2 k) (_ : ∀ n c, av2 = .slice none n c → c = 0) (hT : w.cell? ⟨5, 15, none⟩ = some (.int .u8 4)) :
    Calls Tryz.prog 4 #[.agg #[.int .u64 (pl b0 0), .int .u64 (pl b0 1), .int .u64 (pl b0 2), .int .u64 (pl b0 3), .int .u64 (pl b0 4), .int .u64 (pl b0 5), .int .u64 (pl b0 6), .int .u64 (pl b0 7), u0, av0], .agg #[.int .u64 (pl b1 0), .int .u64 (pl b1 1), .int .u64 (pl b1 2), .int .u64 (pl b1 3), .int .u64 (pl b1 4), .int .u64 (pl b1 5), .int .u64 (pl b1 6), .int .u64 (pl b1 7), u1, av1], .agg #[.int .u64 (pl b2 0), .int .u64 (pl b2 1), .int .u64 (pl b2 2), .int .u64 (pl b2 3), .int .u64 (pl b2 4), .int .u64 (pl b2 5), .int .u64 (pl b2 6), .int .u64 (pl b2 7), u2, av2]] w fun e w' => e = .returned (.bool true) ∧ Below w.heap.size w w' := by
  have HAL := alive_h w hT
  have T0 := S0
  have T1 := S1
  have T2 := S2
  have X0 := A0
  have X1 := A1
  have X2 := A2
  obtain ⟨p0, c0, rfl, _, _⟩ := T0
  obtain ⟨p1, c1, rfl, _, _⟩ := T1
  obtain ⟨p2, c2, rfl, _, _⟩ := T2
  obtain ⟨q0, d0, rfl, _, _⟩ := X0
  obtain ⟨q1, d1, rfl, _, _⟩ := X1
  obtain ⟨q2, d2, rfl, _, _⟩ := X2
  have hk0 : (g.map acL).length = g.length := List.length_map ..
  have hk1 : (h.map acL).length = h.length := List.length_map ..
  have hk2 : (k.map acL).length = k.length := List.length_map ..
  generalize (g.map acL).length = k0 at *
  generalize (h.map acL).length = k1 at *
  generalize (k.map acL).length = k2 at *
  generalize (l0.map solL).length = n0 at *
  generalize (l1.map solL).length = n1 at *
  generalize (l2.map solL).length = n2 at *
  cases hm : (many k0 n0 || (many k1 n1 || many k2 n2)) with
  | true => exact TraceMerges_many b0 b1 b2 p0 p1 p2 q0 q1 q2 n0 n1 n2 c0 c1 c2 k0 k1 k2 d0 d1 d2 w hm HAL
  | false =>
    have hm3 := many3 hm
    have P1 := Lib.hid fun w' (hb : Below w.heap.size w w') => SamePattern_spec b0 b1 _ _ l0 l1 w' (S0.mono hb) (S1.mono hb)
    have P2 := Lib.hid fun w' (hb : Below w.heap.size w w') => SamePattern_spec b0 b2 _ _ l0 l2 w' (S0.mono hb) (S2.mono hb)
    cases e1 : samePat b0 l0 b1 l1 with
    | false => rw [e1] at P1; exact TraceMerges_other b0 b1 b2 p0 p1 p2 q0 q1 q2 n0 n1 n2 c0 c1 c2 k0 k1 k2 d0 d1 d2 w hm P1 HAL
    | true =>
      rw [e1] at P1
      cases e2 : samePat b0 l0 b2 l2 with
      | false => rw [e2] at P2; exact TraceMerges_other2 b0 b1 b2 p0 p1 p2 q0 q1 q2 n0 n1 n2 c0 c1 c2 k0 k1 k2 d0 d1 d2 w hm P1 P2 HAL
      | true =>
        rw [e2] at P2
        obtain ⟨rfl, rfl⟩ := samePat_eq e1
        obtain ⟨rfl, rfl⟩ := samePat_eq e2
        obtain ⟨x, y, hy, HC⟩ := Check_any b2 l2 k
        have H27 := Lib.hid fun w' (hb : Below w.heap.size w w') => HC w' (S2.mono hb) (A2.mono hb)
        have HS0 := Lib.hid (And.intro S0 A0)
        have HS1 := Lib.hid (And.intro S1 A1)
        have HS2 := Lib.hid (And.intro S2 A2)
        by_cases hb : Bad b2 l2 g ∨ Bad b2 l2 h
        · obtain ⟨z, hz, HM⟩ := Merge_err hb
          obtain ⟨z2, hz2, HM2⟩ := Merge_err (g := h) (h := g) (b := b2) (l := l2) hb.symm
          exact TraceMerges_bad b2 p0 p1 p2 q0 q1 q2 n0 n1 n2 c0 c1 c2 k0 k1 k2 d0 d1 d2 w hm P1 P2 x y z z2 hz (by simpa using hz) (by simpa using hz2)
            (Lib.hid fun w' hbw => HM w' (S0.mono hbw) (A0.mono hbw) (S1.mono hbw) (A1.mono hbw)) (Lib.hid fun w' hbw => HM2 w' (S1.mono hbw) (A1.mono hbw) (S0.mono hbw) (A0.mono hbw)) H27 HAL
        · obtain ⟨s, R⟩ : ∃ t, Runs b2 l2 g t := by rcases bad_or (b := b2) (l := l2) (m := g) with h1 | h1; exact absurd (.inl h1) hb; exact h1
          obtain ⟨t, R2⟩ : ∃ t, Runs b2 l2 h t := by rcases bad_or (b := b2) (l := l2) (m := h) with h1 | h1; exact absurd (.inr h1) hb; exact h1
          have HR := Lib.hid (And.intro R R2)
          have hg14 := few_len hm3.1 (by have := R.len; omega)
          have hh14 := few_len hm3.2.1 (by have := R2.len; omega)
          have hlen : g.length + h.length ≤ 60 := by omega
          by_cases hF : Free2 l2 g h
          · have hlen2 : h.length + g.length ≤ 60 := by omega
            rcases bad_or (b := b2) (l := l2) (m := k) with h3 | ⟨u, R3⟩
            · exact TraceMerges_bad3 (u := s) (k := k) b2 p0 p1 p2 q0 q1 q2 n0 n1 n2 c0 c1 c2 k0 k1 k2 d0 d1 d2 w hm P1 P2 HR HS0 HS1 (Lib.hid hF) hlen hlen2 x y (hy h3) H27 HAL
            · have H27' := Lib.hid fun w' (hb : Below w.heap.size w w') => Check_ok R3 w' (S2.mono hb) (A2.mono hb)
              have hk14 := few_len hm3.2.2 (by have := R3.len; omega)
              have hjl := join_len l2 g h
              have hal : (nrm l2 (joinA l2 g h)).length = (joinA l2 g h).length := nrm_len l2 _
              obtain ⟨v, RJ⟩ := join_good R R2 hF (by omega)
              obtain ⟨xc, RC⟩ := R.pre (bey_A l2 g h).pre1
              have HW := Lib.hid (join_wood R R2 RC RJ)
              have hcl := join_len l2 h k
              have hcl2 : (nrm l2 (joinA l2 h k)).length = (joinA l2 h k).length := nrm_len l2 _
              by_cases hb2 : Free2 l2 h k
              · obtain ⟨yc, RK⟩ := join_good R2 R3 hb2 (by omega)
                by_cases hc : Free2 l2 g (nrm l2 (joinA l2 h k))
                · exact TraceMerges_main_a b2 p0 p1 p2 q0 q1 q2 n0 n1 n2 c0 c1 c2 k0 k1 k2 d0 d1 d2 w hm P1 P2 HR HS0 HS1 HS2 (Lib.hid R3) (Lib.hid hF) hlen hlen2 (Lib.hid RJ.nrm) (Lib.hid ⟨(assoc_iff hF).2 ⟨hb2, hc⟩, by omega⟩) (Lib.hid ⟨hb2, by omega⟩) (Lib.hid ⟨hc, by omega⟩) (Lib.hid RK.nrm) (by omega) (Lib.hid RC.nrm) HW H27' HAL
                · exact TraceMerges_main_b b2 p0 p1 p2 q0 q1 q2 n0 n1 n2 c0 c1 c2 k0 k1 k2 d0 d1 d2 w hm P1 P2 HR HS0 HS1 HS2 (Lib.hid R3) (Lib.hid hF) hlen hlen2 (Lib.hid RJ.nrm) (Lib.hid fun ha => hc ((assoc_iff hF).1 ha).2) (Lib.hid ⟨hb2, by omega⟩) (Lib.hid hc) (Lib.hid RK.nrm) (by omega) (Lib.hid RC.nrm) HW H27' HAL
              · exact TraceMerges_main_c b2 p0 p1 p2 q0 q1 q2 n0 n1 n2 c0 c1 c2 k0 k1 k2 d0 d1 d2 w hm P1 P2 HR HS0 HS1 HS2 (Lib.hid R3) (Lib.hid hF) hlen hlen2 (Lib.hid RJ.nrm) (Lib.hid fun ha => hb2 ((assoc_iff hF).1 ha).1) (Lib.hid hb2) (by omega) (Lib.hid RC.nrm) HW H27' HAL
          · exact TraceMerges_bad b2 p0 p1 p2 q0 q1 q2 n0 n1 n2 c0 c1 c2 k0 k1 k2 d0 d1 d2 w hm P1 P2 x y 45 45 (by decide) (by decide) (by decide)
              (Lib.hid fun w' hbw => Merge_c R R2 hF w' (S0.mono hbw) (A0.mono hbw) (S1.mono hbw) (A1.mono hbw)) (Lib.hid fun w' hbw => Merge_c R2 R (fun hf => hF (free2_symm hf)) w' (S1.mono hbw) (A1.mono hbw) (S0.mono hbw) (A0.mono hbw)) H27 HAL
end Go.Proofs.YtccnkebkgegohaaGreatDoor
end
