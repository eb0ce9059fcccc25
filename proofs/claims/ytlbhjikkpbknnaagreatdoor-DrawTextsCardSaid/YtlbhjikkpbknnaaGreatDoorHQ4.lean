import Derived.Test.YtlbhjikkpbknnaaGreatDoorHL1
/-
  Given contracts of functions of the program, and laws for them, one behind the other.
-/
set_option linter.unusedVariables false
set_option linter.unusedSimpArgs false
set_option linter.unusedSectionVars false
section
namespace Go.Proofs.YtlbhjikkpbknnaaGreatDoor
open Go.RowKit Go.Rel Go.Draw
set_option maxRecDepth 100000
/-! the reference's Stand -/
theorem dx_le (side k : Nat) (hk : k ≤ 7) : -7 ≤ dxS side * (k : Int) ∧ dxS side * (k : Int) ≤ 7 := by
 unfold dxS; split <;> omega
theorem dy_le (side k : Nat) (hk : k ≤ 7) : -7 ≤ dyS side * (k : Int) ∧ dyS side * (k : Int) ≤ 7 := by
 unfold dyS; split <;> omega
def leaveR (s : Sol) (dx dy : Int) (n : Nat) : Bool := s.getLsbD n && !decide (0 ≤ ((n % 8 : Nat) : Int) + dx ∧ ((n % 8 : Nat) : Int) + dx ≤ 7 ∧ 0 ≤ ((n / 8 % 8 : Nat) : Int) + dy ∧ ((n / 8 % 8 : Nat) : Int) + dy ≤ 7)
theorem leaves_any (s : Sol) (dx dy : Int) : leavesR s dx dy = (List.range 512).any (leaveR s dx dy) := rfl
theorem any_hit {f : Nat → Bool} {k n : Nat} (hk : k < n) (h : f k = true) : (List.range n).any f = true := List.any_eq_true.2 ⟨k, List.mem_range.2 hk, h⟩
theorem any_snoc {f : Nat → Bool} {k : Nat} (h0 : (List.range k).any f = false) (h : f k = false) : (List.range (k + 1)).any f = false := by
 rw [List.range_succ, List.any_append, h0, List.any_cons, h]; rfl
theorem some_snoc {f : Nat → Option (Int × Int)} {k : Nat} (h0 : (List.range k).findSome? f = none) (h : f k = none) : (List.range (k + 1)).findSome? f = none := by
 rw [List.range_succ, List.findSome?_append, h0]
 simp [h]
theorem some_hit {f : Nat → Option (Int × Int)} {k n : Nat} {r : Int × Int} (hk : k < n) (h0 : (List.range k).findSome? f = none) (h : f k = some r) : (List.range n).findSome? f = some r := by
 obtain ⟨j, rfl⟩ : ∃ j, n = k + (j + 1) := ⟨n - k - 1, by omega⟩
 rw [List.range_add, List.findSome?_append, h0, show j + 1 = 1 + j by omega, List.range_add, List.map_append, List.findSome?_append]
 simp [h]
theorem standF_step (m : List Sol) (gone : List Int) (p sd fr t : Nat) (s : Sol) (dx dy : Int) (up : Nat) (ht : t ≤ 16) (hsg : m.getD p 0 = s) (hdx : dx = dxS sd * ((min t fr : Nat) : Int)) (hdy : dy = dyS sd * ((min t fr : Nat) : Int)) (hup : up = t - min t fr) :
  standF m gone (p, sd, fr) (17 - t) t = if up ≤ 8 then (match (if leavesR s dx dy then some (-1, -1) else (List.range 512).findSome? (hitR m gone p dx dy up)) with
    | some z => some z
    | none => standF m gone (p, sd, fr) (17 - (t + 1)) (t + 1)) else none := by
 obtain ⟨j, hj⟩ : ∃ j, j = 17 - (t + 1) := ⟨_, rfl⟩
 rw [← hj, show 17 - t = j + 1 by omega]
 have e1 : (t ≤ fr + 8) ↔ up ≤ 8 := by omega
 have e2 : standStep m gone (p, sd, fr) t = if leavesR s dx dy then some (-1, -1) else (List.range 512).findSome? (hitR m gone p dx dy up) := by
  unfold standStep dxR dyR upR
  rw [hsg, ← hdx, ← hdy, ← hup]
 show (if t ≤ fr + 8 then _ else none) = _
 rw [e2]
 by_cases h : up ≤ 8
 ·rw [if_pos h, if_pos (e1.2 h)]; rfl
 ·rw [if_neg h, if_neg (fun q => h (e1.1 q))]
theorem standF_end (m : List Sol) (gone : List Int) (x : Mv) : standF m gone x (17 - 17) 17 = none := by
 show standF m gone x 0 17 = none
 unfold standF; rfl
theorem hitR_own {m : List Sol} {gone : List Int} {p : Nat} {s : Sol} {dx dy up : Int} {n : Nat} (hsg : m.getD p 0 = s) : hitR m gone p dx dy up n = if has s ((n : Int) % 8 - dx) ((n : Int) / 8 % 8 - dy) ((n : Int) / 64 - up) && (pieceR m n != (p : Int)) && (decide (pieceR m n < 0) || !gone.contains (pieceR m n)) then some ((n : Int), pieceR m n) else none := by
 unfold hitR
 rw [hsg]
 simp only [Int.natCast_emod, Int.natCast_ediv]
 rfl
set_option maxHeartbeats 16000000 in
theorem Stand_spec {w : World} {v gv : Value} {m : List Sol} {gone : List Int} (H : SlS w v m) (HG : SlI w gv gone) {x : Mv} (hx : x.1 < m.length) (hs4 : x.2.1 ≤ 4) (hf7 : x.2.2 ≤ 7) : Calls Tryz.prog 76 #[v, gv, mvV x] w fun e w' => e = .returned (atV (standM m gone x)) ∧ Below w.heap.size w w' := by
 obtain ⟨p, sd, fr⟩ := x
 simp only at hx hs4 hf7
 obtain ⟨R, hR⟩ : ∃ R, R = standM m gone (p, sd, fr) := ⟨_, rfl⟩
 rw [← hR]
 obtain ⟨s, hs⟩ : ∃ x, m[p]? = some x := ⟨_, List.getElem?_eq_getElem hx⟩
 obtain ⟨b, off, c, rfl, _, _, hb, hcs⟩ := sol_at_piece H hs
 have hsg : m.getD p 0 = s := by simp [List.getD, hs]
 have hHAS := fun W x y z => has_spec (w := W) (s := s) x y z
 have hPIE := fun W (h : Below w.heap.size w W) n (hn : n < 512) => piece_spec (H.mono h) hn
 have hIN := fun W (h : Below w.heap.size w W) n => In_spec n (HG.mono h)
 have hSH := fun W t ht => shift_core (w := W) (p : Int) sd fr t hs4 hf7 ht
 have hCE := fun W (h : Below w.heap.size w W) => sol_cells (hcs.mono h hb) hs
 have HH := Lib.hid (And.intro hHAS (And.intro hPIE (And.intro hIN (And.intro hSH (And.intro hCE (And.intro hsg hR))))))
 have hm : (p : Int) < (m.length : Int) := by omega
 clear hHAS hPIE hIN hSH hCE hsg hR hs hcs H HG
 go_enter Tryz.func76, Tryz.ntmps76
 go_wp2_with fail
 obtain ⟨w1, hw1⟩ : ∃ w1, w1 = w.alloc (.cells #[.int .i64 (p : Int), .int .i64 (sd : Int), .int .i64 (fr : Int)] 25) := ⟨_, rfl⟩
 rw [← hw1]
 have H1 := Lib.hid (show Blk w1 w.heap.size #[.int .i64 (p : Int), .int .i64 (sd : Int), .int .i64 (fr : Int)] 25 ∧ Below w.heap.size w w1 by subst hw1; exact ⟨Blk.new _ _ _, (by repeat (first | with_reducible exact bel_refl _ | with_reducible assumption | with_reducible refine bel_drewN ?_ _ | with_reducible refine bel_drew ?_ | with_reducible refine bel_alloc ?_ _ | with_reducible refine bel_row ?_ ?_ _ | with_reducible refine bel_set ?_ ?_ _ | refine bel_trans ?_ (by with_reducible assumption) | (simp; done) | (simp; omega)))⟩)
 clear hw1
 go_loopw [9] (fun tv wx => ∃ (t : Nat), 1 ≤ t ∧ t ≤ 17 ∧ tv = .int .i64 t ∧ Hid (standF m gone (p, sd, fr) (17 - t) t = R ∧ Below w1.heap.size w1 wx)) (fun tv _ => 17 - (intOf tv).toNat)
 case atStart => exact ⟨1, by omega, by omega, rfl, Lib.hid ⟨HH.out.2.2.2.2.2.2.symm, Below.refl _ _⟩⟩
 case round =>
  obtain ⟨t, ht1, ht17, rfl, HI⟩ := hrel
  by_cases hlt : t ≤ 16
  ·have hd : decide ((t : Int) ≤ 16) = true := decide_eq_true (by omega)
   have B1 := H1.out.1.grow HI.out.2
   have c0 := B1.cell 0
   have c1 := B1.cell 1
   have c2 := B1.cell 2
   simp only [List.getElem?_toArray, List.getElem?_cons_zero, List.getElem?_cons_succ] at c0 c1 c2
   have l1 := B1.lt
   clear B1
   go_wp2_with fail
   refine (HH.out.2.2.2.1 _ t hlt).mono ?_
   rintro e w2 ⟨rfl, hb2⟩
   obtain ⟨dx, hdx⟩ : ∃ d, d = dxS sd * ((min t fr : Nat) : Int) := ⟨_, rfl⟩
   obtain ⟨dy, hdy⟩ : ∃ d, d = dyS sd * ((min t fr : Nat) : Int) := ⟨_, rfl⟩
   obtain ⟨up, hup⟩ : ∃ d, d = t - min t fr := ⟨_, rfl⟩
   have hF : standF m gone (p, sd, fr) (17 - t) t = if up ≤ 8 then (match (if leavesR s dx dy then some (-1, -1) else (List.range 512).findSome? (hitR m gone p dx dy up)) with
    | some z => some z
    | none => standF m gone (p, sd, fr) (17 - (t + 1)) (t + 1)) else none :=
    standF_step m gone p sd fr t s dx dy up hlt HH.out.2.2.2.2.2.1 hdx hdy hup
   have dxl : -7 ≤ dx ∧ dx ≤ 7 := by rw [hdx]; exact dx_le sd _ (by omega)
   have dyl : -7 ≤ dy ∧ dy ≤ 7 := by rw [hdy]; exact dy_le sd _ (by omega)
   have upl : up ≤ 16 := by omega
   rw [← hdx, ← hdy, ← hup]
   clear hdx hdy hup
   rw [HI.out.1] at hF
   have hbw : Below w1.heap.size w1 w2 := bel_trans HI.out.2 hb2
   have HF := Lib.hid (And.intro hF hbw); clear hF hbw hb2 HI c0 c1 c2 l1
   by_cases hup8 : up ≤ 8
   ·have hdu : decide (up ≤ 8) = true := decide_eq_true hup8
    rw [hdu]
    go_wp2_with fail
    obtain ⟨wo, hwo⟩ : ∃ wo, wo = w2 := ⟨_, rfl⟩
    subst hwo
    go_loopw [14] (fun nv wx => ∃ (n : Nat), n ≤ 512 ∧ nv = .int .i64 n ∧ Hid ((List.range n).any (leaveR s dx dy) = false ∧ Below w1.heap.size w1 wx)) (fun nv _ => 512 - (intOf nv).toNat)
    case atStart => exact ⟨0, by omega, rfl, Lib.hid ⟨rfl, HF.out.2⟩⟩
    case round =>
     obtain ⟨n, hn, rfl, HN⟩ := hrel
     by_cases hn5 : n < 512
     ·have hdn : decide ((n : Int) < 512) = true := decide_eq_true (by omega)
      have B1 := H1.out.1.grow HN.out.2
      have c0 := B1.cell 0
      have c1 := B1.cell 1
      have c2 := B1.cell 2
      simp only [List.getElem?_toArray, List.getElem?_cons_zero, List.getElem?_cons_succ] at c0 c1 c2
      have l1 := B1.lt
      have hbw := H1.out.2.trans (HN.out.2.mono H1.out.2.size)
      have hce := HH.out.2.2.2.2.1 _ hbw
      have lb : b < wr.heap.size := Nat.lt_of_lt_of_le hb hbw.size
      clear B1 hbw
      go_wp2_with fail
      refine (HH.out.1 _ _ _ _).mono ?_
      rintro e w3 ⟨rfl, hb3⟩
      have hbit : has s ((n : Int) % 8) ((n : Int) / 8 % 8) ((n : Int) / 64) = s.getLsbD n := by
       have := has_bit s n hn5
       simpa using this
      rw [hbit]
      clear hbit hce c0 c1 c2 l1 lb
      have HB3 := Lib.hid (bel_trans HN.out.2 hb3); clear hb3
      cases hsn : s.getLsbD n
      ·have HL := Lib.hid (show leaveR s dx dy n = false by unfold leaveR; rw [hsn]; rfl)
       clear hsn
       go_wp2_with fail
       exact ⟨⟨n + 1, by omega, by simp, Lib.hid ⟨any_snoc HN.out.1 HL.out, HB3.out⟩⟩, by simp [intOf]; omega⟩
      ·by_cases hin : 0 ≤ (n : Int) % 8 + dx ∧ (n : Int) % 8 + dx ≤ 7 ∧ 0 ≤ (n : Int) / 8 % 8 + dy ∧ (n : Int) / 8 % 8 + dy ≤ 7
       ·have HL := Lib.hid (show leaveR s dx dy n = false by unfold leaveR; rw [hsn]; simp; simpa using hin)
        obtain ⟨h1, h2, h3, h4⟩ := hin
        have d1 : decide ((n : Int) % 8 + dx < 0) = false := decide_eq_false (by omega)
        have d2 : decide (7 < (n : Int) % 8 + dx) = false := decide_eq_false (by omega)
        have d3 : decide ((n : Int) / 8 % 8 + dy < 0) = false := decide_eq_false (by omega)
        have d4 : decide (7 < (n : Int) / 8 % 8 + dy) = false := decide_eq_false (by omega)
        clear hsn
        go_wp2_with fail
        exact ⟨⟨n + 1, by omega, by simp, Lib.hid ⟨any_snoc HN.out.1 HL.out, HB3.out⟩⟩, by simp [intOf]; omega⟩
       ·have HL := Lib.hid (show leaveR s dx dy n = true by unfold leaveR; rw [hsn, Bool.true_and, Bool.not_eq_true', decide_eq_false_iff_not]; intro h; exact hin (by simpa using h))
        have HIN := Lib.hid hin
        clear hsn hin
        go_wp2_with fail
        all_goals first
         | (exfalso; exact HIN.out (by omega))
         | (refine bodyPost_ret (v := .tuple #[.int .i64 (-1), .int .i64 (-1), .bool true]) (by simp [results, Tryz.results76, go_sem]) rfl ⟨?_, H1.out.2.trans (HB3.out.mono H1.out.2.size)⟩; rw [HF.out.1, if_pos hup8, leaves_any, any_hit hn5 HL.out]; rfl)
     ·have hdn : decide ((n : Int) < 512) = false := decide_eq_false (by omega)
      have HNL := Lib.hid (show (List.range 512).any (leaveR s dx dy) = false by rw [show (512 : Nat) = n by omega]; exact HN.out.1)
      go_wp2_with fail
      clear hdn
      obtain ⟨wo, hwo⟩ : ∃ wo, wo = wr := ⟨_, rfl⟩
      subst hwo
      have HN0 := Lib.hid HN.out.2
      clear HN hn hn5
      obtain ⟨n0, hn0⟩ : ∃ z, z = n := ⟨_, rfl⟩
      rw [← hn0]
      clear hn0
      go_loopw [15] (fun nv wx => ∃ (n : Nat), n ≤ 512 ∧ nv = .int .i64 n ∧ Hid ((List.range n).findSome? (hitR m gone p dx dy up) = none ∧ Below w1.heap.size w1 wx)) (fun nv _ => 512 - (intOf nv).toNat)
      case atStart => exact ⟨0, by omega, rfl, Lib.hid ⟨rfl, HN0.out⟩⟩
      case round =>
       obtain ⟨n, hn, rfl, HN⟩ := hrel
       by_cases hn5 : n < 512
       ·have hdn : decide ((n : Int) < 512) = true := decide_eq_true (by omega)
        have B1 := H1.out.1.grow HN.out.2
        have c0 := B1.cell 0
        have c1 := B1.cell 1
        have c2 := B1.cell 2
        simp only [List.getElem?_toArray, List.getElem?_cons_zero, List.getElem?_cons_succ] at c0 c1 c2
        have l1 := B1.lt
        have hbw := H1.out.2.trans (HN.out.2.mono H1.out.2.size)
        have hce := HH.out.2.2.2.2.1 _ hbw
        have lb : b < wr.heap.size := Nat.lt_of_lt_of_le hb hbw.size
        clear B1 hbw
        go_wp2_with fail
        refine (HH.out.1 _ _ _ _).mono ?_
        rintro e w3 ⟨rfl, hb3⟩
        have HB3 := Lib.hid (bel_trans HN.out.2 hb3); clear hb3
        clear hce c0 c1 c2 l1 lb
        cases hhs : has s ((n : Int) % 8 - dx) ((n : Int) / 8 % 8 - dy) ((n : Int) / 64 - (up : Int))
        ·have HL := Lib.hid (show hitR m gone p dx dy up n = none by rw [hitR_own HH.out.2.2.2.2.2.1, hhs]; rfl)
         clear hhs
         go_wp2_with fail
         exact ⟨⟨n + 1, by omega, by simp, Lib.hid ⟨some_snoc HN.out.1 HL.out, HB3.out⟩⟩, by simp [intOf]; omega⟩
        ·have HS := Lib.hid hhs
         clear hhs
         go_wp2_with fail
         refine (HH.out.2.1 _ (H1.out.2.trans (HB3.out.mono H1.out.2.size)) n hn5).mono ?_
         rintro e w4 ⟨rfl, hb4⟩
         have HB4 := Lib.hid (bel_trans HB3.out hb4); clear hb4
         have B1 := H1.out.1.grow HB4.out
         have c0 := B1.cell 0
         simp only [List.getElem?_toArray, List.getElem?_cons_zero, List.getElem?_cons_succ] at c0
         have l1 := B1.lt
         clear B1
         have hR := hitR_own (gone := gone) (dx := dx) (dy := dy) (up := (up : Int)) (n := n) HH.out.2.2.2.2.2.1
         rw [HS.out] at hR
         obtain ⟨q, hq⟩ : ∃ q, q = pieceR m n := ⟨_, rfl⟩
         rw [← hq] at hR ⊢
         clear hq
         by_cases hqp : q = (p : Int)
         ·have HL := Lib.hid (show hitR m gone p dx dy up n = none by rw [hR, hqp]; simp)
          clear hR
          subst hqp
          go_wp2_with fail
          exact ⟨⟨n + 1, by omega, by simp, Lib.hid ⟨some_snoc HN.out.1 HL.out, HB4.out⟩⟩, by simp [intOf]; omega⟩
         ·have hq2 : ¬ ((p : Int) = q) := fun e => hqp e.symm
          have hq3 : (q != (p : Int)) = true := by simpa using hqp
          by_cases hq0 : q < 0
          ·have HL := Lib.hid (show hitR m gone p dx dy up n = some ((n : Int), q) by rw [hR, hq3, decide_eq_true hq0]; rfl)
           clear hR hq3
           go_wp2_with fail
           refine bodyPost_ret (v := .tuple #[.int .i64 (n : Int), .int .i64 q, .bool true]) (by simp [results, Tryz.results76, go_sem]) rfl ⟨?_, H1.out.2.trans (HB4.out.mono H1.out.2.size)⟩
           rw [HF.out.1, if_pos hup8, leaves_any, HNL.out, some_hit hn5 HN.out.1 HL.out]; rfl
          ·have hd0 : decide (q < 0) = false := decide_eq_false hq0
           have HQ3 := Lib.hid (And.intro hR hq3); clear hR hq3
           go_wp2_with fail
           refine (HH.out.2.2.1 _ (H1.out.2.trans (HB4.out.mono H1.out.2.size)) q).mono ?_
           rintro e w5 ⟨rfl, hw5⟩
           have hw6 := hw5.symm
           subst hw6
           clear hw5
           cases hct : gone.contains q
           ·have HL := Lib.hid (show hitR m gone p dx dy up n = some ((n : Int), q) by rw [HQ3.out.1, HQ3.out.2, hct]; simp)
            clear hct
            go_wp2_with fail
            refine bodyPost_ret (v := .tuple #[.int .i64 (n : Int), .int .i64 q, .bool true]) (by simp [results, Tryz.results76, go_sem]) rfl ⟨?_, H1.out.2.trans (HB4.out.mono H1.out.2.size)⟩
            rw [HF.out.1, if_pos hup8, leaves_any, HNL.out, some_hit hn5 HN.out.1 HL.out]; rfl
           ·have HL := Lib.hid (show hitR m gone p dx dy up n = none by rw [HQ3.out.1, hct, hd0]; simp)
            clear hct
            go_wp2_with fail
            exact ⟨⟨n + 1, by omega, by simp, Lib.hid ⟨some_snoc HN.out.1 HL.out, HB4.out⟩⟩, by simp [intOf]; omega⟩
       ·obtain rfl : n = 512 := by omega
        go_wp2_with fail
        exact ⟨⟨t + 1, by omega, by omega, by simp, Lib.hid ⟨by rw [HF.out.1, if_pos hup8, leaves_any, HNL.out, HN.out.1]; rfl, HN.out.2⟩⟩, by simp [intOf]; omega⟩
   ·have hdu : decide (up ≤ 8) = false := decide_eq_false hup8
    rw [hdu]
    go_wp2_with fail
    refine bodyPost_ret (v := .tuple #[.int .i64 0, .int .i64 0, .bool false]) (by simp [results, Tryz.results76, go_sem]) rfl ⟨?_, H1.out.2.trans (HF.out.2.mono H1.out.2.size)⟩
    rw [HF.out.1, if_neg hup8]; rfl
  ·obtain rfl : t = 17 := by omega
   go_wp2_with fail
   refine bodyPost_ret (v := .tuple #[.int .i64 0, .int .i64 0, .bool false]) (by simp [results, Tryz.results76, go_sem]) rfl ⟨?_, H1.out.2.trans (HI.out.2.mono H1.out.2.size)⟩
   have he := HI.out.1
   rw [standF_end] at he
   rw [← he]; rfl
end Go.Proofs.YtlbhjikkpbknnaaGreatDoor
end
section
namespace Go.Proofs.YtlbhjikkpbknnaaGreatDoor
open Go.RowKit Go.Rel Go.Draw
set_option maxRecDepth 100000
/-! the reference's IsSet -/
theorem setG_cons_bad {n : Nat} {pr : Option Int} {s : U} {x : Int} {l : List Int} (h : ¬ (0 ≤ x ∧ x < n ∧ (∀ y, pr = some y → y < x))) : (setG n pr s (x :: l)).isSome = false := by
 rw [setG, if_neg h]; rfl
set_option maxHeartbeats 8000000 in
theorem IsSet_spec {w : World} {u : Value} {l : List Int} {n : Nat} (H : SlI w u l) (hn : n ≤ 12) : Calls Tryz.prog 94 #[.int .i64 (n : Int), u] w fun e w' => e = .returned (.bool (setI n l).isSome) ∧ Below w.heap.size w w' := by
 obtain ⟨b, cc, rfl, hmx, hH⟩ := ints_open H
 have HH := Lib.hid hH
 clear hH H
 go_enter Tryz.func94, Tryz.ntmps94
 go_wp2_with fail
 go_loopw [5] (fun iv wx => ∃ (k : Nat), k ≤ l.length ∧ iv = .int .i64 k ∧ Hid (∃ G, setG n (prevI l k) G (l.drop k) = setI n l) ∧ Hid (Below w.heap.size w wx)) (fun iv _ => l.length - (intOf iv).toNat)
 case atStart => exact ⟨0, Nat.zero_le _, rfl, Lib.hid ⟨0, rfl⟩, Lib.hid (Below.refl _ _)⟩
 case round =>
  obtain ⟨k, hk, rfl, HI, HB⟩ := hrel
  by_cases hlt : k < l.length
  ·obtain ⟨x, hx⟩ : ∃ x, l[k]? = some x := ⟨_, List.getElem?_eq_getElem hlt⟩
   obtain ⟨ib, io, rfl, lib, hc⟩ := HH.out k x hx
   have hck := ((bcell HB.out).1 ib (io + k) lib).trans (hc k x hx)
   have lb := Nat.lt_of_lt_of_le lib HB.out.size
   have HX := Lib.hid (And.intro (drop_at hx) hx)
   clear hx
   by_cases h1 : x < 0
   ·have d1 : decide (x < 0) = true := by simpa using h1
    have H1 := Lib.hid h1; clear h1 hc
    go_wp2_with fail
    refine Go.Rel.region_still_tail 28 (by kernel_rfl) (by kernel_rfl) ?_
    simp only [List.take_succ_cons, List.take_zero, List.drop_succ_cons, List.drop_zero]
    iterate 6 (with_reducible refine wpStill_yes (by kernel_rfl) (fun K hK => ?_); go_simp; refine hK _ ?_; clear hK K)
    iterate 6 (with_reducible refine wpStill_no (by kernel_rfl) (fun K hK => ?_); simp only [Act.put, List.setIfInBounds_toArray, List.set_cons_succ, List.set_cons_zero]; refine hK _ ?_; clear hK K)
    iterate 2 (with_reducible refine wpStill_yes (by kernel_rfl) (fun K hK => ?_); go_simp; refine hK _ ?_; clear hK K)
    iterate 14 (with_reducible refine wpStill_no (by kernel_rfl) (fun K hK => ?_); simp only [Act.put, List.setIfInBounds_toArray, List.set_cons_succ, List.set_cons_zero]; refine hK _ ?_; clear hK K)
    refine wpStill_nil ?_
    go_wp2_with fail
    go_ret
    obtain ⟨G, hG⟩ := HI.out
    refine ⟨ret_bool ?_, bel_drew HB.out⟩
    rw [← hG, HX.out.1, setG_cons_bad (by intro h; have := H1.out; omega)]
   ·have d1 : decide (x < 0) = false := by simpa using h1
    have H1 := Lib.hid h1; clear h1
    by_cases h2 : (n : Int) ≤ x
    ·have d2 : decide ((n : Int) ≤ x) = true := by simpa using h2
     have H2 := Lib.hid h2; clear h2 hc
     go_wp2_with fail
     refine Go.Rel.region_still_tail 28 (by kernel_rfl) (by kernel_rfl) ?_
     simp only [List.take_succ_cons, List.take_zero, List.drop_succ_cons, List.drop_zero]
     iterate 14 (with_reducible refine wpStill_yes (by kernel_rfl) (fun K hK => ?_); go_simp; refine hK _ ?_; clear hK K)
     iterate 14 (with_reducible refine wpStill_no (by kernel_rfl) (fun K hK => ?_); simp only [Act.put, List.setIfInBounds_toArray, List.set_cons_succ, List.set_cons_zero]; refine hK _ ?_; clear hK K)
     refine wpStill_nil ?_
     go_wp2_with fail
     go_ret
     obtain ⟨G, hG⟩ := HI.out
     refine ⟨ret_bool ?_, bel_drew HB.out⟩
     rw [← hG, HX.out.1, setG_cons_bad (by intro h; have := H2.out; omega)]
    ·have d2 : decide ((n : Int) ≤ x) = false := by simpa using h2
     have H2 := Lib.hid h2; clear h2
     by_cases h3 : k = 0
     ·subst h3
      clear hc
      rw [Nat.add_zero] at hck
      go_wp2_with fail
      refine Go.Rel.region_still_tail 28 (by kernel_rfl) (by kernel_rfl) ?_
      simp only [List.take_succ_cons, List.take_zero, List.drop_succ_cons, List.drop_zero]
      iterate 17 (with_reducible refine wpStill_yes (by kernel_rfl) (fun K hK => ?_); go_simp; refine hK _ ?_; clear hK K)
      iterate 10 (with_reducible refine wpStill_no (by kernel_rfl) (fun K hK => ?_); simp only [Act.put, List.setIfInBounds_toArray, List.set_cons_succ, List.set_cons_zero]; refine hK _ ?_; clear hK K)
      iterate 1 (with_reducible refine wpStill_yes (by kernel_rfl) (fun K hK => ?_); go_simp; refine hK _ ?_; clear hK K)
      refine wpStill_nil ?_
      go_wp2_with fail
      obtain ⟨G, hG⟩ := HI.out
      refine ⟨⟨1, by omega, rfl, Lib.hid ⟨G ||| bit x.toNat, ?_⟩, Lib.hid (bel_drew HB.out)⟩, by simp [intOf]; omega⟩
      rw [← hG, HX.out.1, setG, if_pos ⟨by have := H1.out; omega, by have := H2.out; omega, fun z hz => by unfold prevI at hz; rw [if_pos rfl] at hz; cases hz⟩]
      unfold prevI
      rw [if_neg (by omega), show 1 - 1 = 0 from rfl, HX.out.2]
     ·obtain ⟨j, rfl⟩ : ∃ j, k = j + 1 := ⟨k - 1, by omega⟩
      obtain ⟨y, hy⟩ : ∃ y, l[j]? = some y := ⟨_, List.getElem?_eq_getElem (by omega)⟩
      have hcy := ((bcell HB.out).1 ib (io + j) lib).trans (hc j y hy)
      have jl : j < l.length := by omega
      have j0 : (0 : Int) < (j : Int) + 1 := by omega
      have j00 : (0 : Int) ≤ (j : Int) + 1 := by omega
      have hwj : IntKind.i64.wrap (j : Int) = (j : Int) := (Go.IntWalk.i64_left _).trans (Go.IntWalk.wrap64_in _ (by omega))
      have j1 : (j : Int) < (l.length : Int) := by omega
      clear hc
      by_cases h4 : x ≤ y
      ·have d4 : decide (x ≤ y) = true := by simpa using h4
       have H4 := Lib.hid (And.intro h3 (And.intro hy h4)); clear h3 hy h4
       go_wp2_with fail
       refine Go.Rel.region_still_tail 28 (by kernel_rfl) (by kernel_rfl) ?_
       simp only [List.take_succ_cons, List.take_zero, List.drop_succ_cons, List.drop_zero]
       iterate 28 (with_reducible refine wpStill_yes (by kernel_rfl) (fun K hK => ?_); go_simp; refine hK _ ?_; clear hK K)
       refine wpStill_nil ?_
       go_wp2_with fail
       go_ret
       obtain ⟨G, hG⟩ := HI.out
       refine ⟨ret_bool ?_, bel_drew HB.out⟩
       rw [← hG, HX.out.1, setG_cons_bad (by intro h; have h5 := h.2.2 y (by unfold prevI; rw [if_neg (by omega)]; exact H4.out.2.1); have := H4.out.2.2; omega)]
      ·have d4 : decide (x ≤ y) = false := by simpa using h4
       have H4 := Lib.hid (And.intro h3 (And.intro hy h4)); clear h3 hy h4
       go_wp2_with fail
       refine Go.Rel.region_still_tail 28 (by kernel_rfl) (by kernel_rfl) ?_
       simp only [List.take_succ_cons, List.take_zero, List.drop_succ_cons, List.drop_zero]
       iterate 28 (with_reducible refine wpStill_yes (by kernel_rfl) (fun K hK => ?_); go_simp; refine hK _ ?_; clear hK K)
       refine wpStill_nil ?_
       go_wp2_with fail
       obtain ⟨G, hG⟩ := HI.out
       refine ⟨⟨j + 1 + 1, by omega, by simp, Lib.hid ⟨G ||| bit x.toNat, ?_⟩, Lib.hid (bel_drew HB.out)⟩, by simp [intOf]; omega⟩
       rw [← hG, HX.out.1, setG, if_pos ⟨by have := H1.out; omega, by have := H2.out; omega, fun z hz => by unfold prevI at hz; rw [if_neg (by omega)] at hz; rw [show j + 1 - 1 = j from rfl, H4.out.2.1] at hz; cases hz; have := H4.out.2.2; omega⟩]
       unfold prevI
       rw [if_neg (by omega), show j + 1 + 1 - 1 = j + 1 from rfl, HX.out.2]
  ·obtain rfl : k = l.length := by omega
   go_wp2_with fail
   go_ret
   obtain ⟨G, hG⟩ := HI.out
   refine ⟨ret_bool ?_, HB.out⟩
   rw [← hG, List.drop_length]; rfl
end Go.Proofs.YtlbhjikkpbknnaaGreatDoor
end
section
namespace Go.Proofs.YtlbhjikkpbknnaaGreatDoor
open Go.RowKit Go.Rel Go.Draw
set_option maxRecDepth 100000
/-! the reference's CheckMould -/
def okI (m : List Sol) (i : Nat) : Prop := ∀ j, j < i → m.getD j 0 ≠ 0 ∧ ∀ k, k < j → meets (m.getD j 0) (m.getD k 0) = false
theorem getD_at {m : List Sol} {i : Nat} (hi : i < m.length) : m.getD i 0 = m[i] := by simp [List.getD, hi]
theorem okI_good (m : List Sol) : okI m m.length ↔ goodM m = true := by
 rw [goodM_iff, List.pairwise_iff_getElem]
 constructor
 ·intro h
  refine ⟨fun s hs => ?_, fun i j hi hj hij => ?_⟩
  ·obtain ⟨i, hi, rfl⟩ := List.getElem_of_mem hs
   have := (h i hi).1
   rwa [getD_at hi] at this
  ·have := (h j hj).2 i hij
   rwa [getD_at hi, getD_at hj] at this
 ·rintro ⟨h1, h2⟩ j hj
  refine ⟨?_, fun k hk => ?_⟩
  ·rw [getD_at hj]; exact h1 _ (List.getElem_mem _)
  ·rw [getD_at hj, getD_at (by omega : k < m.length)]; exact h2 k j (by omega) hj hk
theorem meets_plv (s t : Sol) : meets s t = false ↔ ∀ z, z < 8 → plv s z &&& plv t z = 0 := by
 unfold meets
 rw [bne_eq_false_iff_eq]
 constructor
 ·intro h z _
  rw [← plv_and, h, plv_zero]
 ·intro h
  apply sol_ext
  intro k hk
  rw [plv_and, h k hk, plv_zero]
theorem sol_cellz {w : World} {b off : Nat} {l : List Sol} (h : Cells w b off 8 (l.map solL)) {k : Nat} {x : Sol} (hx : l[k]? = some x) {z : Nat} (hz : z < 8) : w.cell? ⟨b, off + k * 8 + z, none⟩ = some (.int .u64 (pl x z)) := by
 obtain ⟨h0, h1, h2, h3, h4, h5, h6, h7⟩ := sol_cells h hx
 obtain rfl | rfl | rfl | rfl | rfl | rfl | rfl | rfl : z = 0 ∨ z = 1 ∨ z = 2 ∨ z = 3 ∨ z = 4 ∨ z = 5 ∨ z = 6 ∨ z = 7 := by omega
 all_goals assumption
set_option maxHeartbeats 8000000 in
theorem refMould_spec {w : World} {v : Value} {m : List Sol} (H : SlS w v m) : Calls Tryz.prog 60 #[v] w fun e w' => e = .returned (.int .i64 (errM m)) ∧ Below w.heap.size w w' := by
 obtain ⟨ai, nn, c, rfl, hnn, hc, hcm⟩ := H.out
 subst hnn
 have HH := Lib.hid H
 clear H
 by_cases hbig : 12 < m.length
 ·have hE : errM m = 2 := by unfold errM; rw [if_pos hbig]
  rw [hE]
  have hd : decide (12 < m.length) = true := decide_eq_true hbig
  clear hE
  go_enter Tryz.func60, Tryz.ntmps60
  go_wp2_with fail
  go_ret
  exact ⟨rfl, Below.refl _ _⟩
 have hd : decide (12 < m.length) = false := decide_eq_false hbig
 have hE1 : ¬ okI m m.length → errM m = 1 := fun h => by
  unfold errM; rw [if_neg hbig]
  have : ¬ (goodM m = true) := fun h' => h ((okI_good m).2 h')
  rw [if_neg this]
 have hE0 : okI m m.length → errM m = 0 := fun h => by
  unfold errM; rw [if_neg hbig, if_pos ((okI_good m).1 h)]
 have HE := Lib.hid (And.intro hE0 hE1); clear hE0 hE1
 go_enter Tryz.func60, Tryz.ntmps60
 go_wp2_with fail
 go_loopw [3] (fun iv wx => ∃ (k : Nat), k ≤ m.length ∧ iv = .int .i64 k ∧ Hid (okI m k ∧ Below w.heap.size w wx)) (fun iv _ => m.length - (intOf iv).toNat)
 case atStart => exact ⟨0, Nat.zero_le _, rfl, Lib.hid ⟨fun j hj => by omega, Below.refl _ _⟩⟩
 case round =>
  obtain ⟨i, hi, rfl, HI⟩ := hrel
  by_cases hlt : i < m.length
  ·obtain ⟨s, hs⟩ : ∃ x, m[i]? = some x := ⟨_, List.getElem?_eq_getElem hlt⟩
   obtain ⟨b, off, c1, he, _, _, hb, hcs⟩ := sol_at_piece HH.out hs
   obtain ⟨rfl, -, rfl⟩ : ai = some ⟨b, off, none⟩ ∧ True ∧ c = c1 := by
    simp only [Value.slice.injEq] at he; exact ⟨he.1, trivial, he.2.2⟩
   have HCS := Lib.hid (And.intro hcs hs)
   have hcells := sol_cells (hcs.mono HI.out.2 hb) hs
   have lb : b < wr.heap.size := Nat.lt_of_lt_of_le hb HI.out.2.size
   have HG := Lib.hid (show m.getD i 0 = s by simp [List.getD, hs])
   clear he hs hcs
   by_cases hz : s = 0
   ·have ez : (s == 0#512) = true := beq_iff_eq.2 hz
    have HZ := Lib.hid hz; clear hz
    go_wp2_with fail
    go_ret
    refine ⟨?_, HI.out.2⟩
    rw [HE.out.2 (fun h => (h i hlt).1 (by rw [HG.out]; exact HZ.out))]; rfl
   ·have ez : (s == 0#512) = false := by rw [beq_eq_false_iff_ne]; exact hz
    have HZ := Lib.hid hz; clear hz
    go_wp2_with fail
    obtain ⟨wo, hwo⟩ : ∃ wo, wo = wr := ⟨_, rfl⟩
    subst hwo
    clear hcells lb ez
    go_loopw [4] (fun iv wx => ∃ (k : Nat), k ≤ i ∧ iv = .int .i64 k ∧ Hid ((∀ j, j < k → meets s (m.getD j 0) = false) ∧ Below w.heap.size w wx)) (fun iv _ => i - (intOf iv).toNat)
    case atStart => exact ⟨0, Nat.zero_le _, rfl, Lib.hid ⟨fun j hj => by omega, HI.out.2⟩⟩
    case round =>
     obtain ⟨k, hk, rfl, HK⟩ := hrel
     by_cases hki : k < i
     ·obtain ⟨t, ht⟩ : ∃ x, m[k]? = some x := ⟨_, List.getElem?_eq_getElem (by omega)⟩
      have HT := Lib.hid (And.intro ht (show m.getD k 0 = t by simp [List.getD, ht]))
      clear ht
      have hkm : (k : Int) < (m.length : Int) := by omega
      have him : (i : Int) < (m.length : Int) := by omega
      go_wp2_with fail
      obtain ⟨wp, hwp⟩ : ∃ wo, wo = wr := ⟨_, rfl⟩
      subst hwp
      go_loopw [5] (fun iv wx => ∃ (z : Nat), z ≤ 8 ∧ iv = .int .i64 z ∧ Hid ((∀ j, j < z → plv s j &&& plv t j = 0) ∧ Below w.heap.size w wx)) (fun iv _ => 8 - (intOf iv).toNat)
      case atStart => exact ⟨0, Nat.zero_le _, rfl, Lib.hid ⟨fun j hj => by omega, HK.out.2⟩⟩
      case round =>
       obtain ⟨z, hz8, rfl, HZZ⟩ := hrel
       by_cases hz : z < 8
       ·have hdz : decide ((z : Int) < 8) = true := decide_eq_true (by omega)
        have hzI : (z : Int) < 8 := by omega
        have cs := HCS.out.1.mono HZZ.out.2 hb
        have ci := sol_cellz cs HCS.out.2 hz
        have ck := sol_cellz cs HT.out.1 hz
        rw [pl_uI] at ci ck
        have lb : b < wr.heap.size := Nat.lt_of_lt_of_le hb HZZ.out.2.size
        have eb := bits_and_u (plv s z) (plv t z)
        clear cs
        by_cases hu : plv s z &&& plv t z = 0
        ·have hu2 : uI (plv s z &&& plv t z) = 0 := by rw [hu, uI_zero]
         have HU := Lib.hid hu; clear hu
         go_wp2_with fail
         refine Go.Rel.region_still_tail 13 (by kernel_rfl) (by kernel_rfl) ?_
         simp only [List.take_succ_cons, List.take_zero, List.drop_succ_cons, List.drop_zero]
         iterate 13 (with_reducible refine wpStill_yes (by kernel_rfl) (fun K hK => ?_); go_simp; refine hK _ ?_; clear hK K)
         refine wpStill_nil ?_
         go_wp2_with fail
         refine ⟨⟨z + 1, by omega, by simp, Lib.hid ⟨fun j hj => ?_, bel_drew HZZ.out.2⟩⟩, by simp [intOf]; omega⟩
         rcases Nat.lt_succ_iff_lt_or_eq.1 hj with h | rfl
         ·exact HZZ.out.1 j h
         ·exact HU.out
        ·have hu2 : ¬ (uI (plv s z &&& plv t z) = 0) := fun e => hu (uI_inj.1 (e.trans uI_zero.symm))
         have HU := Lib.hid hu; clear hu
         go_wp2_with fail
         refine Go.Rel.region_still_tail 13 (by kernel_rfl) (by kernel_rfl) ?_
         simp only [List.take_succ_cons, List.take_zero, List.drop_succ_cons, List.drop_zero]
         iterate 13 (with_reducible refine wpStill_yes (by kernel_rfl) (fun K hK => ?_); go_simp; refine hK _ ?_; clear hK K)
         refine wpStill_nil ?_
         go_wp2_with fail
         go_ret
         refine ⟨?_, bel_drew HZZ.out.2⟩
         rw [HE.out.2 (fun h => ?_)]
         ·rfl
         ·have h2 := (h i hlt).2 k hki
          rw [HG.out, HT.out.2] at h2
          exact HU.out ((meets_plv s t).1 h2 z hz)
       ·have hdz : decide ((z : Int) < 8) = false := decide_eq_false (by omega)
        have HM := Lib.hid (show meets s t = false from (meets_plv s t).2 fun j hj => HZZ.out.1 j (by omega))
        go_wp2_with fail
        refine ⟨⟨k + 1, by omega, by simp, Lib.hid ⟨fun j hj => ?_, HZZ.out.2⟩⟩, by simp [intOf]; omega⟩
        rcases Nat.lt_succ_iff_lt_or_eq.1 hj with h | rfl
        ·exact HK.out.1 j h
        ·rw [HT.out.2]; exact HM.out
     ·obtain rfl : k = i := by omega
      go_wp2_with fail
      refine ⟨⟨k + 1, by omega, by simp, Lib.hid ⟨fun j hj => ?_, HK.out.2⟩⟩, by simp [intOf]; omega⟩
      rcases Nat.lt_succ_iff_lt_or_eq.1 hj with h | rfl
      ·exact HI.out.1 j h
      ·rw [HG.out]; exact ⟨HZ.out, fun q hq => HK.out.1 q hq⟩
  ·obtain rfl : i = m.length := by omega
   go_wp2_with fail
   go_ret
   refine ⟨?_, HI.out.2⟩
   rw [HE.out.1 HI.out.1]; rfl
end Go.Proofs.YtlbhjikkpbknnaaGreatDoor
end
section
namespace Go.Proofs.YtlbhjikkpbknnaaGreatDoor
open Go.RowKit Go.Rel Go.Draw
set_option maxRecDepth 100000
/-! the reference's asked, blocked, InWay, Holds, CheckGo -/
theorem askE_one_eq (m : List Sol) (gone : List Int) (p : Int) : askE m gone [p] = if errM m ≠ 0 then errM m else if (setI m.length gone).isSome && decide (0 ≤ p) && decide (p < m.length) && !gone.contains p then 0 else 1 := by
 unfold askE
 by_cases h0 : errM m = 0
 ·rw [if_neg (by simpa using h0), if_neg (by simpa using h0)]
  have hn12 := (errM_zero.1 h0).1
  cases hs : setI m.length gone with
  | none => rfl
  | some G =>
   have hl := setI_list hn12 hs
   simp only [Option.isSome_some, Bool.true_and, List.any_cons, List.any_nil, Bool.or_false]
   unfold askF
   by_cases hp : 0 ≤ p
   ·obtain ⟨q, rfl⟩ : ∃ q : Nat, p = q := ⟨p.toNat, by omega⟩
    rw [hl, contains_listU, Int.toNat_natCast]
    by_cases hq : (q : Int) < m.length
    ·have e1 : decide ((q : Int) < 0) = false := decide_eq_false (by omega)
     have e2 : decide ((m.length : Int) ≤ (q : Int)) = false := decide_eq_false (by omega)
     rw [e1, e2, decide_eq_true hp, decide_eq_true hq]
     cases G.getLsbD q <;> rfl
    ·have e2 : decide ((m.length : Int) ≤ (q : Int)) = true := decide_eq_true (by omega)
     rw [e2, decide_eq_false hq]
     simp
   ·have e1 : decide (p < 0) = true := decide_eq_true (by omega)
    rw [e1, decide_eq_false hp]
    simp
 ·rw [if_pos h0, if_pos h0]
set_option maxHeartbeats 8000000 in
theorem refAsked_spec {w : World} {v gv : Value} {m : List Sol} {gone : List Int} (p : Int) (H : SlS w v m) (HG : SlI w gv gone) : Calls Tryz.prog 75 #[v, gv, .int .i64 p] w fun e w' => e = .returned (.int .i64 (askE m gone [p])) ∧ Below w.heap.size w w' := by
 obtain ⟨A, hA⟩ : ∃ A, A = askE m gone [p] := ⟨_, rfl⟩
 rw [← hA]
 rw [askE_one_eq] at hA
 obtain ⟨ai, nn, c, rfl, hnn, hc, hcm⟩ := H.out
 subst hnn
 have HH := Lib.hid (And.intro H HG)
 have H1 := Lib.hid (refMould_spec H)
 clear H HG
 obtain ⟨E, hE⟩ : ∃ E, E = errM m := ⟨_, rfl⟩
 rw [← hE] at H1 hA
 have HE := Lib.hid hE; have HA := Lib.hid hA; clear hE hA
 go_enter Tryz.func75, Tryz.ntmps75
 go_wp2_with fail
 refine H1.out.mono ?_
 rintro e w2 ⟨rfl, hb2⟩
 have HB := Lib.hid hb2; clear hb2
 by_cases h0 : E = 0
 ·subst h0
  have hn12 := (errM_zero.1 HE.out.symm).1
  have H2 := Lib.hid (IsSet_spec (HH.out.2.mono HB.out) hn12)
  have H3 := Lib.hid fun W (h : Below w2.heap.size w2 W) => In_spec p (HH.out.2.mono (HB.out.trans (h.mono HB.out.size)))
  go_wp2_with fail
  refine H2.out.mono ?_
  rintro e w3 ⟨rfl, hb3⟩
  have HB3 := Lib.hid hb3; clear hb3
  cases hs : (setI m.length gone).isSome
  ·have HS := Lib.hid hs; clear hs
   go_wp2_with fail
   go_ret
   exact ⟨by rw [HA.out, HS.out]; simp, HB.out.trans (HB3.out.mono HB.out.size)⟩
  ·have HS := Lib.hid hs; clear hs
   by_cases hp : 0 ≤ p ∧ p < m.length
   ·have d1 : decide (p < 0) = false := decide_eq_false (by omega)
    have d2 : decide ((m.length : Int) ≤ p) = false := decide_eq_false (by omega)
    have HP := Lib.hid hp; clear hp
    go_wp2_with fail
    refine (H3.out _ HB3.out).mono ?_
    rintro e w5 ⟨rfl, hw5⟩
    have hw6 := hw5.symm
    subst hw6
    clear hw5
    cases hct : gone.contains p
    ·have HC := Lib.hid hct; clear hct
     go_wp2_with fail
     go_ret
     exact ⟨by rw [HA.out, HS.out, HC.out]; simp [HP.out.1, HP.out.2], HB.out.trans (HB3.out.mono HB.out.size)⟩
    ·have HC := Lib.hid hct; clear hct
     go_wp2_with fail
     go_ret
     exact ⟨by rw [HA.out, HS.out, HC.out]; simp, HB.out.trans (HB3.out.mono HB.out.size)⟩
   ·have HP := Lib.hid hp; clear hp
    go_wp2_with fail
    all_goals first
     | (exfalso; exact HP.out (by omega))
     | (go_ret; refine ⟨?_, HB.out.trans (HB3.out.mono HB.out.size)⟩; rw [HA.out, if_neg (by simp), if_neg (by have := HP.out; rw [HS.out]; simp; intro h1 h2; exact absurd ⟨h1, h2⟩ this)]; rfl)
 ·have h1 : ¬ (E = 0) := h0
  go_wp2_with fail
  go_ret
  refine ⟨?_, HB.out⟩
  rw [HA.out, if_pos h1]; rfl
end Go.Proofs.YtlbhjikkpbknnaaGreatDoor
end
