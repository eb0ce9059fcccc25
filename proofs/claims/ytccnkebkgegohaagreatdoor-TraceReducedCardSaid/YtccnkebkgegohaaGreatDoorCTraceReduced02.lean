import Derived.Test.YtccnkebkgegohaaGreatDoorCTraceReduced01
/-
  For every input that is opened, the statement TraceReduced returns true and the input reads as before; with the contracts and laws that this wants. No conditions beyond the row.
-/
set_option linter.unusedVariables false
set_option linter.unusedSimpArgs false
set_option linter.unusedSectionVars false
section
namespace Go.Proofs.YtccnkebkgegohaaGreatDoor
open Go.RowKit Go.Rel
set_option maxRecDepth 100000
set_option maxHeartbeats 8000000 in
theorem TraceReduced_main (b : Sol) (l : List Sol) (m : List Ac) (t : StB) (R : Runs b l m t) (p q : Option Addr) (n c k d : Nat) (n1 n2 : Int) (w : World) (S : SlS w (.slice p n c) l) (A : SlA w (.slice q k d) m) (N : q = none → d = 0) (HKM : Hid (k = m.length)) (HM60 : Hid (m.length ≤ 60)) (hm : many k n = false) (HAL : AliveH w) (K : Nat) (hK : K ≤ k) (hKd : K ≤ d) (hk60 : k ≤ 60) (hwr : wrap64 ((k : Int) + 1) = (k : Int) + 1) (hwu : IntKind.u64.wrap ((k : Int) + 1) = (k : Int) + 1) (hnz : ¬ ((k : Int) + 1 = 0)) (hKK : wrap64 ((IntKind.u64.wrap n1).tmod ((k : Int) + 1)) = (K : Int)) :
    Calls Tryz.prog 3 #[.agg #[.int .u64 (pl b 0), .int .u64 (pl b 1), .int .u64 (pl b 2), .int .u64 (pl b 3), .int .u64 (pl b 4), .int .u64 (pl b 5), .int .u64 (pl b 6), .int .u64 (pl b 7), .slice p n c, .slice q k d], .int .i64 n1, .int .i64 n2] w fun e w' => e = .returned (.bool true) ∧ Below w.heap.size w w' := by
  have HSN : Hid (SlN w (.slice q k d) m) := Lib.hid ⟨A, fun n c e => by cases e; exact N rfl⟩
  have HS := Lib.hid (And.intro S A); clear S A N
  have HR := Lib.hid R; clear R
  go_enter Tryz.func3, Tryz.ntmps3
  go_wp2_with fail
  refine (few1 (b := b) (p := p) (q := q) (n := n) (c := c) (k := k) (d := d) (t := 30) _ (by repeat (first | with_reducible assumption | (refine Blk.at _ _ ?_; (simp; done)) | with_reducible refine Blk.alloc ?_ _ | with_reducible refine Blk.drew ?_ | with_reducible refine Blk.rowS ?_ _ | with_reducible refine Blk.rowO ?_ _ (by simp)))).mono ?_
  rw [hm]
  rintro e w1 ⟨rfl, hb⟩
  have g0 : Blk w1 w.heap.size #[.int .u64 (pl b 0), .int .u64 (pl b 1), .int .u64 (pl b 2), .int .u64 (pl b 3), .int .u64 (pl b 4), .int .u64 (pl b 5), .int .u64 (pl b 6), .int .u64 (pl b 7), .slice p n c, .slice q k d] 30 := Blk.grow (by repeat (first | with_reducible assumption | (refine Blk.at _ _ ?_; (simp; done)) | with_reducible refine Blk.alloc ?_ _ | with_reducible refine Blk.drew ?_ | with_reducible refine Blk.rowS ?_ _ | with_reducible refine Blk.rowO ?_ _ (by simp))) hb
  have hB : Below w.heap.size w w1 := bel_trans (by repeat (first | with_reducible exact bel_refl _ | with_reducible assumption | with_reducible refine bel_drewN ?_ _ | with_reducible refine bel_drew ?_ | with_reducible refine bel_alloc ?_ _ | with_reducible refine bel_row ?_ ?_ _ | with_reducible refine bel_set ?_ ?_ _ | refine bel_trans ?_ (by with_reducible assumption) | (simp; done) | (simp; omega))) hb
  have c0 := g0.cell
  have l0 := g0.lt
  clear hb
  go_wp2_with fail
  clear c0 l0
  refine (Reduced_r HR.out w1 (HS.out.1.mono hB) (HS.out.2.mono hB)).mono ?_
  rintro e w2 ⟨p1, n1', c1, q1, k1, d1, rfl, S1, A1, hb⟩
  replace g0 := g0.grow hb
  replace hB := bel_trans hB hb
  clear hb
  have HS1 := Lib.hid (And.intro S1 A1); clear S1 A1
  have c0 := g0.cell
  have l0 := g0.lt
  go_wp2_with fail
  clear c0 l0
  refine (Stand_r HR.out _ (HS.out.1.mono (hB.trans (((by repeat (first | with_reducible exact bel_refl _ | with_reducible assumption | with_reducible refine bel_drewN ?_ _ | with_reducible refine bel_drew ?_ | with_reducible refine bel_alloc ?_ _ | with_reducible refine bel_row ?_ ?_ _ | with_reducible refine bel_set ?_ ?_ _ | refine bel_trans ?_ (by with_reducible assumption) | (simp; done) | (simp; omega))) : Below w2.heap.size w2 _).mono hB.size))) (HS.out.2.mono (hB.trans (((by repeat (first | with_reducible exact bel_refl _ | with_reducible assumption | with_reducible refine bel_drewN ?_ _ | with_reducible refine bel_drew ?_ | with_reducible refine bel_alloc ?_ _ | with_reducible refine bel_row ?_ ?_ _ | with_reducible refine bel_set ?_ ?_ _ | refine bel_trans ?_ (by with_reducible assumption) | (simp; done) | (simp; omega))) : Below w2.heap.size w2 _).mono hB.size)))).mono ?_
  rintro e w3 ⟨rfl, hb⟩
  have g7 : Blk w3 w2.heap.size #[.int .u64 (pl b 0), .int .u64 (pl b 1), .int .u64 (pl b 2), .int .u64 (pl b 3), .int .u64 (pl b 4), .int .u64 (pl b 5), .int .u64 (pl b 6), .int .u64 (pl b 7), .slice p1 n1' c1, .slice q1 k1 d1] 30 := Blk.grow (by repeat (first | with_reducible assumption | (refine Blk.at _ _ ?_; (simp; done)) | with_reducible refine Blk.alloc ?_ _ | with_reducible refine Blk.drew ?_ | with_reducible refine Blk.rowS ?_ _ | with_reducible refine Blk.rowO ?_ _ (by simp))) hb
  have hbb : Below w2.heap.size w2 w3 := bel_trans (by repeat (first | with_reducible exact bel_refl _ | with_reducible assumption | with_reducible refine bel_drewN ?_ _ | with_reducible refine bel_drew ?_ | with_reducible refine bel_alloc ?_ _ | with_reducible refine bel_row ?_ ?_ _ | with_reducible refine bel_set ?_ ?_ _ | refine bel_trans ?_ (by with_reducible assumption) | (simp; done) | (simp; omega))) hb
  replace hB := bel_trans hB hbb
  replace g0 := g0.grow hbb
  replace HS1 := Lib.hid (And.intro (HS1.out.1.mono hbb) (HS1.out.2.mono hbb))
  clear hb hbb
  generalize w2.heap.size = B7 at *
  have c7 := g7.cell
  have l7 := g7.lt
  go_wp2_with fail
  clear c7 l7
  refine (Stand_r HR.out.red.nrm _ (HS1.out.1.mono ((by repeat (first | with_reducible exact bel_refl _ | with_reducible assumption | with_reducible refine bel_drewN ?_ _ | with_reducible refine bel_drew ?_ | with_reducible refine bel_alloc ?_ _ | with_reducible refine bel_row ?_ ?_ _ | with_reducible refine bel_set ?_ ?_ _ | refine bel_trans ?_ (by with_reducible assumption) | (simp; done) | (simp; omega))) : Below w3.heap.size w3 _)) (HS1.out.2.mono ((by repeat (first | with_reducible exact bel_refl _ | with_reducible assumption | with_reducible refine bel_drewN ?_ _ | with_reducible refine bel_drew ?_ | with_reducible refine bel_alloc ?_ _ | with_reducible refine bel_row ?_ ?_ _ | with_reducible refine bel_set ?_ ?_ _ | refine bel_trans ?_ (by with_reducible assumption) | (simp; done) | (simp; omega))) : Below w3.heap.size w3 _))).mono ?_
  rintro e w4 ⟨rfl, hb⟩
  have g9 : Blk w4 w3.heap.size #[.int .u64 (pl t.1 0), .int .u64 (pl t.1 1), .int .u64 (pl t.1 2), .int .u64 (pl t.1 3), .int .u64 (pl t.1 4), .int .u64 (pl t.1 5), .int .u64 (pl t.1 6), .int .u64 (pl t.1 7), .int .u8 (t.2.toNat : Int)] 37 := Blk.grow (by repeat (first | with_reducible assumption | (refine Blk.at _ _ ?_; (simp; done)) | with_reducible refine Blk.alloc ?_ _ | with_reducible refine Blk.drew ?_ | with_reducible refine Blk.rowS ?_ _ | with_reducible refine Blk.rowO ?_ _ (by simp))) hb
  have hbb : Below w3.heap.size w3 w4 := bel_trans (by repeat (first | with_reducible exact bel_refl _ | with_reducible assumption | with_reducible refine bel_drewN ?_ _ | with_reducible refine bel_drew ?_ | with_reducible refine bel_alloc ?_ _ | with_reducible refine bel_row ?_ ?_ _ | with_reducible refine bel_set ?_ ?_ _ | refine bel_trans ?_ (by with_reducible assumption) | (simp; done) | (simp; omega))) hb
  replace hB := bel_trans hB hbb
  replace g0 := g0.grow hbb
  replace g7 := g7.grow hbb
  replace HS1 := Lib.hid (And.intro (HS1.out.1.mono hbb) (HS1.out.2.mono hbb))
  clear hb hbb
  generalize w3.heap.size = B9 at *
  have c7 := g7.cell
  have l7 := g7.lt
  go_wp2_with fail
  clear c7 l7
  refine (Reduced_again HR.out _ (HS1.out.1.mono ((by repeat (first | with_reducible exact bel_refl _ | with_reducible assumption | with_reducible refine bel_drewN ?_ _ | with_reducible refine bel_drew ?_ | with_reducible refine bel_alloc ?_ _ | with_reducible refine bel_row ?_ ?_ _ | with_reducible refine bel_set ?_ ?_ _ | refine bel_trans ?_ (by with_reducible assumption) | (simp; done) | (simp; omega))) : Below w4.heap.size w4 _)) (HS1.out.2.mono ((by repeat (first | with_reducible exact bel_refl _ | with_reducible assumption | with_reducible refine bel_drewN ?_ _ | with_reducible refine bel_drew ?_ | with_reducible refine bel_alloc ?_ _ | with_reducible refine bel_row ?_ ?_ _ | with_reducible refine bel_set ?_ ?_ _ | refine bel_trans ?_ (by with_reducible assumption) | (simp; done) | (simp; omega))) : Below w4.heap.size w4 _))).mono ?_
  rintro e w5 ⟨p2, n2', c2, q2, k2, d2, rfl, S2, A2, hb⟩
  have g11 : Blk w5 w4.heap.size #[.int .u64 (pl t.1 0), .int .u64 (pl t.1 1), .int .u64 (pl t.1 2), .int .u64 (pl t.1 3), .int .u64 (pl t.1 4), .int .u64 (pl t.1 5), .int .u64 (pl t.1 6), .int .u64 (pl t.1 7), .int .u8 (t.2.toNat : Int)] 37 := Blk.grow (by repeat (first | with_reducible assumption | (refine Blk.at _ _ ?_; (simp; done)) | with_reducible refine Blk.alloc ?_ _ | with_reducible refine Blk.drew ?_ | with_reducible refine Blk.rowS ?_ _ | with_reducible refine Blk.rowO ?_ _ (by simp))) hb
  have hbb : Below w4.heap.size w4 w5 := bel_trans (by repeat (first | with_reducible exact bel_refl _ | with_reducible assumption | with_reducible refine bel_drewN ?_ _ | with_reducible refine bel_drew ?_ | with_reducible refine bel_alloc ?_ _ | with_reducible refine bel_row ?_ ?_ _ | with_reducible refine bel_set ?_ ?_ _ | refine bel_trans ?_ (by with_reducible assumption) | (simp; done) | (simp; omega))) hb
  replace hB := bel_trans hB hbb
  replace g0 := g0.grow hbb
  replace g7 := g7.grow hbb
  replace g9 := g9.grow hbb
  replace HS1 := Lib.hid (And.intro (HS1.out.1.mono hbb) (HS1.out.2.mono hbb))
  have HS2 := Lib.hid (And.intro S2 A2)
  clear hb hbb S2 A2
  generalize w4.heap.size = B11 at *
  have c7 := g7.cell
  have l7 := g7.lt
  have c9 := g9.cell
  have l9 := g9.lt
  have c11 := g11.cell
  have l11 := g11.lt
  go_wp2_with fail
  clear c7 l7 c9 l9 c11 l11
  refine (Same_eq _ (HS1.out.1.mono ((by repeat (first | with_reducible exact bel_refl _ | with_reducible assumption | with_reducible refine bel_drewN ?_ _ | with_reducible refine bel_drew ?_ | with_reducible refine bel_alloc ?_ _ | with_reducible refine bel_row ?_ ?_ _ | with_reducible refine bel_set ?_ ?_ _ | refine bel_trans ?_ (by with_reducible assumption) | (simp; done) | (simp; omega))) : Below w5.heap.size w5 _)) (HS1.out.2.mono ((by repeat (first | with_reducible exact bel_refl _ | with_reducible assumption | with_reducible refine bel_drewN ?_ _ | with_reducible refine bel_drew ?_ | with_reducible refine bel_alloc ?_ _ | with_reducible refine bel_row ?_ ?_ _ | with_reducible refine bel_set ?_ ?_ _ | refine bel_trans ?_ (by with_reducible assumption) | (simp; done) | (simp; omega))) : Below w5.heap.size w5 _)) (HS2.out.1.mono ((by repeat (first | with_reducible exact bel_refl _ | with_reducible assumption | with_reducible refine bel_drewN ?_ _ | with_reducible refine bel_drew ?_ | with_reducible refine bel_alloc ?_ _ | with_reducible refine bel_row ?_ ?_ _ | with_reducible refine bel_set ?_ ?_ _ | refine bel_trans ?_ (by with_reducible assumption) | (simp; done) | (simp; omega))) : Below w5.heap.size w5 _)) (HS2.out.2.mono ((by repeat (first | with_reducible exact bel_refl _ | with_reducible assumption | with_reducible refine bel_drewN ?_ _ | with_reducible refine bel_drew ?_ | with_reducible refine bel_alloc ?_ _ | with_reducible refine bel_row ?_ ?_ _ | with_reducible refine bel_set ?_ ?_ _ | refine bel_trans ?_ (by with_reducible assumption) | (simp; done) | (simp; omega))) : Below w5.heap.size w5 _))).mono ?_
  rintro e w6 ⟨rfl, hb⟩
  have hbb : Below w5.heap.size w5 w6 := bel_trans (by repeat (first | with_reducible exact bel_refl _ | with_reducible assumption | with_reducible refine bel_drewN ?_ _ | with_reducible refine bel_drew ?_ | with_reducible refine bel_alloc ?_ _ | with_reducible refine bel_row ?_ ?_ _ | with_reducible refine bel_set ?_ ?_ _ | refine bel_trans ?_ (by with_reducible assumption) | (simp; done) | (simp; omega))) hb
  replace hB := bel_trans hB hbb
  replace g0 := g0.grow hbb
  replace g7 := g7.grow hbb
  replace HS1 := Lib.hid (And.intro (HS1.out.1.mono hbb) (HS1.out.2.mono hbb))
  clear hb hbb HS2 g9 g11
  have c0 := g0.cell
  have l0 := g0.lt
  go_wp2_with fail
  clear c0 l0
  rw [hKK]
  go_loopw [84] (fun i wr => ∃ j : Nat, j ≤ 2 ∧ i = .int .i64 j ∧ Hid (SlS wr (.slice p1 n1' c1) l ∧ SlA wr (.slice q1 k1 d1) (nrm l (redL l m))) ∧ Blk wr w.heap.size #[.int .u64 (pl b 0), .int .u64 (pl b 1), .int .u64 (pl b 2), .int .u64 (pl b 3), .int .u64 (pl b 4), .int .u64 (pl b 5), .int .u64 (pl b 6), .int .u64 (pl b 7), .slice p n c, .slice q k d] 30 ∧ Blk wr B7 #[.int .u64 (pl b 0), .int .u64 (pl b 1), .int .u64 (pl b 2), .int .u64 (pl b 3), .int .u64 (pl b 4), .int .u64 (pl b 5), .int .u64 (pl b 6), .int .u64 (pl b 7), .slice p1 n1' c1, .slice q1 k1 d1] 30 ∧ Below w.heap.size w wr) (fun i _ => 2 - (intOf i).toNat)
  case atStart => exact ⟨0, by omega, rfl, HS1, g0, g7, hB⟩
  case round =>
    clear g0 g7 HS1 hB
    obtain ⟨j, hj, rfl, HS1, g0, g7, hB⟩ := hrel
    have hj3 : j = 0 ∨ j = 1 ∨ j = 2 := by omega
    rcases hj3 with rfl | rfl | rfl
    · clear hj
      have c0 := g0.cell
      have l0 := g0.lt
      go_wp2_with fail
      clear c0 l0
      have gk : Blk (wr.alloc (.cells (#[.int .u8 2, .int .u8 3] : Array Value) 42)) wr.heap.size (#[.int .u8 2, .int .u8 3] : Array Value) 42 := Blk.new _ _ _
      have hbb : Below wr.heap.size wr (wr.alloc (.cells (#[.int .u8 2, .int .u8 3] : Array Value) 42)) := bel_alloc (bel_refl _) _
      replace hB := bel_trans hB hbb
      replace g0 := g0.grow hbb
      replace g7 := g7.grow hbb
      replace HS1 := Lib.hid (And.intro (HS1.out.1.mono hbb) (HS1.out.2.mono hbb))
      clear hbb
      generalize wr.alloc (.cells (#[.int .u8 2, .int .u8 3] : Array Value) 42) = wk0 at *
      generalize wr.heap.size = Bk0 at *
      have HA : Hid (SlN wk0 (.slice q k d) m) := Lib.hid (HSN.out.mono hB)
      have c0 := g0.cell
      have l0 := g0.lt
      have ck := gk.cell
      have lk := gk.lt
      refine wp_region_inv Grows (fun _ _ => True) [Is (.pointer (some ⟨w.heap.size, 9, none⟩)), Is (.slice q k d), Is (.int .i64 (K : Int)), Is (.int .i64 (K : Int)), VSN (m.take K), Is (.pointer (some ⟨Bk0, 0, none⟩)), Is (.int .u8 2), Is (.int .i64 n2), Is (.agg #[.int .u8 2, .int .i64 n2, .int .u64 0, .int .u64 0, .int .u64 0, .int .u64 0, .int .u64 0, .int .u64 0, .int .u64 0, .int .u64 0]), Is (.pointer (some ⟨Bk0, 1, none⟩)), Is (.int .u8 3), Is (.int .i64 n2), Is (.agg #[.int .u8 3, .int .i64 n2, .int .u64 0, .int .u64 0, .int .u64 0, .int .u64 0, .int .u64 0, .int .u64 0, .int .u64 0, .int .u64 0]), VPair 2 3 n2, Is (.pointer (some ⟨w.heap.size, 9, none⟩)), Is (.slice q k d), Is (.int .i64 (K : Int)), VSN (m.drop K), VTri (m.take K) (pairL 2 3 n2) (m.drop K), VSA (insL 2 3 n2 K m), VSA (insL 2 3 n2 K m)] (by kernel_rfl) (by kernel_rfl) rfl Grows.refl (fun _ _ _ => Grows.trans) (stable_mem ⟨fun _ _ _ h _ => h, fun _ _ _ h _ => h, fun _ _ _ h _ => h, fun _ _ _ h _ => h, VSN.stable, fun _ _ _ h _ => h, fun _ _ _ h _ => h, fun _ _ _ h _ => h, fun _ _ _ h _ => h, fun _ _ _ h _ => h, fun _ _ _ h _ => h, fun _ _ _ h _ => h, fun _ _ _ h _ => h, VPair.stable, fun _ _ _ h _ => h, fun _ _ _ h _ => h, fun _ _ _ h _ => h, VSN.stable, VTri.stable, VSA.stable, VSA.stable, trivial⟩) _ (Below.drew (Below.refl _ _)) trivial ?_
      refine inv_cons ?_ (fun v0 => ?_)
      · intro L w1 hat hb hI hF
        have hc := (Grows.cells hb).1
        try simp [factsI, Region.binds, Is] at hF
        go_simp
        try exact Grows.refl _
      refine inv_cons ?_ (fun v1 => ?_)
      · intro L w1 hat hb hI hF
        have hc := (Grows.cells hb).1
        try simp [factsI, Region.binds, Is] at hF
        go_simp
        try exact Grows.refl _
      refine inv_cons ?_ (fun v2 => ?_)
      · intro L w1 hat hb hI hF
        have hc := (Grows.cells hb).1
        try simp [factsI, Region.binds, Is] at hF
        go_simp
        try exact Grows.refl _
      refine inv_cons ?_ (fun v3 => ?_)
      · intro L w1 hat hb hI hF
        have hc := (Grows.cells hb).1
        try simp [factsI, Region.binds, Is] at hF
        go_simp
        try exact Grows.refl _
      refine inv_cons ?_ (fun v4 => ?_)
      · intro L w1 hat hb hI hF
        have hc := (Grows.cells hb).1
        try simp [factsI, Region.binds, Is] at hF
        have h := Lib.hid (sln_take (HA.out.mono hb).1 hK)
        go_simp
        exact ⟨Grows.refl _, by unfold VSN; exact h.out⟩
      refine inv_cons ?_ (fun v5 => ?_)
      · intro L w1 hat hb hI hF
        have hc := (Grows.cells hb).1
        try simp [factsI, Region.binds, Is] at hF
        go_simp
        try exact Grows.refl _
      refine inv_cons ?_ (fun v6 => ?_)
      · intro L w1 hat hb hI hF
        have hc := (Grows.cells hb).1
        try simp [factsI, Region.binds, Is] at hF
        go_simp
        try exact Grows.refl _
      refine inv_cons ?_ (fun v7 => ?_)
      · intro L w1 hat hb hI hF
        have hc := (Grows.cells hb).1
        try simp [factsI, Region.binds, Is] at hF
        go_simp
        try exact Grows.refl _
      refine inv_cons ?_ (fun v8 => ?_)
      · intro L w1 hat hb hI hF
        have hc := (Grows.cells hb).1
        try simp [factsI, Region.binds, Is] at hF
        go_simp
        try exact Grows.refl _
      refine inv_cons ?_ (fun v9 => ?_)
      · intro L w1 hat hb hI hF
        have hc := (Grows.cells hb).1
        try simp [factsI, Region.binds, Is] at hF
        go_simp
        try exact Grows.refl _
      refine inv_cons ?_ (fun v10 => ?_)
      · intro L w1 hat hb hI hF
        have hc := (Grows.cells hb).1
        try simp [factsI, Region.binds, Is] at hF
        go_simp
        try exact Grows.refl _
      refine inv_cons ?_ (fun v11 => ?_)
      · intro L w1 hat hb hI hF
        have hc := (Grows.cells hb).1
        try simp [factsI, Region.binds, Is] at hF
        go_simp
        try exact Grows.refl _
      refine inv_cons ?_ (fun v12 => ?_)
      · intro L w1 hat hb hI hF
        have hc := (Grows.cells hb).1
        try simp [factsI, Region.binds, Is] at hF
        go_simp
        try exact Grows.refl _
      refine inv_cons ?_ (fun v13 => ?_)
      · intro L w1 hat hb hI hF
        have hc := (Grows.cells hb).1
        try simp [factsI, Region.binds, Is] at hF
        go_simp
        exact ⟨bel_alloc (bel_refl _) _, by unfold VPair; exact ⟨_, rfl, Blk.new _ _ _⟩⟩
      refine inv_cons ?_ (fun v14 => ?_)
      · intro L w1 hat hb hI hF
        have hc := (Grows.cells hb).1
        try simp [factsI, Region.binds, Is] at hF
        go_simp
        try exact Grows.refl _
      refine inv_cons ?_ (fun v15 => ?_)
      · intro L w1 hat hb hI hF
        have hc := (Grows.cells hb).1
        try simp [factsI, Region.binds, Is] at hF
        go_simp
        try exact Grows.refl _
      refine inv_cons ?_ (fun v16 => ?_)
      · intro L w1 hat hb hI hF
        have hc := (Grows.cells hb).1
        try simp [factsI, Region.binds, Is] at hF
        go_simp
        try exact Grows.refl _
      refine inv_cons ?_ (fun v17 => ?_)
      · intro L w1 hat hb hI hF
        have hc := (Grows.cells hb).1
        try simp [factsI, Region.binds, Is] at hF
        have h := Lib.hid (sln_drop (HA.out.mono hb) hK)
        go_simp
        exact ⟨Grows.refl _, by unfold VSN; exact h.out⟩
      refine inv_cons ?_ (fun v18 => ?_)
      · intro L w1 hat hb hI hF
        have hc := (Grows.cells hb).1
        try simp [factsI, Region.binds, Is] at hF
        have h4 := hF.1
        have h13 := hF.2.1
        have h17 := hF.2.2
        clear hF
        unfold VSN at h4 h17
        unfold VPair at h13
        refine Exists.elim h4.shape (fun a4 h => Exists.elim h (fun n4 h => Exists.elim h (fun c4 e4 => ?_)))
        refine Exists.elim h17.shape (fun a17 h => Exists.elim h (fun n17 h => Exists.elim h (fun c17 e17 => ?_)))
        refine Exists.elim h13 (fun g13 h => ?_)
        have e13 := h.1
        subst e4
        subst e17
        subst e13
        have HH := Lib.hid (And.intro h4 (And.intro (pair_sl h.2) h17))
        clear h4 h13 h17 h
        go_simp
        exact ⟨bel_alloc (bel_refl _) _, by unfold VTri; exact ⟨_, _, _, _, rfl, Blk.new _ _ _, HH.out.1.mono (bel_alloc (bel_refl _) _), HH.out.2.1.mono (bel_alloc (bel_refl _) _), HH.out.2.2.mono (bel_alloc (bel_refl _) _)⟩⟩
      refine inv_cons ?_ (fun v19 => ?_)
      · intro L w1 hat hb hI hF
        have hc := (Grows.cells hb).1
        try simp [factsI, Region.binds, Is] at hF
        have HF := Lib.hid hF; clear hF
        go_simp
        refine (concat_ins _ HF.out HM60.out).mono ?_
        rintro e w' ⟨u, rfl, hg, hv⟩
        exact ⟨u, rfl, hg, hv⟩
      refine inv_cons ?_ (fun v20 => ?_)
      · intro L w1 hat hb hI hF
        have hc := (Grows.cells hb).1
        try simp [factsI, Region.binds, Is] at hF
        go_simp
        exact Grows.refl _
      refine inv_nil ?_
      intro w1 hb hI hF
      simp [Is, Nat.forall_lt_succ_right] at hF
      have e0 := hF.1.1.1.1.1.1.1.1.1.1.1.1.1.1.1.1.1.1.1.1
      have e1 := hF.1.1.1.1.1.1.1.1.1.1.1.1.1.1.1.1.1.1.1.2
      have e2 := hF.1.1.1.1.1.1.1.1.1.1.1.1.1.1.1.1.1.1.2
      have e3 := hF.1.1.1.1.1.1.1.1.1.1.1.1.1.1.1.1.1.2
      have e4 := hF.1.1.1.1.1.1.1.1.1.1.1.1.1.1.1.1.2
      have e5 := hF.1.1.1.1.1.1.1.1.1.1.1.1.1.1.1.2
      have e6 := hF.1.1.1.1.1.1.1.1.1.1.1.1.1.1.2
      have e7 := hF.1.1.1.1.1.1.1.1.1.1.1.1.1.2
      have e8 := hF.1.1.1.1.1.1.1.1.1.1.1.1.2
      have e9 := hF.1.1.1.1.1.1.1.1.1.1.1.2
      have e10 := hF.1.1.1.1.1.1.1.1.1.1.2
      have e11 := hF.1.1.1.1.1.1.1.1.1.2
      have e12 := hF.1.1.1.1.1.1.1.1.2
      have e13 := hF.1.1.1.1.1.1.1.2
      have e14 := hF.1.1.1.1.1.1.2
      have e15 := hF.1.1.1.1.1.2
      have e16 := hF.1.1.1.1.2
      have e17 := hF.1.1.1.2
      have e18 := hF.1.1.2
      have e19 := hF.1.2
      have e20 := hF.2
      clear hF
      simp only [Act.put, List.setIfInBounds_toArray, List.set_cons_succ, List.set_cons_zero, e0, e1, e2, e3, e5, e6, e7, e8, e9, e10, e11, e12, e14, e15, e16]
      clear e0 e1 e2 e3 e5 e6 e7 e8 e9 e10 e11 e12 e14 e15 e16
      clear e4 e13 e17 e18 e19 c0 l0 ck lk hI
      unfold VSA at e20
      have HE := Lib.hid e20
      refine Veil.out ?_
      obtain ⟨ai, ni, ci, hvi⟩ := sla_shape e20
      refine Veil.on ?_
      subst hvi
      clear e20
      replace hB := bel_trans hB hb
      replace g0 := g0.grow hb
      replace g7 := g7.grow hb
      replace HS1 := Lib.hid (And.intro (HS1.out.1.mono hb) (HS1.out.2.mono hb))
      clear gk HA hb
      have c0 := g0.cell
      have l0 := g0.lt
      go_wp2_with fail
      clear c0 l0
      refine (Reduced_any b l (insL 2 3 n2 K m) _ (HS.out.1.mono hB) HE.out).mono ?_
      rintro e wr0 ⟨B', L', M', E', ⟨pr, nr, cr, qr, kr, dr, rfl, Sr, Ar, hb⟩, hE⟩
      replace hB := bel_trans hB hb
      replace g0 := g0.grow hb
      replace g7 := g7.grow hb
      replace HS1 := Lib.hid (And.intro (HS1.out.1.mono hb) (HS1.out.2.mono hb))
      clear HE hb
      by_cases hE0 : E' = 0
      · obtain ⟨h1, h2, h3⟩ := hE hE0
        replace h1 := h1.symm
        replace h2 := h2.symm
        replace h3 := h3.symm
        subst hE0
        subst h1
        subst h2
        subst h3
        rw [ins_red l n2 K m 2 3 (by decide)] at Ar
        have HS2 := Lib.hid (And.intro Sr Ar)
        clear Sr Ar hE
        have c7 := g7.cell
        have l7 := g7.lt
        go_wp2_with fail
        clear c7 l7
        refine (Same_eq _ (HS1.out.1.mono ((by repeat (first | with_reducible exact bel_refl _ | with_reducible assumption | with_reducible refine bel_drewN ?_ _ | with_reducible refine bel_drew ?_ | with_reducible refine bel_alloc ?_ _ | with_reducible refine bel_row ?_ ?_ _ | with_reducible refine bel_set ?_ ?_ _ | refine bel_trans ?_ (by with_reducible assumption) | (simp; done) | (simp; omega))) : Below wr0.heap.size wr0 _)) (HS1.out.2.mono ((by repeat (first | with_reducible exact bel_refl _ | with_reducible assumption | with_reducible refine bel_drewN ?_ _ | with_reducible refine bel_drew ?_ | with_reducible refine bel_alloc ?_ _ | with_reducible refine bel_row ?_ ?_ _ | with_reducible refine bel_set ?_ ?_ _ | refine bel_trans ?_ (by with_reducible assumption) | (simp; done) | (simp; omega))) : Below wr0.heap.size wr0 _)) (HS2.out.1.mono ((by repeat (first | with_reducible exact bel_refl _ | with_reducible assumption | with_reducible refine bel_drewN ?_ _ | with_reducible refine bel_drew ?_ | with_reducible refine bel_alloc ?_ _ | with_reducible refine bel_row ?_ ?_ _ | with_reducible refine bel_set ?_ ?_ _ | refine bel_trans ?_ (by with_reducible assumption) | (simp; done) | (simp; omega))) : Below wr0.heap.size wr0 _)) (HS2.out.2.mono ((by repeat (first | with_reducible exact bel_refl _ | with_reducible assumption | with_reducible refine bel_drewN ?_ _ | with_reducible refine bel_drew ?_ | with_reducible refine bel_alloc ?_ _ | with_reducible refine bel_row ?_ ?_ _ | with_reducible refine bel_set ?_ ?_ _ | refine bel_trans ?_ (by with_reducible assumption) | (simp; done) | (simp; omega))) : Below wr0.heap.size wr0 _))).mono ?_
        rintro e ws0 ⟨rfl, hb⟩
        have hbb : Below wr0.heap.size wr0 ws0 := bel_trans (by repeat (first | with_reducible exact bel_refl _ | with_reducible assumption | with_reducible refine bel_drewN ?_ _ | with_reducible refine bel_drew ?_ | with_reducible refine bel_alloc ?_ _ | with_reducible refine bel_row ?_ ?_ _ | with_reducible refine bel_set ?_ ?_ _ | refine bel_trans ?_ (by with_reducible assumption) | (simp; done) | (simp; omega))) hb
        replace hB := bel_trans hB hbb
        replace g0 := g0.grow hbb
        replace g7 := g7.grow hbb
        replace HS1 := Lib.hid (And.intro (HS1.out.1.mono hbb) (HS1.out.2.mono hbb))
        clear hb hbb HS2
        go_wp2_with fail
        go_roundw
        case rel => exact ⟨1, by omega, by go_num, HS1, g0, g7, hB⟩
        case measure => simp [intOf]
      · have hE1 : (E' == 0) = false := by simpa using hE0
        clear hE hE0 Sr Ar
        go_wp2_with fail
        have hbb : Below wr0.heap.size wr0 (wr0.alloc (.cells (#[.int .u64 (pl B' 0), .int .u64 (pl B' 1), .int .u64 (pl B' 2), .int .u64 (pl B' 3), .int .u64 (pl B' 4), .int .u64 (pl B' 5), .int .u64 (pl B' 6), .int .u64 (pl B' 7), .slice pr nr cr, .slice qr kr dr] : Array Value) 30)) := bel_alloc (bel_refl _) _
        go_roundw
        case rel => exact ⟨1, by omega, by go_num, Lib.hid (And.intro (HS1.out.1.mono hbb) (HS1.out.2.mono hbb)), g0.grow hbb, g7.grow hbb, bel_trans hB hbb⟩
        case measure => simp [intOf]
    · clear hj
      have c0 := g0.cell
      have l0 := g0.lt
      go_wp2_with fail
      clear c0 l0
      have gk : Blk (wr.alloc (.cells (#[.int .u8 3, .int .u8 2] : Array Value) 42)) wr.heap.size (#[.int .u8 3, .int .u8 2] : Array Value) 42 := Blk.new _ _ _
      have hbb : Below wr.heap.size wr (wr.alloc (.cells (#[.int .u8 3, .int .u8 2] : Array Value) 42)) := bel_alloc (bel_refl _) _
      replace hB := bel_trans hB hbb
      replace g0 := g0.grow hbb
      replace g7 := g7.grow hbb
      replace HS1 := Lib.hid (And.intro (HS1.out.1.mono hbb) (HS1.out.2.mono hbb))
      clear hbb
      generalize wr.alloc (.cells (#[.int .u8 3, .int .u8 2] : Array Value) 42) = wk1 at *
      generalize wr.heap.size = Bk1 at *
      have HA : Hid (SlN wk1 (.slice q k d) m) := Lib.hid (HSN.out.mono hB)
      have c0 := g0.cell
      have l0 := g0.lt
      have ck := gk.cell
      have lk := gk.lt
      refine wp_region_inv Grows (fun _ _ => True) [Is (.pointer (some ⟨w.heap.size, 9, none⟩)), Is (.slice q k d), Is (.int .i64 (K : Int)), Is (.int .i64 (K : Int)), VSN (m.take K), Is (.pointer (some ⟨Bk1, 0, none⟩)), Is (.int .u8 3), Is (.int .i64 n2), Is (.agg #[.int .u8 3, .int .i64 n2, .int .u64 0, .int .u64 0, .int .u64 0, .int .u64 0, .int .u64 0, .int .u64 0, .int .u64 0, .int .u64 0]), Is (.pointer (some ⟨Bk1, 1, none⟩)), Is (.int .u8 2), Is (.int .i64 n2), Is (.agg #[.int .u8 2, .int .i64 n2, .int .u64 0, .int .u64 0, .int .u64 0, .int .u64 0, .int .u64 0, .int .u64 0, .int .u64 0, .int .u64 0]), VPair 3 2 n2, Is (.pointer (some ⟨w.heap.size, 9, none⟩)), Is (.slice q k d), Is (.int .i64 (K : Int)), VSN (m.drop K), VTri (m.take K) (pairL 3 2 n2) (m.drop K), VSA (insL 3 2 n2 K m), VSA (insL 3 2 n2 K m)] (by kernel_rfl) (by kernel_rfl) rfl Grows.refl (fun _ _ _ => Grows.trans) (stable_mem ⟨fun _ _ _ h _ => h, fun _ _ _ h _ => h, fun _ _ _ h _ => h, fun _ _ _ h _ => h, VSN.stable, fun _ _ _ h _ => h, fun _ _ _ h _ => h, fun _ _ _ h _ => h, fun _ _ _ h _ => h, fun _ _ _ h _ => h, fun _ _ _ h _ => h, fun _ _ _ h _ => h, fun _ _ _ h _ => h, VPair.stable, fun _ _ _ h _ => h, fun _ _ _ h _ => h, fun _ _ _ h _ => h, VSN.stable, VTri.stable, VSA.stable, VSA.stable, trivial⟩) _ (Below.drew (Below.refl _ _)) trivial ?_
      refine inv_cons ?_ (fun v0 => ?_)
      · intro L w1 hat hb hI hF
        have hc := (Grows.cells hb).1
        try simp [factsI, Region.binds, Is] at hF
        go_simp
        try exact Grows.refl _
      refine inv_cons ?_ (fun v1 => ?_)
      · intro L w1 hat hb hI hF
        have hc := (Grows.cells hb).1
        try simp [factsI, Region.binds, Is] at hF
        go_simp
        try exact Grows.refl _
      refine inv_cons ?_ (fun v2 => ?_)
      · intro L w1 hat hb hI hF
        have hc := (Grows.cells hb).1
        try simp [factsI, Region.binds, Is] at hF
        go_simp
        try exact Grows.refl _
      refine inv_cons ?_ (fun v3 => ?_)
      · intro L w1 hat hb hI hF
        have hc := (Grows.cells hb).1
        try simp [factsI, Region.binds, Is] at hF
        go_simp
        try exact Grows.refl _
      refine inv_cons ?_ (fun v4 => ?_)
      · intro L w1 hat hb hI hF
        have hc := (Grows.cells hb).1
        try simp [factsI, Region.binds, Is] at hF
        have h := Lib.hid (sln_take (HA.out.mono hb).1 hK)
        go_simp
        exact ⟨Grows.refl _, by unfold VSN; exact h.out⟩
      refine inv_cons ?_ (fun v5 => ?_)
      · intro L w1 hat hb hI hF
        have hc := (Grows.cells hb).1
        try simp [factsI, Region.binds, Is] at hF
        go_simp
        try exact Grows.refl _
      refine inv_cons ?_ (fun v6 => ?_)
      · intro L w1 hat hb hI hF
        have hc := (Grows.cells hb).1
        try simp [factsI, Region.binds, Is] at hF
        go_simp
        try exact Grows.refl _
      refine inv_cons ?_ (fun v7 => ?_)
      · intro L w1 hat hb hI hF
        have hc := (Grows.cells hb).1
        try simp [factsI, Region.binds, Is] at hF
        go_simp
        try exact Grows.refl _
      refine inv_cons ?_ (fun v8 => ?_)
      · intro L w1 hat hb hI hF
        have hc := (Grows.cells hb).1
        try simp [factsI, Region.binds, Is] at hF
        go_simp
        try exact Grows.refl _
      refine inv_cons ?_ (fun v9 => ?_)
      · intro L w1 hat hb hI hF
        have hc := (Grows.cells hb).1
        try simp [factsI, Region.binds, Is] at hF
        go_simp
        try exact Grows.refl _
      refine inv_cons ?_ (fun v10 => ?_)
      · intro L w1 hat hb hI hF
        have hc := (Grows.cells hb).1
        try simp [factsI, Region.binds, Is] at hF
        go_simp
        try exact Grows.refl _
      refine inv_cons ?_ (fun v11 => ?_)
      · intro L w1 hat hb hI hF
        have hc := (Grows.cells hb).1
        try simp [factsI, Region.binds, Is] at hF
        go_simp
        try exact Grows.refl _
      refine inv_cons ?_ (fun v12 => ?_)
      · intro L w1 hat hb hI hF
        have hc := (Grows.cells hb).1
        try simp [factsI, Region.binds, Is] at hF
        go_simp
        try exact Grows.refl _
      refine inv_cons ?_ (fun v13 => ?_)
      · intro L w1 hat hb hI hF
        have hc := (Grows.cells hb).1
        try simp [factsI, Region.binds, Is] at hF
        go_simp
        exact ⟨bel_alloc (bel_refl _) _, by unfold VPair; exact ⟨_, rfl, Blk.new _ _ _⟩⟩
      refine inv_cons ?_ (fun v14 => ?_)
      · intro L w1 hat hb hI hF
        have hc := (Grows.cells hb).1
        try simp [factsI, Region.binds, Is] at hF
        go_simp
        try exact Grows.refl _
      refine inv_cons ?_ (fun v15 => ?_)
      · intro L w1 hat hb hI hF
        have hc := (Grows.cells hb).1
        try simp [factsI, Region.binds, Is] at hF
        go_simp
        try exact Grows.refl _
      refine inv_cons ?_ (fun v16 => ?_)
      · intro L w1 hat hb hI hF
        have hc := (Grows.cells hb).1
        try simp [factsI, Region.binds, Is] at hF
        go_simp
        try exact Grows.refl _
      refine inv_cons ?_ (fun v17 => ?_)
      · intro L w1 hat hb hI hF
        have hc := (Grows.cells hb).1
        try simp [factsI, Region.binds, Is] at hF
        have h := Lib.hid (sln_drop (HA.out.mono hb) hK)
        go_simp
        exact ⟨Grows.refl _, by unfold VSN; exact h.out⟩
      refine inv_cons ?_ (fun v18 => ?_)
      · intro L w1 hat hb hI hF
        have hc := (Grows.cells hb).1
        try simp [factsI, Region.binds, Is] at hF
        have h4 := hF.1
        have h13 := hF.2.1
        have h17 := hF.2.2
        clear hF
        unfold VSN at h4 h17
        unfold VPair at h13
        refine Exists.elim h4.shape (fun a4 h => Exists.elim h (fun n4 h => Exists.elim h (fun c4 e4 => ?_)))
        refine Exists.elim h17.shape (fun a17 h => Exists.elim h (fun n17 h => Exists.elim h (fun c17 e17 => ?_)))
        refine Exists.elim h13 (fun g13 h => ?_)
        have e13 := h.1
        subst e4
        subst e17
        subst e13
        have HH := Lib.hid (And.intro h4 (And.intro (pair_sl h.2) h17))
        clear h4 h13 h17 h
        go_simp
        exact ⟨bel_alloc (bel_refl _) _, by unfold VTri; exact ⟨_, _, _, _, rfl, Blk.new _ _ _, HH.out.1.mono (bel_alloc (bel_refl _) _), HH.out.2.1.mono (bel_alloc (bel_refl _) _), HH.out.2.2.mono (bel_alloc (bel_refl _) _)⟩⟩
      refine inv_cons ?_ (fun v19 => ?_)
      · intro L w1 hat hb hI hF
        have hc := (Grows.cells hb).1
        try simp [factsI, Region.binds, Is] at hF
        have HF := Lib.hid hF; clear hF
        go_simp
        refine (concat_ins _ HF.out HM60.out).mono ?_
        rintro e w' ⟨u, rfl, hg, hv⟩
        exact ⟨u, rfl, hg, hv⟩
      refine inv_cons ?_ (fun v20 => ?_)
      · intro L w1 hat hb hI hF
        have hc := (Grows.cells hb).1
        try simp [factsI, Region.binds, Is] at hF
        go_simp
        exact Grows.refl _
      refine inv_nil ?_
      intro w1 hb hI hF
      simp [Is, Nat.forall_lt_succ_right] at hF
      have e0 := hF.1.1.1.1.1.1.1.1.1.1.1.1.1.1.1.1.1.1.1.1
      have e1 := hF.1.1.1.1.1.1.1.1.1.1.1.1.1.1.1.1.1.1.1.2
      have e2 := hF.1.1.1.1.1.1.1.1.1.1.1.1.1.1.1.1.1.1.2
      have e3 := hF.1.1.1.1.1.1.1.1.1.1.1.1.1.1.1.1.1.2
      have e4 := hF.1.1.1.1.1.1.1.1.1.1.1.1.1.1.1.1.2
      have e5 := hF.1.1.1.1.1.1.1.1.1.1.1.1.1.1.1.2
      have e6 := hF.1.1.1.1.1.1.1.1.1.1.1.1.1.1.2
      have e7 := hF.1.1.1.1.1.1.1.1.1.1.1.1.1.2
      have e8 := hF.1.1.1.1.1.1.1.1.1.1.1.1.2
      have e9 := hF.1.1.1.1.1.1.1.1.1.1.1.2
      have e10 := hF.1.1.1.1.1.1.1.1.1.1.2
      have e11 := hF.1.1.1.1.1.1.1.1.1.2
      have e12 := hF.1.1.1.1.1.1.1.1.2
      have e13 := hF.1.1.1.1.1.1.1.2
      have e14 := hF.1.1.1.1.1.1.2
      have e15 := hF.1.1.1.1.1.2
      have e16 := hF.1.1.1.1.2
      have e17 := hF.1.1.1.2
      have e18 := hF.1.1.2
      have e19 := hF.1.2
      have e20 := hF.2
      clear hF
      simp only [Act.put, List.setIfInBounds_toArray, List.set_cons_succ, List.set_cons_zero, e0, e1, e2, e3, e5, e6, e7, e8, e9, e10, e11, e12, e14, e15, e16]
      clear e0 e1 e2 e3 e5 e6 e7 e8 e9 e10 e11 e12 e14 e15 e16
      clear e4 e13 e17 e18 e19 c0 l0 ck lk hI
      unfold VSA at e20
      have HE := Lib.hid e20
      refine Veil.out ?_
      obtain ⟨ai, ni, ci, hvi⟩ := sla_shape e20
      refine Veil.on ?_
      subst hvi
      clear e20
      replace hB := bel_trans hB hb
      replace g0 := g0.grow hb
      replace g7 := g7.grow hb
      replace HS1 := Lib.hid (And.intro (HS1.out.1.mono hb) (HS1.out.2.mono hb))
      clear gk HA hb
      have c0 := g0.cell
      have l0 := g0.lt
      go_wp2_with fail
      clear c0 l0
      refine (Reduced_any b l (insL 3 2 n2 K m) _ (HS.out.1.mono hB) HE.out).mono ?_
      rintro e wr1 ⟨B', L', M', E', ⟨pr, nr, cr, qr, kr, dr, rfl, Sr, Ar, hb⟩, hE⟩
      replace hB := bel_trans hB hb
      replace g0 := g0.grow hb
      replace g7 := g7.grow hb
      replace HS1 := Lib.hid (And.intro (HS1.out.1.mono hb) (HS1.out.2.mono hb))
      clear HE hb
      by_cases hE0 : E' = 0
      · obtain ⟨h1, h2, h3⟩ := hE hE0
        replace h1 := h1.symm
        replace h2 := h2.symm
        replace h3 := h3.symm
        subst hE0
        subst h1
        subst h2
        subst h3
        rw [ins_red l n2 K m 3 2 (by decide)] at Ar
        have HS2 := Lib.hid (And.intro Sr Ar)
        clear Sr Ar hE
        have c7 := g7.cell
        have l7 := g7.lt
        go_wp2_with fail
        clear c7 l7
        refine (Same_eq _ (HS1.out.1.mono ((by repeat (first | with_reducible exact bel_refl _ | with_reducible assumption | with_reducible refine bel_drewN ?_ _ | with_reducible refine bel_drew ?_ | with_reducible refine bel_alloc ?_ _ | with_reducible refine bel_row ?_ ?_ _ | with_reducible refine bel_set ?_ ?_ _ | refine bel_trans ?_ (by with_reducible assumption) | (simp; done) | (simp; omega))) : Below wr1.heap.size wr1 _)) (HS1.out.2.mono ((by repeat (first | with_reducible exact bel_refl _ | with_reducible assumption | with_reducible refine bel_drewN ?_ _ | with_reducible refine bel_drew ?_ | with_reducible refine bel_alloc ?_ _ | with_reducible refine bel_row ?_ ?_ _ | with_reducible refine bel_set ?_ ?_ _ | refine bel_trans ?_ (by with_reducible assumption) | (simp; done) | (simp; omega))) : Below wr1.heap.size wr1 _)) (HS2.out.1.mono ((by repeat (first | with_reducible exact bel_refl _ | with_reducible assumption | with_reducible refine bel_drewN ?_ _ | with_reducible refine bel_drew ?_ | with_reducible refine bel_alloc ?_ _ | with_reducible refine bel_row ?_ ?_ _ | with_reducible refine bel_set ?_ ?_ _ | refine bel_trans ?_ (by with_reducible assumption) | (simp; done) | (simp; omega))) : Below wr1.heap.size wr1 _)) (HS2.out.2.mono ((by repeat (first | with_reducible exact bel_refl _ | with_reducible assumption | with_reducible refine bel_drewN ?_ _ | with_reducible refine bel_drew ?_ | with_reducible refine bel_alloc ?_ _ | with_reducible refine bel_row ?_ ?_ _ | with_reducible refine bel_set ?_ ?_ _ | refine bel_trans ?_ (by with_reducible assumption) | (simp; done) | (simp; omega))) : Below wr1.heap.size wr1 _))).mono ?_
        rintro e ws1 ⟨rfl, hb⟩
        have hbb : Below wr1.heap.size wr1 ws1 := bel_trans (by repeat (first | with_reducible exact bel_refl _ | with_reducible assumption | with_reducible refine bel_drewN ?_ _ | with_reducible refine bel_drew ?_ | with_reducible refine bel_alloc ?_ _ | with_reducible refine bel_row ?_ ?_ _ | with_reducible refine bel_set ?_ ?_ _ | refine bel_trans ?_ (by with_reducible assumption) | (simp; done) | (simp; omega))) hb
        replace hB := bel_trans hB hbb
        replace g0 := g0.grow hbb
        replace g7 := g7.grow hbb
        replace HS1 := Lib.hid (And.intro (HS1.out.1.mono hbb) (HS1.out.2.mono hbb))
        clear hb hbb HS2
        go_wp2_with fail
        go_roundw
        case rel => exact ⟨2, by omega, by go_num, HS1, g0, g7, hB⟩
        case measure => simp [intOf]
      · have hE1 : (E' == 0) = false := by simpa using hE0
        clear hE hE0 Sr Ar
        go_wp2_with fail
        have hbb : Below wr1.heap.size wr1 (wr1.alloc (.cells (#[.int .u64 (pl B' 0), .int .u64 (pl B' 1), .int .u64 (pl B' 2), .int .u64 (pl B' 3), .int .u64 (pl B' 4), .int .u64 (pl B' 5), .int .u64 (pl B' 6), .int .u64 (pl B' 7), .slice pr nr cr, .slice qr kr dr] : Array Value) 30)) := bel_alloc (bel_refl _) _
        go_roundw
        case rel => exact ⟨2, by omega, by go_num, Lib.hid (And.intro (HS1.out.1.mono hbb) (HS1.out.2.mono hbb)), g0.grow hbb, g7.grow hbb, bel_trans hB hbb⟩
        case measure => simp [intOf]
    · clear hj
      go_wp2_with fail
      refine (HAL.out _ hB).mono ?_
      rintro e w8 ⟨rfl, hb⟩
      replace hB := bel_trans hB hb
      clear hb
      go_wp2_with fail
      refine bodyPost_ret (v := .bool true) (by simp [results, Tryz.results3, go_sem]) rfl ⟨rfl, hB⟩
end Go.Proofs.YtccnkebkgegohaaGreatDoor
end
section
namespace Go.Proofs.YtccnkebkgegohaaGreatDoor
open Go.RowKit Go.Rel
set_option maxRecDepth 100000
set_option maxHeartbeats 8000000 in
theorem TraceReduced_many (b : Sol) (p q : Option Addr) (n c k d : Nat) (n1 n2 : Int) (w : World) (hm : many k n = true) (HAL : AliveH w) :
    Calls Tryz.prog 3 #[.agg #[.int .u64 (pl b 0), .int .u64 (pl b 1), .int .u64 (pl b 2), .int .u64 (pl b 3), .int .u64 (pl b 4), .int .u64 (pl b 5), .int .u64 (pl b 6), .int .u64 (pl b 7), .slice p n c, .slice q k d], .int .i64 n1, .int .i64 n2] w fun e w' => e = .returned (.bool true) ∧ Below w.heap.size w w' := by
  go_enter Tryz.func3, Tryz.ntmps3
  go_wp2_with fail
  refine (few1 (b := b) (p := p) (q := q) (n := n) (c := c) (k := k) (d := d) (t := 30) _ (by repeat (first | with_reducible assumption | (refine Blk.at _ _ ?_; (simp; done)) | with_reducible refine Blk.alloc ?_ _ | with_reducible refine Blk.drew ?_ | with_reducible refine Blk.rowS ?_ _ | with_reducible refine Blk.rowO ?_ _ (by simp)))).mono ?_
  rw [hm]
  rintro e w1 ⟨rfl, hb⟩
  have hB : Below w.heap.size w w1 := bel_trans (by repeat (first | with_reducible exact bel_refl _ | with_reducible assumption | with_reducible refine bel_drewN ?_ _ | with_reducible refine bel_drew ?_ | with_reducible refine bel_alloc ?_ _ | with_reducible refine bel_row ?_ ?_ _ | with_reducible refine bel_set ?_ ?_ _ | refine bel_trans ?_ (by with_reducible assumption) | (simp; done) | (simp; omega))) hb
  clear hb
  go_wp2_with fail
  refine (HAL.out _ hB).mono ?_
  rintro e w2 ⟨rfl, hb⟩
  replace hB := bel_trans hB hb
  clear hb
  go_wp2_with fail
  refine bodyPost_ret (v := .bool true) (by simp [results, Tryz.results3, go_sem]) rfl ⟨rfl, hB⟩
set_option maxHeartbeats 8000000 in
theorem TraceReduced_err (b : Sol) (p q : Option Addr) (n c k d : Nat) (n1 n2 : Int) (w : World) (hm : many k n = false) (x : Int) (hne : (x != 0) = true)
    (H21 : Hid (∀ w', Below w.heap.size w w' → Calls Tryz.prog 21 #[.agg #[.int .u64 (pl b 0), .int .u64 (pl b 1), .int .u64 (pl b 2), .int .u64 (pl b 3), .int .u64 (pl b 4), .int .u64 (pl b 5), .int .u64 (pl b 6), .int .u64 (pl b 7), .slice p n c, .slice q k d]] w' fun e w'' => e = .returned (.tuple #[.agg #[.int .u64 0, .int .u64 0, .int .u64 0, .int .u64 0, .int .u64 0, .int .u64 0, .int .u64 0, .int .u64 0, .slice none 0 0, .slice none 0 0], .int .i64 x]) ∧ Below w'.heap.size w' w'')) (HAL : AliveH w) :
    Calls Tryz.prog 3 #[.agg #[.int .u64 (pl b 0), .int .u64 (pl b 1), .int .u64 (pl b 2), .int .u64 (pl b 3), .int .u64 (pl b 4), .int .u64 (pl b 5), .int .u64 (pl b 6), .int .u64 (pl b 7), .slice p n c, .slice q k d], .int .i64 n1, .int .i64 n2] w fun e w' => e = .returned (.bool true) ∧ Below w.heap.size w w' := by
  go_enter Tryz.func3, Tryz.ntmps3
  go_wp2_with fail
  refine (few1 (b := b) (p := p) (q := q) (n := n) (c := c) (k := k) (d := d) (t := 30) _ (by repeat (first | with_reducible assumption | (refine Blk.at _ _ ?_; (simp; done)) | with_reducible refine Blk.alloc ?_ _ | with_reducible refine Blk.drew ?_ | with_reducible refine Blk.rowS ?_ _ | with_reducible refine Blk.rowO ?_ _ (by simp)))).mono ?_
  rw [hm]
  rintro e w1 ⟨rfl, hb⟩
  have g0 : Blk w1 w.heap.size #[.int .u64 (pl b 0), .int .u64 (pl b 1), .int .u64 (pl b 2), .int .u64 (pl b 3), .int .u64 (pl b 4), .int .u64 (pl b 5), .int .u64 (pl b 6), .int .u64 (pl b 7), .slice p n c, .slice q k d] 30 := Blk.grow (by repeat (first | with_reducible assumption | (refine Blk.at _ _ ?_; (simp; done)) | with_reducible refine Blk.alloc ?_ _ | with_reducible refine Blk.drew ?_ | with_reducible refine Blk.rowS ?_ _ | with_reducible refine Blk.rowO ?_ _ (by simp))) hb
  have hB : Below w.heap.size w w1 := bel_trans (by repeat (first | with_reducible exact bel_refl _ | with_reducible assumption | with_reducible refine bel_drewN ?_ _ | with_reducible refine bel_drew ?_ | with_reducible refine bel_alloc ?_ _ | with_reducible refine bel_row ?_ ?_ _ | with_reducible refine bel_set ?_ ?_ _ | refine bel_trans ?_ (by with_reducible assumption) | (simp; done) | (simp; omega))) hb
  have c0 := g0.cell
  have l0 := g0.lt
  clear hb g0
  go_wp2_with fail
  refine (H21.out _ hB).mono ?_
  rintro e w2 ⟨rfl, hb⟩
  replace hB := bel_trans hB hb
  clear hb c0 l0
  go_wp2_with fail
  refine (HAL.out _ (hB.trans (((by repeat (first | with_reducible exact bel_refl _ | with_reducible assumption | with_reducible refine bel_drewN ?_ _ | with_reducible refine bel_drew ?_ | with_reducible refine bel_alloc ?_ _ | with_reducible refine bel_row ?_ ?_ _ | with_reducible refine bel_set ?_ ?_ _ | refine bel_trans ?_ (by with_reducible assumption) | (simp; done) | (simp; omega))) : Below w2.heap.size w2 _).mono hB.size))).mono ?_
  rintro e w3 ⟨rfl, hb⟩
  have hbb : Below w2.heap.size w2 w3 := bel_trans (by repeat (first | with_reducible exact bel_refl _ | with_reducible assumption | with_reducible refine bel_drewN ?_ _ | with_reducible refine bel_drew ?_ | with_reducible refine bel_alloc ?_ _ | with_reducible refine bel_row ?_ ?_ _ | with_reducible refine bel_set ?_ ?_ _ | refine bel_trans ?_ (by with_reducible assumption) | (simp; done) | (simp; omega))) hb
  replace hB := bel_trans hB hbb
  clear hb hbb
  go_wp2_with fail
  refine bodyPost_ret (v := .bool true) (by simp [results, Tryz.results3, go_sem]) rfl ⟨rfl, hB⟩
theorem wrap64_ok (n : Int) (h : -9223372036854775808 ≤ n ∧ n ≤ 9223372036854775807) : wrap64 n = n := by unfold wrap64; omega
theorem kk_of (n1 : Int) (k : Nat) (hk : k ≤ 60) : ∃ K : Nat, K ≤ k ∧ wrap64 ((IntKind.u64.wrap n1).tmod ((k : Int) + 1)) = (K : Int) := by
  have h0 : 0 ≤ IntKind.u64.wrap n1 := by simp [IntKind.wrap, IntKind.bits, IntKind.signed]; omega
  have h1 : 0 ≤ (IntKind.u64.wrap n1).tmod ((k : Int) + 1) := Int.tmod_nonneg _ h0
  have h2 : (IntKind.u64.wrap n1).tmod ((k : Int) + 1) < (k : Int) + 1 := Int.tmod_lt_of_pos _ (by omega)
  refine ⟨((IntKind.u64.wrap n1).tmod ((k : Int) + 1)).toNat, by omega, ?_⟩
  rw [wrap64_ok _ (by omega)]; omega
theorem TraceReduced_walk (b : Sol) (u : Value) (l : List Sol) (av : Value) (m : List Ac) (n1 n2 : Int) (w : World) (S : SlS w u l) (A : SlA w av m) (N : ∀ n c, av = .slice none n c → c = 0) (_ : -9223372036854775808 ≤ n1 ∧ n1 < 9223372036854775808) (_ : -9223372036854775808 ≤ n2 ∧ n2 < 9223372036854775808) (hT : w.cell? ⟨5, 15, none⟩ = some (.int .u8 4)) :
    Calls Tryz.prog 3 #[.agg #[.int .u64 (pl b 0), .int .u64 (pl b 1), .int .u64 (pl b 2), .int .u64 (pl b 3), .int .u64 (pl b 4), .int .u64 (pl b 5), .int .u64 (pl b 6), .int .u64 (pl b 7), u, av], .int .i64 n1, .int .i64 n2] w fun e w' => e = .returned (.bool true) ∧ Below w.heap.size w w' := by
  have HAL := alive_h w hT
  have hS := S
  have hA := A
  obtain ⟨p, c, rfl, _, _⟩ := hS
  obtain ⟨q, d, rfl, hkd, _⟩ := hA
  have hk : (m.map acL).length = m.length := List.length_map ..
  generalize (m.map acL).length = k at *
  generalize (l.map solL).length = n at *
  cases hm : many k n with
  | true => exact TraceReduced_many b p q n c k d n1 n2 w hm HAL
  | false =>
    cases h : begunM b l m with
    | inl x => exact TraceReduced_err b p q n c k d n1 n2 w hm x.2 (begunM_bad h) (Lib.hid fun w' hb => Reduced_bad h w' (S.mono hb) (A.mono hb)) HAL
    | inr s =>
      obtain ⟨t, R, _⟩ := Runs.of h
      have h60 := R.len
      obtain ⟨K, hK, hKK⟩ := kk_of n1 k (by omega)
      exact TraceReduced_main b l m t R p q n c k d n1 n2 w S A (fun h => by subst h; exact N _ _ rfl) (Lib.hid hk) (Lib.hid h60) hm HAL K hK (by omega) (by omega) (wrap64_ok _ (by omega)) (by simp [IntKind.wrap, IntKind.bits, IntKind.signed]; omega) (by omega) hKK
end Go.Proofs.YtccnkebkgegohaaGreatDoor
end
