import Derived.Test.YtccnkebkgegohaaGreatDoorL3
import Derived.Deep.Cut
/-
  Given contracts of functions of the program, and laws for them, one behind the other.
-/
set_option linter.unusedVariables false
set_option linter.unusedSimpArgs false
set_option linter.unusedSectionVars false
section
namespace Go.Proofs.YtccnkebkgegohaaGreatDoor.Ln
open Go.RowKit Go.Rel Go.Draw Go.Solid
set_option maxRecDepth 100000
/-! the reference's Read of actions -/
theorem wrP_ne (s : Sol) : ∀ k, wrP s k ≠ []
 | 0 => hexS_ne _
 | k + 1 => by
  show wrP s k ++ 46 :: hexS (plN s (k + 1)) ≠ []
  simp
theorem wrS_ne (s : Sol) : wrS s ≠ [] := wrP_ne s _
theorem act0_mem {i : Nat} (hi : i < 8) : fitX (2, (i : Int), 0) = true ∧ fitX (3, (i : Int), 0) = true := by
 constructor
 ·exact (fitX_kept (by decide)).2 ⟨.inl rfl, ⟨by omega, by omega⟩, rfl⟩
 ·exact (fitX_kept (by decide)).2 ⟨.inr rfl, ⟨by omega, by omega⟩, rfl⟩
theorem wrXM_fit {a : Ax} (h : fitX a = true) : wrXM a = (wrX a, 0) := by unfold wrXM; rw [h]; rfl
/-- a line that is none of the kept ones is that of a cut, or of nothing -/
theorem cut_or {l : List UInt8} (h : ∀ i : Nat, i < 8 → wrX (2, (i : Int), 0) ≠ l ∧ wrX (3, (i : Int), 0) ≠ l) {a : Ax} (ha : fitX a = true) (e : wrX a = l) : a.1 = 1 ∧ a.2.1 = 0 ∧ l.drop 4 = wrS a.2.2 ∧ 4 < l.length := by
 obtain ⟨K, p, s⟩ := a
 rcases fitX_cases ha with ⟨h1, h2, h3⟩ | ⟨h1, h2, h3⟩ <;> simp only at h1 h2 h3
 ·subst h1 h2
  refine ⟨rfl, rfl, ?_, ?_⟩
  ·rw [← e]; rfl
  ·rw [← e]
   have : 1 ≤ (wrS s).length := by
    have h0 : wrS s ≠ [] := wrS_ne s
    cases hh : wrS s with
    | nil => exact absurd hh h0
    | cons _ _ => simp
   show 4 < ([99, 117, 116, 32] ++ wrS s).length
   rw [List.length_append]
   simp; omega
 ·obtain ⟨q, rfl⟩ : ∃ q : Nat, p = q := ⟨p.toNat, by omega⟩
  subst h3
  rcases h1 with rfl | rfl
  ·exact absurd e (h q (by omega)).1
  ·exact absurd e (h q (by omega)).2
theorem cut_yes {l : List UInt8} {c : Sol} (h : wrXM (1, 0, c) = (l, 0)) : rdX l = ((1, 0, c), 0) := read_yes h
theorem cut_not {l : List UInt8} (hk : ∀ i : Nat, i < 8 → wrX (2, (i : Int), 0) ≠ l ∧ wrX (3, (i : Int), 0) ≠ l) (h : 4 < l.length → wrXM (1, 0, (readM (l.drop 4)).1) ≠ (l, 0)) : rdX l = ((0, 0, 0), 4) := rdX_no fun a ha e => by
 obtain ⟨h1, h2, h3, h4⟩ := cut_or hk ha e
 refine h h4 ?_
 rw [h3, readM_wr]
 obtain ⟨K, p, s⟩ := a
 simp only at h1 h2
 subst h1 h2
 rw [wrXM_fit ha, e]
theorem drop_B (l : List UInt8) : (⟨l.toArray⟩ : ByteArray).extract 4 (⟨l.toArray⟩ : ByteArray).size = ⟨(l.drop 4).toArray⟩ := by
 apply ByteArray.ext
 apply Array.toList_inj.1
 exact Lib.extract_to_end _ _
set_option maxHeartbeats 16000000 in
theorem refReadA (l : List UInt8) (hl : l.length ≤ 300) (w : World) : Calls Tryz.prog 84 #[.string ⟨l.toArray⟩] w fun e w' => e = .returned (.tuple #[actX (rdX l).1, .int .i64 (rdX l).2]) ∧ Below w.heap.size w w' := by
 obtain ⟨⟨c, er⟩, hrd⟩ : ∃ x, rdX l = x := ⟨_, rfl⟩
 have hy : ∀ a, wrXM a = (l, 0) → (c, er) = (a, 0) := fun a h => by rw [← hrd]; exact read_yes h
 have hn := @cut_not l
 rw [hrd] at hn
 rw [hrd]
 have HY := Lib.hid (And.intro hy hn)
 have HWr := Lib.hid (fun (K i : Nat) (W : World) => refWriteA K (i : Int) 0 W)
 have HWc := Lib.hid (fun (s : Sol) (W : World) => refWriteA 1 0 s W)
 have HRd := Lib.hid (fun W => refRead_n (l.drop 4) (by rw [List.length_drop]; omega) W)
 have hdB := drop_B l
 obtain ⟨B, hB⟩ : ∃ x : ByteArray, x = ⟨l.toArray⟩ := ⟨_, rfl⟩
 have hsz : B.size = l.length := by rw [hB]; rfl
 rw [← hB] at hdB ⊢
 have HB := Lib.hid (And.intro hB hdB)
 clear hy hn hrd hB hdB hl
 go_enter Tryz.func84, Tryz.ntmps84
 go_wp2_with fail
 go_loopw [4] (fun iv wx => ∃ i : Nat, i ≤ 8 ∧ iv = .int .i64 i ∧ Hid (Blk wx w.heap.size #[.int .u8 0, .int .i64 0, .int .u64 0, .int .u64 0, .int .u64 0, .int .u64 0, .int .u64 0, .int .u64 0, .int .u64 0, .int .u64 0] 46 ∧ Below w.heap.size w wx ∧ ∀ j : Nat, j < i → wrX (2, (j : Int), 0) ≠ l ∧ wrX (3, (j : Int), 0) ≠ l)) (fun iv _ => 8 - (intOf iv).toNat)
 case atStart => exact ⟨0, Nat.zero_le _, rfl, Lib.hid ⟨(by repeat (first | with_reducible assumption | (refine Blk.at _ _ ?_; (simp; done)) | with_reducible refine Blk.alloc ?_ _ | with_reducible refine Blk.drew ?_ | with_reducible refine Blk.rowS ?_ _ | with_reducible refine Blk.rowO ?_ _ (by simp))), (by repeat (first | with_reducible exact bel_refl _ | with_reducible assumption | with_reducible refine bel_drewN ?_ _ | with_reducible refine bel_drew ?_ | with_reducible refine bel_alloc ?_ _ | with_reducible refine bel_row ?_ ?_ _ | with_reducible refine bel_set ?_ ?_ _ | refine bel_trans ?_ (by with_reducible assumption) | (simp; done) | (simp; omega))), fun j hj => absurd hj (by omega)⟩⟩
 case round =>
  obtain ⟨i, hi, rfl, HI⟩ := hrel
  by_cases hi8 : i < 8
  ·have d8 : decide ((i : Int) < 8) = true := decide_eq_true (by omega)
   go_wp2_with fail
   obtain ⟨wo, hwo⟩ : ∃ wo, wo = wr := ⟨_, rfl⟩
   subst hwo
   go_loopw [5] (fun kv wx => ∃ k : Nat, 2 ≤ k ∧ k ≤ 4 ∧ kv = .int .u8 k ∧ Hid (Blk wx w.heap.size #[.int .u8 0, .int .i64 0, .int .u64 0, .int .u64 0, .int .u64 0, .int .u64 0, .int .u64 0, .int .u64 0, .int .u64 0, .int .u64 0] 46 ∧ Below w.heap.size w wx ∧ (3 ≤ k → wrX (2, (i : Int), 0) ≠ l) ∧ (4 ≤ k → wrX (3, (i : Int), 0) ≠ l))) (fun kv _ => 4 - (intOf kv).toNat)
   case atStart => exact ⟨2, by omega, by omega, rfl, Lib.hid ⟨HI.out.1, HI.out.2.1, fun h => absurd h (by omega), fun h => absurd h (by omega)⟩⟩
   case round =>
    obtain ⟨k, hk2, hk4, rfl, HK⟩ := hrel
    obtain rfl | rfl | rfl : k = 2 ∨ k = 3 ∨ k = 4 := by omega
    ·have HW2 : Hid (∀ W, Calls Tryz.prog 82 #[.agg #[.int .u8 2, .int .i64 (i : Int), .int .u64 0, .int .u64 0, .int .u64 0, .int .u64 0, .int .u64 0, .int .u64 0, .int .u64 0, .int .u64 0]] W fun e w' => e = .returned (.tuple #[.string ⟨(wrX (2, (i : Int), 0)).toArray⟩, .int .i64 0]) ∧ Below W.heap.size W w') := Lib.hid fun W => by
      have := HWr.out 2 i W
      rw [wrXM_fit (act0_mem hi8).1] at this
      simp only [pl_zero] at this
      exact this
     have cw : IntKind.u8.wrap (2 + 1) = 3 := by kernel_rfl
     go_wp2_with fail
     refine (HW2.out _).mono ?_
     rintro e w3 ⟨rfl, hb3⟩
     have k6 := (Blk.new wr #[.int .u8 2, .int .i64 (i : Int), .int .u64 0, .int .u64 0, .int .u64 0, .int .u64 0, .int .u64 0, .int .u64 0, .int .u64 0, .int .u64 0] 46).grow hb3
     have k0 := (HK.out.1.alloc (.cells #[.int .u8 2, .int .i64 (i : Int), .int .u64 0, .int .u64 0, .int .u64 0, .int .u64 0, .int .u64 0, .int .u64 0, .int .u64 0, .int .u64 0] 46)).grow hb3
     have hbw := bel_trans (bel_alloc HK.out.2.1 (.cells #[.int .u8 2, .int .i64 (i : Int), .int .u64 0, .int .u64 0, .int .u64 0, .int .u64 0, .int .u64 0, .int .u64 0, .int .u64 0, .int .u64 0] 46)) hb3
     have hgn := HK.out.1.lt
     obtain ⟨g6, hg6⟩ : ∃ g, g = wr.heap.size := ⟨_, rfl⟩
     rw [← hg6] at k6 hgn ⊢
     obtain ⟨A, hA⟩ : ∃ x : ByteArray, x = ⟨(wrX (2, (i : Int), 0)).toArray⟩ := ⟨_, rfl⟩
     rw [← hA]
     clear hb3 hg6
     by_cases he : A = B
     ·have HCC : Hid (c = (2, (i : Int), 0) ∧ er = 0) := Lib.hid (by
       have e1 : wrX (2, (i : Int), 0) = l := bytes_inj (by rw [← hA, he, HB.out.1])
       have h := HY.out.1 (2, (i : Int), 0) (by rw [wrXM_fit (act0_mem hi8).1, e1])
       exact ⟨congrArg Prod.fst h, congrArg Prod.snd h⟩)
      subst he
      clear hA
      have kz := k6.rowO (g := w.heap.size) #[.int .u8 0, .int .i64 0, .int .u64 0, .int .u64 0, .int .u64 0, .int .u64 0, .int .u64 0, .int .u64 0, .int .u64 0, .int .u64 0] (by omega)
      have c6 := kz.cell; have l6 := kz.lt
      clear kz
      have r0 := k0.row; have l0 := k0.lt
      have cF := (k0.rowS #[.int .u8 2, .int .i64 (i : Int), .int .u64 0, .int .u64 0, .int .u64 0, .int .u64 0, .int .u64 0, .int .u64 0, .int .u64 0, .int .u64 0]).cell
      have hb6 := bel_row hbw (g := w.heap.size) (Nat.le_refl _) #[.int .u8 2, .int .i64 (i : Int), .int .u64 0, .int .u64 0, .int .u64 0, .int .u64 0, .int .u64 0, .int .u64 0, .int .u64 0, .int .u64 0]
      rw [← k0.rw]
      clear k0 k6
      go_wp2_with fail
      exact bodyPost_ret (v := .tuple #[.agg #[.int .u8 2, .int .i64 (i : Int), .int .u64 0, .int .u64 0, .int .u64 0, .int .u64 0, .int .u64 0, .int .u64 0, .int .u64 0, .int .u64 0], .int .i64 0]) (by simp [results, Tryz.results84, go_sem, cF]) rfl ⟨by rw [HCC.out.1, HCC.out.2]; simp only [actX, pl_zero]; rfl, hb6⟩
     ·have HNE : Hid (wrX (2, (i : Int), 0) ≠ l) := Lib.hid (fun e => he (by rw [hA, HB.out.1, e]))
      have htl := bytes_ne he
      have H6 := Lib.hid (And.intro k0 (And.intro hbw trivial))
      clear hA he k0 k6 hbw
      go_wp2_with fail
      exact ⟨⟨3, by omega, by omega, by simp, Lib.hid ⟨H6.out.1, H6.out.2.1, fun _ => HNE.out, fun h => absurd h (by omega)⟩⟩, by simp [intOf]⟩
    ·have HW2 : Hid (∀ W, Calls Tryz.prog 82 #[.agg #[.int .u8 3, .int .i64 (i : Int), .int .u64 0, .int .u64 0, .int .u64 0, .int .u64 0, .int .u64 0, .int .u64 0, .int .u64 0, .int .u64 0]] W fun e w' => e = .returned (.tuple #[.string ⟨(wrX (3, (i : Int), 0)).toArray⟩, .int .i64 0]) ∧ Below W.heap.size W w') := Lib.hid fun W => by
      have := HWr.out 3 i W
      rw [wrXM_fit (act0_mem hi8).2] at this
      simp only [pl_zero] at this
      exact this
     have cw : IntKind.u8.wrap (3 + 1) = 4 := by kernel_rfl
     go_wp2_with fail
     refine (HW2.out _).mono ?_
     rintro e w3 ⟨rfl, hb3⟩
     have k6 := (Blk.new wr #[.int .u8 3, .int .i64 (i : Int), .int .u64 0, .int .u64 0, .int .u64 0, .int .u64 0, .int .u64 0, .int .u64 0, .int .u64 0, .int .u64 0] 46).grow hb3
     have k0 := (HK.out.1.alloc (.cells #[.int .u8 3, .int .i64 (i : Int), .int .u64 0, .int .u64 0, .int .u64 0, .int .u64 0, .int .u64 0, .int .u64 0, .int .u64 0, .int .u64 0] 46)).grow hb3
     have hbw := bel_trans (bel_alloc HK.out.2.1 (.cells #[.int .u8 3, .int .i64 (i : Int), .int .u64 0, .int .u64 0, .int .u64 0, .int .u64 0, .int .u64 0, .int .u64 0, .int .u64 0, .int .u64 0] 46)) hb3
     have hgn := HK.out.1.lt
     obtain ⟨g6, hg6⟩ : ∃ g, g = wr.heap.size := ⟨_, rfl⟩
     rw [← hg6] at k6 hgn ⊢
     obtain ⟨A, hA⟩ : ∃ x : ByteArray, x = ⟨(wrX (3, (i : Int), 0)).toArray⟩ := ⟨_, rfl⟩
     rw [← hA]
     clear hb3 hg6
     by_cases he : A = B
     ·have HCC : Hid (c = (3, (i : Int), 0) ∧ er = 0) := Lib.hid (by
       have e1 : wrX (3, (i : Int), 0) = l := bytes_inj (by rw [← hA, he, HB.out.1])
       have h := HY.out.1 (3, (i : Int), 0) (by rw [wrXM_fit (act0_mem hi8).2, e1])
       exact ⟨congrArg Prod.fst h, congrArg Prod.snd h⟩)
      subst he
      clear hA
      have kz := k6.rowO (g := w.heap.size) #[.int .u8 0, .int .i64 0, .int .u64 0, .int .u64 0, .int .u64 0, .int .u64 0, .int .u64 0, .int .u64 0, .int .u64 0, .int .u64 0] (by omega)
      have c6 := kz.cell; have l6 := kz.lt
      clear kz
      have r0 := k0.row; have l0 := k0.lt
      have cF := (k0.rowS #[.int .u8 3, .int .i64 (i : Int), .int .u64 0, .int .u64 0, .int .u64 0, .int .u64 0, .int .u64 0, .int .u64 0, .int .u64 0, .int .u64 0]).cell
      have hb6 := bel_row hbw (g := w.heap.size) (Nat.le_refl _) #[.int .u8 3, .int .i64 (i : Int), .int .u64 0, .int .u64 0, .int .u64 0, .int .u64 0, .int .u64 0, .int .u64 0, .int .u64 0, .int .u64 0]
      rw [← k0.rw]
      clear k0 k6
      go_wp2_with fail
      exact bodyPost_ret (v := .tuple #[.agg #[.int .u8 3, .int .i64 (i : Int), .int .u64 0, .int .u64 0, .int .u64 0, .int .u64 0, .int .u64 0, .int .u64 0, .int .u64 0, .int .u64 0], .int .i64 0]) (by simp [results, Tryz.results84, go_sem, cF]) rfl ⟨by rw [HCC.out.1, HCC.out.2]; simp only [actX, pl_zero]; rfl, hb6⟩
     ·have HNE : Hid (wrX (3, (i : Int), 0) ≠ l) := Lib.hid (fun e => he (by rw [hA, HB.out.1, e]))
      have htl := bytes_ne he
      have H6 := Lib.hid (And.intro k0 (And.intro hbw trivial))
      clear hA he k0 k6 hbw
      go_wp2_with fail
      exact ⟨⟨4, by omega, by omega, by simp, Lib.hid ⟨H6.out.1, H6.out.2.1, fun _ => HK.out.2.2.1 (by omega), fun _ => HNE.out⟩⟩, by simp [intOf]⟩
    ·go_wp2_with fail
     refine ⟨⟨i + 1, by omega, by simp, Lib.hid ⟨HK.out.1, HK.out.2.1, fun j hj => ?_⟩⟩, by simp [intOf]; omega⟩
     by_cases e : j = i
     ·subst e
      exact ⟨HK.out.2.2.1 (by omega), HK.out.2.2.2 (by omega)⟩
     ·exact HI.out.2.2 j (by omega)
  ·obtain rfl : i = 8 := by omega
   by_cases h4 : 4 < l.length
   ·have d4 : decide ((4 : Int) < (B.size : Int)) = true := decide_eq_true (by omega)
    have hdx : B.extract 4 l.length = ⟨(l.drop 4).toArray⟩ := by rw [← hsz]; exact HB.out.2
    obtain ⟨x, hx⟩ : ∃ x, x = (readM (l.drop 4)).1 := ⟨_, rfl⟩
    obtain ⟨xe, hxe⟩ : ∃ x, x = (readM (l.drop 4)).2 := ⟨_, rfl⟩
    rw [← hx, ← hxe] at HRd
    have HNo : Hid (wrXM (1, 0, x) ≠ (l, 0) → (c, er) = ((0, 0, 0), 4)) := Lib.hid (fun h => HY.out.2 (fun j hj => HI.out.2.2 j hj) (fun _ => by rw [← hx]; exact h))
    obtain ⟨⟨LL, ee⟩, hwm⟩ : ∃ y, wrXM (1, 0, x) = y := ⟨_, rfl⟩
    have HWk : Hid (∀ W, Calls Tryz.prog 82 #[.agg #[.int .u8 1, .int .i64 0, .int .u64 (pl x 0), .int .u64 (pl x 1), .int .u64 (pl x 2), .int .u64 (pl x 3), .int .u64 (pl x 4), .int .u64 (pl x 5), .int .u64 (pl x 6), .int .u64 (pl x 7)]] W fun e w' => e = .returned (.tuple #[.string ⟨LL.toArray⟩, .int .i64 ee]) ∧ Below W.heap.size W w') := Lib.hid fun W => by
     have := HWc.out x W
     rw [hwm] at this
     exact this
    have HWM := Lib.hid hwm
    have htri : (ee = 0 ∧ LL = l) ∨ ee ≠ 0 ∨ (ee = 0 ∧ LL ≠ l) := by
     by_cases h : ee = 0
     ·by_cases h' : LL = l
      ·exact .inl ⟨h, h'⟩
      ·exact .inr (.inr ⟨h, h'⟩)
     ·exact .inr (.inl h)
    clear hwm hx hxe HWc
    go_wp2_with fail
    clear hdx
    refine (HRd.out _).mono ?_
    rintro e w3 ⟨rfl, hb3⟩
    have k0 := HI.out.1.grow hb3
    have hbw := bel_trans HI.out.2.1 hb3
    have H3 := Lib.hid (And.intro k0 hbw); clear k0 hbw hb3
    go_wp2_with fail
    refine (HWk.out _).mono ?_
    rintro e w5 ⟨rfl, hb5⟩
    have k0 := ((H3.out.1.alloc (.cells #[.int .u64 (pl x 0), .int .u64 (pl x 1), .int .u64 (pl x 2), .int .u64 (pl x 3), .int .u64 (pl x 4), .int .u64 (pl x 5), .int .u64 (pl x 6), .int .u64 (pl x 7)] 24)).alloc (.cells #[.int .u8 1, .int .i64 0, .int .u64 (pl x 0), .int .u64 (pl x 1), .int .u64 (pl x 2), .int .u64 (pl x 3), .int .u64 (pl x 4), .int .u64 (pl x 5), .int .u64 (pl x 6), .int .u64 (pl x 7)] 46)).grow hb5
    have k7 := (Blk.at (w := w3.alloc (.cells #[.int .u64 (pl x 0), .int .u64 (pl x 1), .int .u64 (pl x 2), .int .u64 (pl x 3), .int .u64 (pl x 4), .int .u64 (pl x 5), .int .u64 (pl x 6), .int .u64 (pl x 7)] 24)) (n := w3.heap.size + 1) #[.int .u8 1, .int .i64 0, .int .u64 (pl x 0), .int .u64 (pl x 1), .int .u64 (pl x 2), .int .u64 (pl x 3), .int .u64 (pl x 4), .int .u64 (pl x 5), .int .u64 (pl x 6), .int .u64 (pl x 7)] 46 (by simp)).grow hb5
    have hbF := bel_trans (bel_alloc (bel_alloc H3.out.2 (.cells #[.int .u64 (pl x 0), .int .u64 (pl x 1), .int .u64 (pl x 2), .int .u64 (pl x 3), .int .u64 (pl x 4), .int .u64 (pl x 5), .int .u64 (pl x 6), .int .u64 (pl x 7)] 24)) (.cells #[.int .u8 1, .int .i64 0, .int .u64 (pl x 0), .int .u64 (pl x 1), .int .u64 (pl x 2), .int .u64 (pl x 3), .int .u64 (pl x 4), .int .u64 (pl x 5), .int .u64 (pl x 6), .int .u64 (pl x 7)] 46)) hb5
    have hgn := H3.out.1.lt
    obtain ⟨g7, hg7⟩ : ∃ g, g = w3.heap.size + 1 := ⟨_, rfl⟩
    have hg7n : w.heap.size < g7 := by omega
    rw [← hg7] at k7 ⊢
    clear hb5 HWk hg7
    rcases htri with ⟨rfl, hLL⟩ | hee | ⟨rfl, hLL⟩
    ·have HCC : Hid (c = (1, 0, x) ∧ er = 0) := Lib.hid (by
      have h := HY.out.1 (1, 0, x) (by rw [HWM.out, hLL])
      exact ⟨congrArg Prod.fst h, congrArg Prod.snd h⟩)
     have hLB : (⟨LL.toArray⟩ : ByteArray) = B := by rw [hLL, HB.out.1]
     rw [hLB]
     clear hLB hLL
     have kk := k7.rowO (g := w.heap.size) #[.int .u8 0, .int .i64 0, .int .u64 0, .int .u64 0, .int .u64 0, .int .u64 0, .int .u64 0, .int .u64 0, .int .u64 0, .int .u64 0] (by omega)
     have c7 := kk.cell; have l7 := kk.lt
     clear kk
     have r0 := k0.row; have l0 := k0.lt
     have cF := (k0.rowS #[.int .u8 1, .int .i64 0, .int .u64 (pl x 0), .int .u64 (pl x 1), .int .u64 (pl x 2), .int .u64 (pl x 3), .int .u64 (pl x 4), .int .u64 (pl x 5), .int .u64 (pl x 6), .int .u64 (pl x 7)]).cell
     have hb6 := bel_row hbF (g := w.heap.size) (Nat.le_refl _) #[.int .u8 1, .int .i64 0, .int .u64 (pl x 0), .int .u64 (pl x 1), .int .u64 (pl x 2), .int .u64 (pl x 3), .int .u64 (pl x 4), .int .u64 (pl x 5), .int .u64 (pl x 6), .int .u64 (pl x 7)]
     rw [← k0.rw]
     clear k0 k7
     go_wp2_with fail
     exact bodyPost_ret (v := .tuple #[.agg #[.int .u8 1, .int .i64 0, .int .u64 (pl x 0), .int .u64 (pl x 1), .int .u64 (pl x 2), .int .u64 (pl x 3), .int .u64 (pl x 4), .int .u64 (pl x 5), .int .u64 (pl x 6), .int .u64 (pl x 7)], .int .i64 0]) (by simp [results, Tryz.results84, go_sem, cF]) rfl ⟨by rw [HCC.out.1, HCC.out.2]; rfl, hb6⟩
    ·have HCC : Hid (c = (0, 0, 0) ∧ er = 4) := Lib.hid (by
      have h := HNo.out (by rw [HWM.out]; intro e; exact hee (congrArg Prod.snd e))
      exact ⟨congrArg Prod.fst h, congrArg Prod.snd h⟩)
     have r0 := k0.row; have l0 := k0.lt
     have cF := (k0.rowS #[.int .u8 0, .int .i64 0, .int .u64 0, .int .u64 0, .int .u64 0, .int .u64 0, .int .u64 0, .int .u64 0, .int .u64 0, .int .u64 0]).cell
     have hb6 := bel_row hbF (g := w.heap.size) (Nat.le_refl _) #[.int .u8 0, .int .i64 0, .int .u64 0, .int .u64 0, .int .u64 0, .int .u64 0, .int .u64 0, .int .u64 0, .int .u64 0, .int .u64 0]
     rw [← k0.rw]
     clear k0 k7
     go_wp2_with fail
     exact bodyPost_ret (v := .tuple #[.agg #[.int .u8 0, .int .i64 0, .int .u64 0, .int .u64 0, .int .u64 0, .int .u64 0, .int .u64 0, .int .u64 0, .int .u64 0, .int .u64 0], .int .i64 4]) (by simp [results, Tryz.results84, go_sem, cF]) rfl ⟨by rw [HCC.out.1, HCC.out.2]; exact zact, hb6⟩
    ·have HCC : Hid (c = (0, 0, 0) ∧ er = 4) := Lib.hid (by
      have h := HNo.out (by rw [HWM.out]; intro e; exact hLL (congrArg Prod.fst e))
      exact ⟨congrArg Prod.fst h, congrArg Prod.snd h⟩)
     have htl := bytes_ne (show ¬ (⟨LL.toArray⟩ : ByteArray) = B by rw [HB.out.1]; intro e; exact hLL (bytes_inj e))
     obtain ⟨LB, hLB⟩ : ∃ y : ByteArray, y = ⟨LL.toArray⟩ := ⟨_, rfl⟩
     rw [← hLB] at htl ⊢
     clear hLL hLB
     have r0 := k0.row; have l0 := k0.lt
     have cF := (k0.rowS #[.int .u8 0, .int .i64 0, .int .u64 0, .int .u64 0, .int .u64 0, .int .u64 0, .int .u64 0, .int .u64 0, .int .u64 0, .int .u64 0]).cell
     have hb6 := bel_row hbF (g := w.heap.size) (Nat.le_refl _) #[.int .u8 0, .int .i64 0, .int .u64 0, .int .u64 0, .int .u64 0, .int .u64 0, .int .u64 0, .int .u64 0, .int .u64 0, .int .u64 0]
     rw [← k0.rw]
     clear k0 k7
     go_wp2_with fail
     exact bodyPost_ret (v := .tuple #[.agg #[.int .u8 0, .int .i64 0, .int .u64 0, .int .u64 0, .int .u64 0, .int .u64 0, .int .u64 0, .int .u64 0, .int .u64 0, .int .u64 0], .int .i64 4]) (by simp [results, Tryz.results84, go_sem, cF]) rfl ⟨by rw [HCC.out.1, HCC.out.2]; exact zact, hb6⟩
   ·have d4 : decide ((4 : Int) < (B.size : Int)) = false := decide_eq_false (by omega)
    have HCC : Hid (c = (0, 0, 0) ∧ er = 4) := Lib.hid (by
     have h := HY.out.2 (fun j hj => HI.out.2.2 j hj) (fun h => absurd h h4)
     exact ⟨congrArg Prod.fst h, congrArg Prod.snd h⟩)
    have k0 := HI.out.1
    have r0 := k0.row; have l0 := k0.lt
    have cF := (k0.rowS #[.int .u8 0, .int .i64 0, .int .u64 0, .int .u64 0, .int .u64 0, .int .u64 0, .int .u64 0, .int .u64 0, .int .u64 0, .int .u64 0]).cell
    have hb6 := bel_row HI.out.2.1 (g := w.heap.size) (Nat.le_refl _) #[.int .u8 0, .int .i64 0, .int .u64 0, .int .u64 0, .int .u64 0, .int .u64 0, .int .u64 0, .int .u64 0, .int .u64 0, .int .u64 0]
    rw [← k0.rw]
    clear k0
    go_wp2_with fail
    exact bodyPost_ret (v := .tuple #[.agg #[.int .u8 0, .int .i64 0, .int .u64 0, .int .u64 0, .int .u64 0, .int .u64 0, .int .u64 0, .int .u64 0, .int .u64 0, .int .u64 0], .int .i64 4]) (by simp [results, Tryz.results84, go_sem, cF]) rfl ⟨by rw [HCC.out.1, HCC.out.2]; exact zact, hb6⟩
end Go.Proofs.YtccnkebkgegohaaGreatDoor.Ln
end
