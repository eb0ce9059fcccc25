import Derived.Test.YtccnkebkgegohaaGreatDoorL4
import Derived.Deep.Cut
/-
  Given contracts of functions of the program, and laws for them, one behind the other.
-/
set_option linter.unusedVariables false
set_option linter.unusedSimpArgs false
set_option linter.unusedSectionVars false
section
namespace Go.Proofs.YtccnkebkgegohaaGreatDoor.Ln
open Go.RowKit Go.Rel Go.Draw Go.Solid
set_option maxRecDepth 100000
/-! TraceLines -/
set_option maxHeartbeats 16000000 in
theorem TraceLines_walk (K : Nat) (p : Int) (s : Sol) (B : ByteArray) (w : World) (hX : EnvX w) (hT : Tab w)
  (hA : ∀ W, Below w.heap.size w W → Calls Tryz.prog 20 #[] W fun e w' => e = .returned (.bool true) ∧ Below W.heap.size W w')
  (hCK : ∀ (K : Nat) (p : Int) (s : Sol) u W, SlS W u (List.replicate 8 (1 : Sol)) → Calls Tryz.prog 36 #[.agg #[.int .u64 1, .int .u64 0, .int .u64 0, .int .u64 0, .int .u64 0, .int .u64 0, .int .u64 0, .int .u64 0, u], .agg #[.int .u8 K, .int .i64 p, .int .u64 (pl s 0), .int .u64 (pl s 1), .int .u64 (pl s 2), .int .u64 (pl s 3), .int .u64 (pl s 4), .int .u64 (pl s 5), .int .u64 (pl s 6), .int .u64 (pl s 7)]] W fun e w' => e = .returned (.int .i64 (if fitX (K, p, s) then 0 else 1)) ∧ Below W.heap.size W w') :
  Calls Tryz.prog 18 #[actX (K, p, s), .string B] w fun e w' => e = .returned (.bool true) ∧ Below w.heap.size w w' := by
 have HC := Lib.hid hA; clear hA
 by_cases hbig : 250 < B.size
 ·have d1 : decide ((250 : Int) < (B.size : Int)) = true := decide_eq_true (by omega)
  clear hbig hX hT hCK
  go_enter Tryz.func18, Tryz.ntmps18
  go_wp2_with fail
  refine (HC.out _ (by repeat (first | with_reducible exact bel_refl _ | with_reducible assumption | with_reducible refine bel_drewN ?_ _ | with_reducible refine bel_drew ?_ | with_reducible refine bel_alloc ?_ _ | with_reducible refine bel_row ?_ ?_ _ | with_reducible refine bel_set ?_ ?_ _ | refine bel_trans ?_ (by with_reducible assumption) | (simp; done) | (simp; omega)))).mono ?_
  rintro e w4 ⟨rfl, hb4⟩
  have H4 := Lib.hid (bel_trans (show Below w.heap.size w (w.alloc (.cells #[.int .u8 K, .int .i64 p, .int .u64 (pl s 0), .int .u64 (pl s 1), .int .u64 (pl s 2), .int .u64 (pl s 3), .int .u64 (pl s 4), .int .u64 (pl s 5), .int .u64 (pl s 6), .int .u64 (pl s 7)] 46)) from (by repeat (first | with_reducible exact bel_refl _ | with_reducible assumption | with_reducible refine bel_drewN ?_ _ | with_reducible refine bel_drew ?_ | with_reducible refine bel_alloc ?_ _ | with_reducible refine bel_row ?_ ?_ _ | with_reducible refine bel_set ?_ ?_ _ | refine bel_trans ?_ (by with_reducible assumption) | (simp; done) | (simp; omega)))) hb4); clear hb4
  go_wp2_with fail
  exact bodyPost_ret (v := .bool true) (by simp [results, Tryz.results18, go_sem]) rfl ⟨rfl, H4.out⟩
 ·have d1 : decide ((250 : Int) < (B.size : Int)) = false := decide_eq_false (by omega)
  obtain ⟨l, hl⟩ : ∃ l : List UInt8, B = ⟨l.toArray⟩ := ⟨B.data.toList, by rcases B with ⟨⟨b⟩⟩; rfl⟩
  have hl250 : l.length ≤ 250 := by rw [hl] at hbig; exact Nat.le_of_not_lt hbig
  have HWA : Hid (∀ (K : Nat) (p : Int) (s : Sol) (W : World), Below w.heap.size w W → Calls Tryz.prog 81 #[actX (K, p, s)] W fun e w' => e = .returned (.tuple #[.string ⟨(wrXM (K, p, s)).1.toArray⟩, .int .i64 (wrXM (K, p, s)).2]) ∧ Below W.heap.size W w') := Lib.hid fun K p s W hb => WriteA K p s W (hT.grow hb) (fun u W' h => hCK K p s u W' h)
  have HRA : Hid (∀ (m : List UInt8) (W : World), m.length ≤ 300 → Below w.heap.size w W → Calls Tryz.prog 83 #[.string ⟨m.toArray⟩] W fun e w' => e = .returned (.tuple #[actX (rdX m).1, .int .i64 (rdX m).2]) ∧ Below W.heap.size W w') := Lib.hid fun m W hm hb => ReadA m hm W (hX.grow hb hX.size) (hT.grow hb) (fun K p s W' hb' => HWA.out K p s W' (bel_trans hb hb'))
  obtain ⟨⟨L, e1⟩, hwm⟩ : ∃ y, wrXM (K, p, s) = y := ⟨_, rfl⟩
  obtain ⟨⟨⟨M, q, t⟩, er⟩, hrd⟩ : ∃ y, rdX l = y := ⟨_, rfl⟩
  have HW1 : Hid (∀ W, Below w.heap.size w W → Calls Tryz.prog 81 #[.agg #[.int .u8 K, .int .i64 p, .int .u64 (pl s 0), .int .u64 (pl s 1), .int .u64 (pl s 2), .int .u64 (pl s 3), .int .u64 (pl s 4), .int .u64 (pl s 5), .int .u64 (pl s 6), .int .u64 (pl s 7)]] W fun e w' => e = .returned (.tuple #[.string ⟨L.toArray⟩, .int .i64 e1]) ∧ Below W.heap.size W w') := Lib.hid fun W hb => by
   have := HWA.out K p s W hb
   rw [hwm] at this; exact this
  have HW2 : Hid (∀ W, Calls Tryz.prog 82 #[.agg #[.int .u8 K, .int .i64 p, .int .u64 (pl s 0), .int .u64 (pl s 1), .int .u64 (pl s 2), .int .u64 (pl s 3), .int .u64 (pl s 4), .int .u64 (pl s 5), .int .u64 (pl s 6), .int .u64 (pl s 7)]] W fun e w' => e = .returned (.tuple #[.string ⟨L.toArray⟩, .int .i64 e1]) ∧ Below W.heap.size W w') := Lib.hid fun W => by
   have := refWriteA K p s W
   rw [hwm] at this; exact this
  have HR1 : Hid (∀ W, Below w.heap.size w W → Calls Tryz.prog 83 #[.string B] W fun e w' => e = .returned (.tuple #[.agg #[.int .u8 M, .int .i64 q, .int .u64 (pl t 0), .int .u64 (pl t 1), .int .u64 (pl t 2), .int .u64 (pl t 3), .int .u64 (pl t 4), .int .u64 (pl t 5), .int .u64 (pl t 6), .int .u64 (pl t 7)], .int .i64 er]) ∧ Below W.heap.size W w') := Lib.hid fun W hb => by
   have := HRA.out l W (by omega) hb
   rw [hrd, ← hl] at this; exact this
  have HR2 : Hid (∀ W, Calls Tryz.prog 84 #[.string B] W fun e w' => e = .returned (.tuple #[.agg #[.int .u8 M, .int .i64 q, .int .u64 (pl t 0), .int .u64 (pl t 1), .int .u64 (pl t 2), .int .u64 (pl t 3), .int .u64 (pl t 4), .int .u64 (pl t 5), .int .u64 (pl t 6), .int .u64 (pl t 7)], .int .i64 er]) ∧ Below W.heap.size W w') := Lib.hid fun W => by
   have := refReadA l (by omega) W
   rw [hrd, ← hl] at this; exact this
  have HE1 : Hid ((e1 = 0 ∧ ∀ W, Below w.heap.size w W → Calls Tryz.prog 83 #[.string ⟨L.toArray⟩] W fun e w' => e = .returned (.tuple #[.agg #[.int .u8 K, .int .i64 p, .int .u64 (pl s 0), .int .u64 (pl s 1), .int .u64 (pl s 2), .int .u64 (pl s 3), .int .u64 (pl s 4), .int .u64 (pl s 5), .int .u64 (pl s 6), .int .u64 (pl s 7)], .int .i64 0]) ∧ Below W.heap.size W w') ∨ e1 = 1) := Lib.hid (by
   cases hf : fitX (K, p, s)
   ·right
    have : wrXM (K, p, s) = ([], 1) := by unfold wrXM; rw [hf]; rfl
    exact congrArg Prod.snd (hwm.symm.trans this)
   ·left
    have h1 := hwm.symm.trans (wrXM_fit hf)
    have h2 : L = wrX (K, p, s) := congrArg Prod.fst h1
    refine ⟨congrArg Prod.snd h1, fun W hb => ?_⟩
    have := HRA.out L W (by have := wrX_len (a := (K, p, s)); rw [h2]; omega) hb
    rw [h2, rdX_wr hf] at this
    rw [h2]; exact this)
  have HE2 : Hid ((er = 0 ∧ ∀ W, Below w.heap.size w W → Calls Tryz.prog 81 #[.agg #[.int .u8 M, .int .i64 q, .int .u64 (pl t 0), .int .u64 (pl t 1), .int .u64 (pl t 2), .int .u64 (pl t 3), .int .u64 (pl t 4), .int .u64 (pl t 5), .int .u64 (pl t 6), .int .u64 (pl t 7)]] W fun e w' => e = .returned (.tuple #[.string B, .int .i64 0]) ∧ Below W.heap.size W w') ∨ er = 4) := Lib.hid (by
   rcases rdX_two l with ⟨a, h1, h2, h3⟩ | h
   ·left
    have h4 := hrd.symm.trans h3
    have h5 : (M, q, t) = a := congrArg Prod.fst h4
    subst h5
    refine ⟨congrArg Prod.snd h4, fun W hb => ?_⟩
    have := HWA.out M q t W hb
    rw [wrXM_fit h1, h2, ← hl] at this
    exact this
   ·right
    exact congrArg Prod.snd (hrd.symm.trans h))
  obtain ⟨LB, hLB⟩ : ∃ y : ByteArray, y = ⟨L.toArray⟩ := ⟨_, rfl⟩
  rw [← hLB] at HW1 HW2 HE1
  clear hX hT hCK hbig hl hl250 hwm hrd HWA HRA hLB
  go_enter Tryz.func18, Tryz.ntmps18
  go_wp2_with fail
  refine (HW1.out _ (by repeat (first | with_reducible exact bel_refl _ | with_reducible assumption | with_reducible refine bel_drewN ?_ _ | with_reducible refine bel_drew ?_ | with_reducible refine bel_alloc ?_ _ | with_reducible refine bel_row ?_ ?_ _ | with_reducible refine bel_set ?_ ?_ _ | refine bel_trans ?_ (by with_reducible assumption) | (simp; done) | (simp; omega)))).mono ?_
  rintro e w1 ⟨rfl, hb1⟩
  have bS : Blk w1 w.heap.size #[.int .u8 K, .int .i64 p, .int .u64 (pl s 0), .int .u64 (pl s 1), .int .u64 (pl s 2), .int .u64 (pl s 3), .int .u64 (pl s 4), .int .u64 (pl s 5), .int .u64 (pl s 6), .int .u64 (pl s 7)] 46 := (Blk.new w #[.int .u8 K, .int .i64 p, .int .u64 (pl s 0), .int .u64 (pl s 1), .int .u64 (pl s 2), .int .u64 (pl s 3), .int .u64 (pl s 4), .int .u64 (pl s 5), .int .u64 (pl s 6), .int .u64 (pl s 7)] 46).grow hb1
  have hbw1 : Below w.heap.size w w1 := bel_trans (bel_alloc (bel_refl w) (.cells #[.int .u8 K, .int .i64 p, .int .u64 (pl s 0), .int .u64 (pl s 1), .int .u64 (pl s 2), .int .u64 (pl s 3), .int .u64 (pl s 4), .int .u64 (pl s 5), .int .u64 (pl s 6), .int .u64 (pl s 7)] 46)) hb1
  have c0 := bS.cell; have l0 := bS.lt
  have H1 := Lib.hid (And.intro bS hbw1); clear bS hbw1 hb1
  go_wp2_with fail
  refine (HW2.out _).mono ?_
  rintro e w2 ⟨rfl, hb2⟩
  have H2 := Lib.hid (And.intro (H1.out.1.grow hb2) (bel_trans H1.out.2 hb2)); clear hb2 H1 c0 l0
  go_wp2_with fail
  refine (HR1.out _ H2.out.2).mono ?_
  rintro e w3 ⟨rfl, hb3⟩
  have H3 := Lib.hid (And.intro (H2.out.1.grow hb3) (bel_trans H2.out.2 hb3)); clear hb3 H2
  go_wp2_with fail
  obtain ⟨W3, hW3⟩ : ∃ W3, W3 = w3.alloc (.cells #[.int .u8 M, .int .i64 q, .int .u64 (pl t 0), .int .u64 (pl t 1), .int .u64 (pl t 2), .int .u64 (pl t 3), .int .u64 (pl t 4), .int .u64 (pl t 5), .int .u64 (pl t 6), .int .u64 (pl t 7)] 46) := ⟨_, rfl⟩
  obtain ⟨g3, hg3⟩ : ∃ g, g = w3.heap.size := ⟨_, rfl⟩
  have K3 : Blk W3 w.heap.size #[.int .u8 K, .int .i64 p, .int .u64 (pl s 0), .int .u64 (pl s 1), .int .u64 (pl s 2), .int .u64 (pl s 3), .int .u64 (pl s 4), .int .u64 (pl s 5), .int .u64 (pl s 6), .int .u64 (pl s 7)] 46 ∧ Blk W3 g3 #[.int .u8 M, .int .i64 q, .int .u64 (pl t 0), .int .u64 (pl t 1), .int .u64 (pl t 2), .int .u64 (pl t 3), .int .u64 (pl t 4), .int .u64 (pl t 5), .int .u64 (pl t 6), .int .u64 (pl t 7)] 46 ∧ Below w.heap.size w W3 := by
   rw [hW3, hg3]; exact ⟨H3.out.1.alloc _, Blk.new _ _ _, bel_alloc H3.out.2 _⟩
  rw [← hW3, ← hg3]
  have H4 := Lib.hid K3; clear K3 hW3 hg3 H3
  refine (HR2.out _).mono ?_
  rintro e w4 ⟨rfl, hb4⟩
  have H5 := Lib.hid (And.intro (H4.out.1.grow hb4) (And.intro (H4.out.2.1.grow hb4) (bel_trans H4.out.2.2 hb4))); clear hb4 H4
  have cS := H5.out.2.1.alloc (.cells #[.int .u8 M, .int .i64 q, .int .u64 (pl t 0), .int .u64 (pl t 1), .int .u64 (pl t 2), .int .u64 (pl t 3), .int .u64 (pl t 4), .int .u64 (pl t 5), .int .u64 (pl t 6), .int .u64 (pl t 7)] 46)
  have q3 := cS.cell; have m3 := cS.lt
  clear cS
  rcases HE1.out with ⟨rfl, hback⟩ | rfl
  ·have HBK := Lib.hid hback; clear hback HE1
   go_wp2_with fail
   obtain ⟨W4, hW4⟩ : ∃ W4, W4 = w4.alloc (.cells #[.int .u8 M, .int .i64 q, .int .u64 (pl t 0), .int .u64 (pl t 1), .int .u64 (pl t 2), .int .u64 (pl t 3), .int .u64 (pl t 4), .int .u64 (pl t 5), .int .u64 (pl t 6), .int .u64 (pl t 7)] 46) := ⟨_, rfl⟩
   have K4 : Blk W4 w.heap.size #[.int .u8 K, .int .i64 p, .int .u64 (pl s 0), .int .u64 (pl s 1), .int .u64 (pl s 2), .int .u64 (pl s 3), .int .u64 (pl s 4), .int .u64 (pl s 5), .int .u64 (pl s 6), .int .u64 (pl s 7)] 46 ∧ Blk W4 g3 #[.int .u8 M, .int .i64 q, .int .u64 (pl t 0), .int .u64 (pl t 1), .int .u64 (pl t 2), .int .u64 (pl t 3), .int .u64 (pl t 4), .int .u64 (pl t 5), .int .u64 (pl t 6), .int .u64 (pl t 7)] 46 ∧ Below w.heap.size w W4 := by
    rw [hW4]; exact ⟨H5.out.1.alloc _, H5.out.2.1.alloc _, bel_alloc H5.out.2.2 _⟩
   rw [← hW4]
   have H6 := Lib.hid K4; clear K4 hW4 H5 q3 m3
   refine (HBK.out _ H6.out.2.2).mono ?_
   rintro e w5 ⟨rfl, hb5⟩
   have H7 := Lib.hid (And.intro (H6.out.1.grow hb5) (And.intro (H6.out.2.1.grow hb5) (bel_trans H6.out.2.2 hb5))); clear hb5 H6
   have c0 := (H7.out.1.alloc (.cells #[.int .u8 K, .int .i64 p, .int .u64 (pl s 0), .int .u64 (pl s 1), .int .u64 (pl s 2), .int .u64 (pl s 3), .int .u64 (pl s 4), .int .u64 (pl s 5), .int .u64 (pl s 6), .int .u64 (pl s 7)] 46)).cell; have l0 := (H7.out.1.alloc (.cells #[.int .u8 K, .int .i64 p, .int .u64 (pl s 0), .int .u64 (pl s 1), .int .u64 (pl s 2), .int .u64 (pl s 3), .int .u64 (pl s 4), .int .u64 (pl s 5), .int .u64 (pl s 6), .int .u64 (pl s 7)] 46)).lt
   have c3 := (H7.out.2.1.alloc (.cells #[.int .u8 K, .int .i64 p, .int .u64 (pl s 0), .int .u64 (pl s 1), .int .u64 (pl s 2), .int .u64 (pl s 3), .int .u64 (pl s 4), .int .u64 (pl s 5), .int .u64 (pl s 6), .int .u64 (pl s 7)] 46)).cell; have l3 := (H7.out.2.1.alloc (.cells #[.int .u8 K, .int .i64 p, .int .u64 (pl s 0), .int .u64 (pl s 1), .int .u64 (pl s 2), .int .u64 (pl s 3), .int .u64 (pl s 4), .int .u64 (pl s 5), .int .u64 (pl s 6), .int .u64 (pl s 7)] 46)).lt
   have hb8 := bel_alloc H7.out.2.2 (.cells #[.int .u8 K, .int .i64 p, .int .u64 (pl s 0), .int .u64 (pl s 1), .int .u64 (pl s 2), .int .u64 (pl s 3), .int .u64 (pl s 4), .int .u64 (pl s 5), .int .u64 (pl s 6), .int .u64 (pl s 7)] 46)
   have H8 := Lib.hid hb8; clear hb8
   rcases HE2.out with ⟨rfl, hwb⟩ | rfl
   ·have HWB := Lib.hid hwb; clear hwb HE2
    go_wp2_with fail
    refine (HWB.out _ H8.out).mono ?_
    rintro e w6 ⟨rfl, hb6⟩
    have H9 := Lib.hid (bel_trans H8.out hb6); clear hb6
    go_wp2_with fail
    refine (HC.out _ H9.out).mono ?_
    rintro e w7 ⟨rfl, hb7⟩
    have H10 := Lib.hid (bel_trans H9.out hb7); clear hb7
    go_wp2_with fail
    exact bodyPost_ret (v := .bool true) (by simp [results, Tryz.results18, go_sem]) rfl ⟨rfl, H10.out⟩
   ·go_wp2_with fail
    refine (HC.out _ H8.out).mono ?_
    rintro e w7 ⟨rfl, hb7⟩
    have H10 := Lib.hid (bel_trans H8.out hb7); clear hb7
    go_wp2_with fail
    exact bodyPost_ret (v := .bool true) (by simp [results, Tryz.results18, go_sem]) rfl ⟨rfl, H10.out⟩
  ·clear HE1
   have hb8 := bel_alloc H5.out.2.2 (.cells #[.int .u8 M, .int .i64 q, .int .u64 (pl t 0), .int .u64 (pl t 1), .int .u64 (pl t 2), .int .u64 (pl t 3), .int .u64 (pl t 4), .int .u64 (pl t 5), .int .u64 (pl t 6), .int .u64 (pl t 7)] 46)
   have H8 := Lib.hid hb8; clear hb8
   rcases HE2.out with ⟨rfl, hwb⟩ | rfl
   ·have HWB := Lib.hid hwb; clear hwb HE2
    go_wp2_with fail
    refine (HWB.out _ H8.out).mono ?_
    rintro e w6 ⟨rfl, hb6⟩
    have H9 := Lib.hid (bel_trans H8.out hb6); clear hb6
    go_wp2_with fail
    refine (HC.out _ H9.out).mono ?_
    rintro e w7 ⟨rfl, hb7⟩
    have H10 := Lib.hid (bel_trans H9.out hb7); clear hb7
    go_wp2_with fail
    exact bodyPost_ret (v := .bool true) (by simp [results, Tryz.results18, go_sem]) rfl ⟨rfl, H10.out⟩
   ·go_wp2_with fail
    refine (HC.out _ H8.out).mono ?_
    rintro e w7 ⟨rfl, hb7⟩
    have H10 := Lib.hid (bel_trans H8.out hb7); clear hb7
    go_wp2_with fail
    exact bodyPost_ret (v := .bool true) (by simp [results, Tryz.results18, go_sem]) rfl ⟨rfl, H10.out⟩
end Go.Proofs.YtccnkebkgegohaaGreatDoor.Ln
end
