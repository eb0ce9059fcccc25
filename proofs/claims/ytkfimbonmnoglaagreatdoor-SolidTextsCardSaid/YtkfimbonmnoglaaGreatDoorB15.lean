import Derived.Test.YtkfimbonmnoglaaGreatDoorB14
import Derived.Deep.Cut
/-
  Given contracts of functions of the program, and laws for them, one behind the other.
-/
set_option linter.unusedVariables false
set_option linter.unusedSimpArgs false
set_option linter.unusedSectionVars false
section
namespace Go.Proofs.YtkfimbonmnoglaaGreatDoor
open Go.RowKit Go.Rel Go.Draw Go.Solid
set_option maxRecDepth 100000
theorem und41 : Tryz.prog.underlying 41 = some (.slice 26) := by kernel_rfl
theorem zeroSol : ∀ w, (zeroValue 26).run Tryz.prog w = .ok (.agg #[.int .u64 0, .int .u64 0, .int .u64 0, .int .u64 0, .int .u64 0, .int .u64 0, .int .u64 0, .int .u64 0]) w := fun w => by kernel_rfl
theorem sizSol : (Tryz.prog.info? 26).map (·.size) = some 8 := by kernel_rfl
attribute [local irreducible] ddN
set_option maxHeartbeats 2000000 in
theorem compact_short (p : Option Addr) {n cap : Nat} (hn : n < 2) (w : World) : Calls Tryz.prog 144 #[.slice p n cap] w fun e w' => e = .returned (.slice p n cap) ∧ Below w.heap.size w w' := by
 have hd : decide ((n : Int) < 2) = true := decide_eq_true (by omega)
 go_enter Tryz.func144, Tryz.ntmps144
 go_wp2_with fail
 go_ret
 exact ⟨rfl, (by repeat (first | with_reducible exact bel_refl _ | with_reducible assumption | with_reducible refine bel_drewN ?_ _ | with_reducible refine bel_drew ?_ | with_reducible refine bel_alloc ?_ _ | with_reducible refine bel_row ?_ ?_ _ | with_reducible refine bel_set ?_ ?_ _ | refine bel_trans ?_ (by with_reducible assumption) | (simp; done) | (simp; omega)))⟩
set_option maxHeartbeats 4000000 in
theorem compact_spec {W : World} {base g cap n : Nat} {l : List Sol} {T : TypeId} {cur : Array Value} (h : RowC W g cap l T cur) (hn : l.length = n) (h2 : 2 ≤ n) (hbg : base ≤ g) (hcap : n ≤ 1048576 ∧ cap ≤ 9223372036854775807) :
  Calls Tryz.prog 144 #[.slice (some ⟨g, 0, none⟩) n cap] W fun e w' => (∃ K cur', e = .returned (.slice (some ⟨g, 0, none⟩) K cap) ∧ K = (ddN l n).length ∧ RowC w' g cap (ddN l n) T cur') ∧ Below base W w' := by
 have hnc : n ≤ cap := by rw [← hn]; exact h.le
 obtain ⟨hn20, hcap⟩ := hcap
 have HH := Lib.hid (And.intro h hn)
 have hlg := h.blk.lt
 clear h hn
 go_enter Tryz.func144, Tryz.ntmps144
 have hd : decide ((n : Int) < 2) = false := decide_eq_false (by omega)
 go_wp2_with fail
 clear hd
 go_loopw [3] (fun kv wx => ∃ k : Nat, k < n ∧ kv = .int .i64 ((k : Int) + 1) ∧ Hid (ddN l (k + 1) = l.take (k + 1) ∧ RowC wx g cap l T cur ∧ Below W.heap.size W wx)) (fun kv _ => n - (intOf kv).toNat)
 case atStart => exact ⟨0, by omega, rfl, Lib.hid ⟨(by
  have hx : l[0]? = some (l[0]'(by have := HH.out.2; omega)) := by simp
  rw [ddN_new hx (fun h => by omega)]
  have : l.take 1 = [l[0]'(by have := HH.out.2; omega)] := by
   rcases l with _ | ⟨a, l⟩
   ·have := HH.out.2; simp at this; omega
   ·rfl
  rw [show (0 : Nat) + 1 = 1 from rfl, this]
  unfold ddN; rfl), HH.out.1, Below.refl _ _⟩⟩
 case round =>
  obtain ⟨k, hk, rfl, HI⟩ := hrel
  by_cases hlt : k + 1 < n
  ·have hlt1 : (k : Int) + 1 < (n : Int) := by omega
   have hd : decide ((k : Int) + 1 < (n : Int)) = true := decide_eq_true hlt1
   obtain ⟨y, hy⟩ : ∃ y, l[k + 1]? = some y := ⟨l[k + 1]'(by have := HH.out.2; omega), by simp⟩
   obtain ⟨x, hx⟩ : ∃ x, l[k]? = some x := ⟨l[k]'(by have := HH.out.2; omega), by simp⟩
   have HXY := Lib.hid (And.intro hx hy)
   clear hx hy
   have hkk : (k : Int) + 1 - 1 = (k : Int) := by omega
   have hkn : (k : Int) < (n : Int) := by omega
   obtain ⟨wb, hwb⟩ : ∃ wb, wb = wr := ⟨_, rfl⟩
   have HD : Hid (RowC wb g cap l T cur ∧ Below W.heap.size W wb) := Lib.hid (by rw [hwb]; exact HI.out.2)
   have HDD := Lib.hid HI.out.1
   have lg := HD.out.1.blk.lt
   clear HI
   rw [← hwb]
   clear hwb
   have hkk1 : ((k : Int) + 1).toNat = k + 1 := by omega
   have hk0 : (0 : Int) ≤ (k : Int) + 1 := by omega
   have hwk : IntKind.i64.wrap (k : Int) = (k : Int) := IntWalk.i64_in _ ⟨by omega, by omega⟩
   go_wp2_with fail
   obtain ⟨q, hq⟩ : ∃ q, q = (y == x) := ⟨_, rfl⟩
   refine wp_region_val Grows (fun _ _ _ => True) [Is (.slice (some ⟨g, 0, none⟩) n cap), Is (.int .i64 ((k : Int) + 1)), Is (.pointer (some ⟨g, (k + 1) * 8, none⟩)), Is (solV y), Is (.slice (some ⟨g, 0, none⟩) n cap), Is (.int .i64 ((k : Int) + 1)), Is (.int .i64 (k : Int)), Is (.pointer (some ⟨g, k * 8, none⟩)), Is (solV x), Is (.bool q)] (by kernel_rfl) (by kernel_rfl) rfl Grows.refl (fun _ _ _ => Grows.trans) (stable_mem ⟨fun _ _ _ h _ => h, fun _ _ _ h _ => h, fun _ _ _ h _ => h, fun _ _ _ h _ => h, fun _ _ _ h _ => h, fun _ _ _ h _ => h, fun _ _ _ h _ => h, fun _ _ _ h _ => h, fun _ _ _ h _ => h, fun _ _ _ h _ => h, trivial⟩) wb (Below.drew (Below.refl _ _)) trivial ?_
   refine val_cons ?_ (fun v0 => ?_)
   ·intro L vs w1 hvs hat hb hI hF; try simp [factsI, Region.binds, Is] at hF
    have hc := (Grows.cells hb).1
    clear hI
    go_simp
    try simp [upd]
    try first | exact Grows.refl _ | exact trivial | exact ⟨Grows.refl _, trivial⟩
   refine val_cons ?_ (fun v1 => ?_)
   ·intro L vs w1 hvs hat hb hI hF; try simp [factsI, Region.binds, Is] at hF
    have hc := (Grows.cells hb).1
    clear hI
    go_simp
    try simp [upd]
    try first | exact Grows.refl _ | exact trivial | exact ⟨Grows.refl _, trivial⟩
   refine val_cons ?_ (fun v2 => ?_)
   ·intro L vs w1 hvs hat hb hI hF; try simp [factsI, Region.binds, Is] at hF
    have hc := (Grows.cells hb).1
    clear hI
    go_simp
    try simp [upd]
    try first | exact Grows.refl _ | exact trivial | exact ⟨Grows.refl _, trivial⟩
   refine val_cons ?_ (fun v3 => ?_)
   ·intro L vs w1 hvs hat hb hI hF; try simp [factsI, Region.binds, Is] at hF
    have D := HD.out.1.grow (show Below _ _ _ from hb)
    obtain ⟨b0, b1, b2, b3, b4, b5, b6, b7⟩ := D.sol8 HXY.out.2
    have lD := D.blk.lt
    clear D
    go_simp
    exact Grows.refl _
   refine val_cons ?_ (fun v4 => ?_)
   ·intro L vs w1 hvs hat hb hI hF; try simp [factsI, Region.binds, Is] at hF
    have hc := (Grows.cells hb).1
    clear hI
    go_simp
    try simp [upd]
    try first | exact Grows.refl _ | exact trivial | exact ⟨Grows.refl _, trivial⟩
   refine val_cons ?_ (fun v5 => ?_)
   ·intro L vs w1 hvs hat hb hI hF; try simp [factsI, Region.binds, Is] at hF
    have hc := (Grows.cells hb).1
    clear hI
    go_simp
    try simp [upd]
    try first | exact Grows.refl _ | exact trivial | exact ⟨Grows.refl _, trivial⟩
   refine val_cons ?_ (fun v6 => ?_)
   ·intro L vs w1 hvs hat hb hI hF; try simp [factsI, Region.binds, Is] at hF
    have hc := (Grows.cells hb).1
    clear hI
    go_simp
    try simp [upd]
    try first | exact Grows.refl _ | exact trivial | exact ⟨Grows.refl _, trivial⟩
   refine val_cons ?_ (fun v7 => ?_)
   ·intro L vs w1 hvs hat hb hI hF; try simp [factsI, Region.binds, Is] at hF
    have hc := (Grows.cells hb).1
    clear hI
    go_simp
    try simp [upd]
    try first | exact Grows.refl _ | exact trivial | exact ⟨Grows.refl _, trivial⟩
   refine val_cons ?_ (fun v8 => ?_)
   ·intro L vs w1 hvs hat hb hI hF; try simp [factsI, Region.binds, Is] at hF
    have D := HD.out.1.grow (show Below _ _ _ from hb)
    obtain ⟨b0, b1, b2, b3, b4, b5, b6, b7⟩ := D.sol8 HXY.out.1
    have lD := D.blk.lt
    clear D
    go_simp
    exact Grows.refl _
   refine val_cons ?_ (fun v9 => ?_)
   ·intro L vs w1 hvs hat hb hI hF; try simp [factsI, Region.binds, Is] at hF
    have hc := (Grows.cells hb).1
    clear hI
    go_simp
    try simp [upd]
    try first | exact Grows.refl _ | exact trivial | exact ⟨Grows.refl _, trivial⟩
   refine val_nil ?_
   intro vs w1 hvs hb hI hF
   simp [Is, Nat.forall_lt_succ_right] at hF
   simp only [Act.put, List.setIfInBounds_toArray, List.set_cons_succ, List.set_cons_zero, hF]
   clear hF
   have hb1 : Below wb.heap.size wb w1 := hb
   have D := HD.out.1.grow hb1
   have hbw := bel_trans HD.out.2 hb1
   have lD := D.blk.lt
   cases q with
   | false =>
    have hne : l[k + 1]? ≠ l[k]? := fun e => by
     rw [HXY.out.1, HXY.out.2] at e
     cases e
     rw [beq_self_eq_true] at hq; cases hq
    have HE := Lib.hid (And.intro D (And.intro hbw hne))
    clear hq hb hb1 D hbw hne HD
    go_wp2_with fail
    go_roundw
    case rel =>
     refine ⟨k + 1, by omega, by go_num, Lib.hid ⟨?_, HE.out.1, HE.out.2.1⟩⟩
     rw [ddN_new HXY.out.2 (fun _ => HE.out.2.2), HDD.out, List.take_add_one (l := l) (i := k + 1), HXY.out.2]; rfl
    case measure => simp [intOf]; omega
   | true =>
    have heq : l[k + 1]? = l[k]? := by
     rw [HXY.out.1, HXY.out.2, eq_of_beq hq.symm]
    have HC : Hid (CmpI w1 g cap l T (k + 1 + 1) (k + 1) cur ∧ Below W.heap.size W w1) := Lib.hid ⟨by
     have hlen : (ddN l (k + 1)).length = k + 1 := by rw [HDD.out, List.length_take, HH.out.2]; omega
     refine ⟨D.blk, D.size, ?_, ?_, fun t s z _ h2 h3 => ?_⟩
     ·rw [ddN_same (by omega) heq, HDD.out, List.map_take]
      have hf : ((l.map solL).take (k + 1)).flatten = ((l.map solL).flatten).take ((k + 1) * 8) := by
       conv => rhs; rw [← List.take_append_drop (k + 1) l, List.map_append, List.flatten_append, List.take_append_of_le_length (by rw [solF_len, List.length_take, HH.out.2]; omega), List.take_of_length_le (by rw [solF_len, List.length_take, HH.out.2]; omega)]
       rw [List.map_take]
      rw [hf, ← D.rows, List.take_take, Nat.min_eq_left (by rw [HH.out.2]; omega)]
     ·rw [ddN_same (by omega) heq, hlen]
     ·have := D.sol h2 h3
      rw [D.blk.cell] at this; exact this, hbw⟩
    clear hq hb hb1 D hbw heq HD HDD
    obtain ⟨n2, hn2⟩ : ∃ n2, n2 = n - (k + 1) := ⟨_, rfl⟩
    obtain ⟨c2, hc2⟩ : ∃ n2, n2 = cap - (k + 1) := ⟨_, rfl⟩
    have hle9 : (k : Int) + 1 ≤ (n : Int) := by omega
    have hnk1 : ((n : Int) - ((k : Int) + 1)).toNat = n2 := by omega
    have hck1 : ((cap : Int) - ((k : Int) + 1)).toNat = c2 := by omega
    go_wp2_with fail
    have HK := Lib.hid (And.intro hkk (And.intro hkn (And.intro hwk hkk1)))
    clear hkk hkn hwk hkk1 hk0 hd hlt1 hn2 hc2 hnk1 hck1 hle9 lg lD
    go_loopw [3, 5] (fun kv jv wx => ∃ (i K : Nat) (cur' : Array Value), i + 1 ≤ n - (k + 1) ∧ K < k + 1 + (i + 1) ∧ kv = .int .i64 (K : Int) ∧ jv = .int .i64 ((i : Int) + 1) ∧ Hid (CmpI wx g cap l T (k + 1 + (i + 1)) K cur' ∧ Below base W wx)) (fun _ jv _ => n - (intOf jv).toNat)
    case atStart => exact ⟨0, k + 1, cur, by omega, by omega, by go_num, by go_num, Lib.hid ⟨HC.out.1, by have := HC.out.2; exact this.mono (by omega)⟩⟩
    case round =>
     clear HC
     obtain ⟨i, K, cur', hi, hK, rfl, rfl, HJ⟩ := hrel
     obtain ⟨wb2, hwb2⟩ : ∃ wb, wb = wr := ⟨_, rfl⟩
     have HD : Hid (CmpI wb2 g cap l T (k + 1 + (i + 1)) K cur' ∧ Below base W wb2) := Lib.hid (by rw [hwb2]; exact HJ.out)
     have lg := HD.out.1.blk.lt
     clear HJ
     rw [← hwb2]
     clear hwb2
     by_cases hin : i + 1 < n - (k + 1)
     ·have hin1 : (i : Int) + 1 < ((n - (k + 1) : Nat) : Int) := by omega
      have hd : decide ((i : Int) + 1 < ((n - (k + 1) : Nat) : Int)) = true := decide_eq_true hin1
      obtain ⟨y2, hy2⟩ : ∃ y, l[k + 1 + (i + 1)]? = some y := ⟨l[k + 1 + (i + 1)]'(by have := HH.out.2; omega), by simp⟩
      obtain ⟨x2, hx2⟩ : ∃ x, l[k + 1 + (i + 1) - 1]? = some x := ⟨l[k + 1 + (i + 1) - 1]'(by have := HH.out.2; omega), by simp⟩
      have HXY2 := Lib.hid (And.intro hx2 hy2)
      clear hx2 hy2
      have hii : (i : Int) + 1 - 1 = (i : Int) := by omega
      have hii1 : ((i : Int) + 1).toNat = i + 1 := by omega
      have hi0 : (0 : Int) ≤ (i : Int) + 1 := by omega
      have hin2 : (i : Int) < ((n - (k + 1) : Nat) : Int) := by omega
      have hwi : IntKind.i64.wrap (i : Int) = (i : Int) := IntWalk.i64_in _ ⟨by omega, by omega⟩
      go_wp2_with fail
      obtain ⟨q, hq⟩ : ∃ q, q = (y2 != x2) := ⟨_, rfl⟩
      refine wp_region_val Grows (fun _ _ _ => True) [Is (.slice (some ⟨g, (k + 1) * 8, none⟩) (n - (k + 1)) (cap - (k + 1))), Is (.int .i64 ((i : Int) + 1)), Is (.pointer (some ⟨g, (k + 1) * 8 + (i + 1) * 8, none⟩)), Is (solV y2), Is (.slice (some ⟨g, (k + 1) * 8, none⟩) (n - (k + 1)) (cap - (k + 1))), Is (.int .i64 ((i : Int) + 1)), Is (.int .i64 (i : Int)), Is (.pointer (some ⟨g, (k + 1) * 8 + i * 8, none⟩)), Is (solV x2), Is (.bool q)] (by kernel_rfl) (by kernel_rfl) rfl Grows.refl (fun _ _ _ => Grows.trans) (stable_mem ⟨fun _ _ _ h _ => h, fun _ _ _ h _ => h, fun _ _ _ h _ => h, fun _ _ _ h _ => h, fun _ _ _ h _ => h, fun _ _ _ h _ => h, fun _ _ _ h _ => h, fun _ _ _ h _ => h, fun _ _ _ h _ => h, fun _ _ _ h _ => h, trivial⟩) wb2 (Below.drew (Below.refl _ _)) trivial ?_
      refine val_cons ?_ (fun v0 => ?_)
      ·intro L vs w1 hvs hat hb hI hF; try simp [factsI, Region.binds, Is] at hF
       have hc := (Grows.cells hb).1
       clear hI
       go_simp
       try simp [upd]
       try first | exact Grows.refl _ | exact trivial | exact ⟨Grows.refl _, trivial⟩
      refine val_cons ?_ (fun v1 => ?_)
      ·intro L vs w1 hvs hat hb hI hF; try simp [factsI, Region.binds, Is] at hF
       have hc := (Grows.cells hb).1
       clear hI
       go_simp
       try simp [upd]
       try first | exact Grows.refl _ | exact trivial | exact ⟨Grows.refl _, trivial⟩
      refine val_cons ?_ (fun v2 => ?_)
      ·intro L vs w1 hvs hat hb hI hF; try simp [factsI, Region.binds, Is] at hF
       have hc := (Grows.cells hb).1
       clear hI
       go_simp
       try simp [upd]
       try first | exact Grows.refl _ | exact trivial | exact ⟨Grows.refl _, trivial⟩
      refine val_cons ?_ (fun v3 => ?_)
      ·intro L vs w1 hvs hat hb hI hF; try simp [factsI, Region.binds, Is] at hF
       have D := HD.out.1.grow (show Below _ _ _ from hb)
       obtain ⟨b0, b1, b2, b3, b4, b5, b6, b7⟩ := D.sol8 (by omega) HXY2.out.2
       rw [show (k + 1 + (i + 1)) * 8 = (k + 1) * 8 + (i + 1) * 8 by omega] at b0 b1 b2 b3 b4 b5 b6 b7
       have lD := D.blk.lt
       clear D
       go_simp
       exact Grows.refl _
      refine val_cons ?_ (fun v4 => ?_)
      ·intro L vs w1 hvs hat hb hI hF; try simp [factsI, Region.binds, Is] at hF
       have hc := (Grows.cells hb).1
       clear hI
       go_simp
       try simp [upd]
       try first | exact Grows.refl _ | exact trivial | exact ⟨Grows.refl _, trivial⟩
      refine val_cons ?_ (fun v5 => ?_)
      ·intro L vs w1 hvs hat hb hI hF; try simp [factsI, Region.binds, Is] at hF
       have hc := (Grows.cells hb).1
       clear hI
       go_simp
       try simp [upd]
       try first | exact Grows.refl _ | exact trivial | exact ⟨Grows.refl _, trivial⟩
      refine val_cons ?_ (fun v6 => ?_)
      ·intro L vs w1 hvs hat hb hI hF; try simp [factsI, Region.binds, Is] at hF
       have hc := (Grows.cells hb).1
       clear hI
       go_simp
       try simp [upd]
       try first | exact Grows.refl _ | exact trivial | exact ⟨Grows.refl _, trivial⟩
      refine val_cons ?_ (fun v7 => ?_)
      ·intro L vs w1 hvs hat hb hI hF; try simp [factsI, Region.binds, Is] at hF
       have hc := (Grows.cells hb).1
       clear hI
       go_simp
       try simp [upd]
       try first | exact Grows.refl _ | exact trivial | exact ⟨Grows.refl _, trivial⟩
      refine val_cons ?_ (fun v8 => ?_)
      ·intro L vs w1 hvs hat hb hI hF; try simp [factsI, Region.binds, Is] at hF
       have D := HD.out.1.grow (show Below _ _ _ from hb)
       obtain ⟨b0, b1, b2, b3, b4, b5, b6, b7⟩ := D.sol8 (by omega) HXY2.out.1
       rw [show (k + 1 + (i + 1) - 1) * 8 = (k + 1) * 8 + i * 8 by omega] at b0 b1 b2 b3 b4 b5 b6 b7
       have lD := D.blk.lt
       clear D
       go_simp
       exact Grows.refl _
      refine val_cons ?_ (fun v9 => ?_)
      ·intro L vs w1 hvs hat hb hI hF; try simp [factsI, Region.binds, Is] at hF
       go_simp
       exact ⟨Grows.refl _, by simp [hq, bne]⟩
      refine val_nil ?_
      intro vs w1 hvs hb hI hF
      simp [Is, Nat.forall_lt_succ_right] at hF
      simp only [Act.put, List.setIfInBounds_toArray, List.set_cons_succ, List.set_cons_zero, hF]
      clear hF
      have hb1 : Below wb2.heap.size wb2 w1 := hb
      have D := HD.out.1.grow hb1
      have hbw : Below base W w1 := HD.out.2.trans (hb1.mono (by have := HD.out.2.size; omega))
      have lD := D.blk.lt
      cases q with
      | false =>
       have heq : l[k + 1 + (i + 1)]? = l[k + 1 + (i + 1) - 1]? := by
        have : (y2 == x2) = true := by simpa using hq
        rw [HXY2.out.1, HXY2.out.2, eq_of_beq this]
       have HE := Lib.hid (And.intro (D.same (by omega) heq) hbw)
       clear hq hb hb1 D hbw heq HD
       go_wp2_with fail
       go_roundw
       case rel => exact ⟨i + 1, K, cur', by omega, by omega, by go_num, by go_num, HE⟩
       case measure => simp [intOf]; omega
      | true =>
       have hne : l[k + 1 + (i + 1)]? ≠ l[k + 1 + (i + 1) - 1]? := fun e => by
        rw [HXY2.out.1, HXY2.out.2] at e
        cases e
        simp at hq
       have HE := Lib.hid (And.intro (D.new (by omega) HXY2.out.2 hne hK (by omega)) hbw)
       have HB := Lib.hid (And.intro D.blk D.size)
       obtain ⟨b0, b1, b2, b3, b4, b5, b6, b7⟩ := D.sol8 (by omega) HXY2.out.2
       rw [show (k + 1 + (i + 1)) * 8 = (k + 1) * 8 + (i + 1) * 8 by omega] at b0 b1 b2 b3 b4 b5 b6 b7
       have hKn : (K : Int) < (n : Int) := by omega
       clear hq hb hb1 D hbw hne HD
       go_wp2_with (refine wpList_store_at rfl 26 (.tmp 51) (.tmp 50) rfl g (K * 8) #[.int .u64 (pl y2 0), .int .u64 (pl y2 1), .int .u64 (pl y2 2), .int .u64 (pl y2 3), .int .u64 (pl y2 4), .int .u64 (pl y2 5), .int .u64 (pl y2 6), .int .u64 (pl y2 7)] rfl rfl T cur' HB.out.1 sizSol (by rw [HB.out.2]; show K * 8 + 8 ≤ _; omega) (solA_one [y2]) ?_)
       go_roundw
       case rel => exact ⟨i + 1, K + 1, _, by omega, by omega, by go_num, by go_num, Lib.hid ⟨HE.out.1, blw_row HE.out.2 hbg _⟩⟩
       case measure => simp [intOf]; omega
     ·have hie : i + 1 = n - (k + 1) := by omega
      have hq : k + 1 + (i + 1) = n := by omega
      have hd : decide ((i : Int) + 1 < ((n - (k + 1) : Nat) : Int)) = false := decide_eq_false (by omega)
      have hnlt : ¬ ((i : Int) + 1 < ((n - (k + 1) : Nat) : Int)) := by omega
      have D := HD.out.1
      rw [hq] at D
      have hKn : K < n := by omega
      have hKle : (K : Int) ≤ (n : Int) := by omega
      have hKc : (K : Int) ≤ (cap : Int) := by omega
      have hfit : K * 8 + (n - K) * 8 ≤ cur'.size := by rw [D.size]; omega
      have hr := run_clear_rows (P := Tryz.prog) wb2 41 26 0 (.agg #[.int .u64 0, .int .u64 0, .int .u64 0, .int .u64 0, .int .u64 0, .int .u64 0, .int .u64 0, .int .u64 0]) und41 zeroSol (by decide) g (K * 8) (n - K) (cap - K) (by omega) cur' T D.blk hfit
      have HE := Lib.hid (And.intro D (And.intro HD.out.2 hfit))
      clear D HD hie hq hfit
      go_wp2_with fail
      go_ret
      refine ⟨⟨K, rfl, HE.out.1.len.symm, _, ⟨HE.out.1.blk.rowS _, ?_, ?_, ?_⟩⟩, blw_row HE.out.2.1 hbg _⟩
      ·rw [spl_size (by rw [zeroCells_len]; exact HE.out.2.2)]; exact HE.out.1.size
      ·rw [HE.out.1.len]; omega
      ·rw [HE.out.1.len, spl_take_lo (Nat.le_refl _) (by have := HE.out.2.2; omega)]; exact HE.out.1.front
  ·obtain rfl : k + 1 = n := by omega
   have hd : decide ((k : Int) + 1 < ((k + 1 : Nat) : Int)) = false := decide_eq_false (by omega)
   have hnlt : ¬ ((k : Int) + 1 < ((k + 1 : Nat) : Int)) := by omega
   have hdl : ddN l (k + 1) = l := by rw [HI.out.1, List.take_of_length_le (by rw [HH.out.2]; exact Nat.le_refl _)]
   have HE := Lib.hid (And.intro hdl HI.out.2)
   clear hdl HI
   go_wp2_with fail
   go_ret
   refine ⟨⟨k + 1, rfl, by rw [HE.out.1, HH.out.2], cur, by rw [HE.out.1]; exact HE.out.2.1⟩, HE.out.2.2.mono (by omega)⟩
end Go.Proofs.YtkfimbonmnoglaaGreatDoor
end
section
namespace Go.Proofs.YtkfimbonmnoglaaGreatDoor
open Go.RowKit Go.Rel Go.Draw Go.Solid
set_option maxRecDepth 100000
theorem ddN_one {l : List Sol} (h : l.length < 2) : ddN l l.length = l := by
 match l, h with
 | [], _ => rfl
 | [a], _ => rfl
theorem compact_any {W : World} {base g cap n : Nat} {l m : List Sol} {T : TypeId} {cur : Array Value} (h : RowC W g cap l T cur) (hn : l.length = n) (hbg : base ≤ g) (hcap : n ≤ 1048576 ∧ cap ≤ 9223372036854775807) (hs : l.Pairwise fun x y => rank x ≤ rank y) (hp : l.Perm m) (hb : base ≤ W.heap.size) :
  Calls Tryz.prog 144 #[.slice (some ⟨g, 0, none⟩) n cap] W fun e w' => ∃ v, e = .returned v ∧ SlS w' v (sortD m) ∧ Below base W w' := by
 have hd := ddN_sort hs hp
 by_cases h2 : 2 ≤ n
 ·refine (compact_spec h hn h2 hbg hcap).mono ?_
  rintro e w' ⟨⟨K, cur', rfl, hK, hR⟩, hb⟩
  rw [hn] at hd
  rw [hd] at hR hK
  refine ⟨_, rfl, ?_, hb⟩
  have := hR.sl (by omega)
  rw [← hK] at this; exact this
 ·refine (compact_short (some ⟨g, 0, none⟩) (by omega) W).mono ?_
  rintro e w' ⟨rfl, hb'⟩
  rw [ddN_one (by omega)] at hd
  refine ⟨_, rfl, ?_, hb'.mono hb⟩
  have := (h.grow hb').sl (by omega)
  rw [hn] at this
  rw [← hd]; exact this
attribute [local irreducible] rank solA sortD imgL
set_option maxHeartbeats 2000000 in
theorem sorted_spec {W : World} {base g cap n : Nat} {l : List Sol} {T : TypeId} {cur : Array Value} (h : RowC W g cap l T cur) (hn : l.length = n) (hbg : base ≤ g) (hcap : n ≤ 1048576 ∧ cap ≤ 9223372036854775807) :
  Calls Tryz.prog 104 #[.slice (some ⟨g, 0, none⟩) n cap, .func (.func 102) #[] #[]] W fun e w' => ∃ v, e = .returned v ∧ SlS w' v (sortD l) ∧ Below base W w' := by
 have hlb : base ≤ W.heap.size := by have := h.blk.lt; omega
 have HS : Hid (∀ w', Below W.heap.size W w' → Calls Tryz.prog 143 #[.slice (some ⟨g, 0, none⟩) n cap, .func (.func 102) #[] #[]] w' fun e w' => e = .returned (.tuple #[]) ∧ ∃ (d : List Sol) (cur' : Array Value), d.Perm l ∧ (d.Pairwise fun x y => rank x ≤ rank y) ∧ RowC w' g cap d T cur' ∧ Below base W w') := Lib.hid fun w' hb => by
  have h' := h.grow hb
  have H := sortSol h' hbg (by have := hcap.1; omega)
  rw [hn] at H
  refine H.mono ?_
  rintro e w2 ⟨he, d, cur', h1, h2, h3, h4⟩
  exact ⟨he, d, cur', h1, h2, h3, (hb.mono hlb).trans h4⟩
 clear h
 go_enter Tryz.func104, Tryz.ntmps104
 go_wp2_with fail
 refine (HS.out _ (Below.refl _ _)).mono ?_
 rintro e w1 ⟨rfl, hex⟩
 refine Veil.out ?_
 obtain ⟨d, cur', hp, hs, hR, hb1⟩ := hex
 refine Veil.on ?_
 have HC := Lib.hid (compact_any hR (hp.length_eq.trans hn) hbg hcap hs hp (by have := hb1.size; omega))
 have HB := Lib.hid hb1
 clear hp hs hR hb1 HS
 go_wp2_with fail
 refine HC.out.mono ?_
 rintro e w2 ⟨v, rfl, hv, hb2⟩
 have HV := Lib.hid (And.intro hv (HB.out.trans hb2))
 clear hv hb2
 go_wp2_with fail
 go_ret
 exact ⟨_, rfl, HV.out.1, HV.out.2⟩
set_option maxHeartbeats 2000000 in
theorem images_spec (s : Sol) (w : World) (hT : Tab w) : Calls Tryz.prog 34 #[solV s] w fun e w' => ∃ v, e = .returned v ∧ SlS w' v (imagesS s) ∧ Below w.heap.size w w' := by
 have HIm : Hid (∀ W, Tab W → Calls Tryz.prog 100 #[solV s] W fun e w' => e = .returned (.agg (solA (imgL s))) ∧ Below W.heap.size W w') := Lib.hid fun W h => images_arr s W h
 have HT := Lib.hid hT
 have hlen : (imgL s).length = 24 := imgL_len s
 have hsz : (solA (imgL s)).size = 192 := by rw [solA_size, hlen]
 have HM : Hid (∀ W g, w.heap.size ≤ g → Blk W g (solA (imgL s)) 89 → Calls Tryz.prog 104 #[.slice (some ⟨g, 0, none⟩) 24 24, .func (.func 102) #[] #[]] W fun e w' => ∃ v, e = .returned v ∧ SlS w' v (imagesS s) ∧ Below w.heap.size W w') := Lib.hid fun W g hg hB => by
  have hR := RowC.of hB
  rw [hlen] at hR
  exact sorted_spec hR hlen hg ⟨by omega, by omega⟩
 obtain ⟨A, hA⟩ : ∃ A, A = solA (imgL s) := ⟨_, rfl⟩
 have hone : A.all (·.oneCell') = true := by rw [hA]; exact solA_one _
 rw [← hA] at HIm HM hsz
 obtain ⟨K, hK⟩ : ∃ K, K = imagesS s := ⟨_, rfl⟩
 rw [← hK] at HM ⊢
 have HA := Lib.hid (And.intro hsz hone)
 clear hT hlen hsz hA hone hK
 go_enter Tryz.func34, Tryz.ntmps34
 go_wp2_with fail
 refine (HIm.out _ (HT.out.grow (by repeat (first | with_reducible exact bel_refl _ | with_reducible assumption | with_reducible refine bel_drewN ?_ _ | with_reducible refine bel_drew ?_ | with_reducible refine bel_alloc ?_ _ | with_reducible refine bel_row ?_ ?_ _ | with_reducible refine bel_set ?_ ?_ _ | refine bel_trans ?_ (by with_reducible assumption) | (simp; done) | (simp; omega))))).mono ?_
 rintro e w1 ⟨rfl, hb1⟩
 have hbw : Below w.heap.size w w1 := bel_trans (by repeat (first | with_reducible exact bel_refl _ | with_reducible assumption | with_reducible refine bel_drewN ?_ _ | with_reducible refine bel_drew ?_ | with_reducible refine bel_alloc ?_ _ | with_reducible refine bel_row ?_ ?_ _ | with_reducible refine bel_set ?_ ?_ _ | refine bel_trans ?_ (by with_reducible assumption) | (simp; done) | (simp; omega))) hb1
 have hz89 : Tryz.zeroCells89.size = 192 := by decide +kernel
 have HW := Lib.hid (And.intro hbw hz89)
 have hws := hbw.size
 clear hbw hb1 hz89
 go_wp2_with (refine wpList_store_row rfl 89 (.tmp 3) (.tmp 5) rfl w1.heap.size A rfl rfl 89 _ (Blk.new w1 _ _) (by rw [siz89, HA.out.1]) (by rw [HA.out.1]; exact HW.out.2) HA.out.2 ?_)
 refine (HM.out _ w1.heap.size hws ((Blk.new w1 _ _).rowS A)).mono ?_
 rintro e w2 ⟨v, rfl, hv, hb2⟩
 have HV := Lib.hid (And.intro hv ((bel_row (bel_alloc HW.out.1 _) hws _).trans hb2))
 clear hv hb2
 go_wp2_with fail
 go_ret
 exact ⟨_, rfl, HV.out.1, HV.out.2⟩
end Go.Proofs.YtkfimbonmnoglaaGreatDoor
end
section
namespace Go.Proofs.YtkfimbonmnoglaaGreatDoor
open Go.RowKit Go.Rel Go.Draw Go.Solid
set_option maxRecDepth 100000
theorem solA_extract (l : List Sol) {t : Nat} {x : Sol} (hx : l[t]? = some x) : (solA l).extract (t * 8) (t * 8 + 8) = #[.int .u64 (pl x 0), .int .u64 (pl x 1), .int .u64 (pl x 2), .int .u64 (pl x 3), .int .u64 (pl x 4), .int .u64 (pl x 5), .int .u64 (pl x 6), .int .u64 (pl x 7)] := by
 have ht := (List.getElem?_eq_some_iff.1 hx).1
 have hs := solA_size l
 apply Array.ext_getElem?
 intro j
 rw [Array.getElem?_extract, hs]
 by_cases hj : j < 8
 ·rw [if_pos (by omega), solA_get, show (t * 8 + j) / 8 = t by omega, show (t * 8 + j) % 8 = j by omega, hx]
  obtain rfl | rfl | rfl | rfl | rfl | rfl | rfl | rfl : j = 0 ∨ j = 1 ∨ j = 2 ∨ j = 3 ∨ j = 4 ∨ j = 5 ∨ j = 6 ∨ j = 7 := by omega
  all_goals rfl
 ·rw [if_neg (by omega), Array.getElem?_eq_none (by show 8 ≤ j; omega)]
theorem idxA (l : List Sol) {t : Nat} {x : Sol} (hx : l[t]? = some x) (ht : t < 24) (w : World) : (Instr.index 89 (.agg (solA l)) (.int .i64 (t : Int))).run Tryz.prog w = .ok (solV x) w := by
 have ha := aggSol w
 have hz := sizeSol w
 unfold Instr.index part
 have h1 : (0 : Int) ≤ (t : Int) ∧ (t : Int) < ((24 : Nat) : Int) := by omega
 simp only [Sem.run_bind, asIntOf, Sem.run_pure, Result.andThen_ok, run_underlying und89, h1, and_self, if_true, hz, ha, Int.toNat_natCast, solA_extract l hx]
def natL (l : List Nat) : List Int := l.map fun n : Nat => (n : Int)
theorem natL_length (l : List Nat) : (natL l).length = l.length := by unfold natL; simp
def symP (s : Sol) (k : Nat) : List Nat := (List.range k).filter fun t => imageS s t == imageS s 0
theorem symP_succ (s : Sol) (k : Nat) : symP s (k + 1) = if imageS s k == imageS s 0 then symP s k ++ [k] else symP s k := by
 unfold symP
 rw [List.range_succ, List.filter_append]
 by_cases h : (imageS s k == imageS s 0) = true
 ·rw [if_pos h]; simp [h]
 ·rw [if_neg h]; simp [h]
theorem symP_len (s : Sol) (k : Nat) : (symP s k).length ≤ k := by
 unfold symP
 have := List.length_filter_le (fun t => imageS s t == imageS s 0) (List.range k)
 simpa using this
theorem symP_end (s : Sol) : symP s 24 = symL s := rfl
theorem imgL_get (s : Sol) {t : Nat} (ht : t < 24) : (imgL s)[t]? = some (imageS s t) := by
 unfold imgL
 rw [List.getElem?_map, List.getElem?_range ht]; rfl
theorem symP_zero (s : Sol) : natL (symP s 0) = [] := rfl
theorem own_apart {W : World} {base : Nat} {e : TypeId} {size n : Nat} {v : Value} {xs : List Value} {b : Nat} {c : Array Value} {T : TypeId} (h : W.ownsRow base e size v n xs) (hB : Blk W b c T) (hne : e ≠ T) : some b ≠ v.ownBlock := fun he => by
 obtain ⟨_, h | ⟨g2, cap2, cur2, hv2, _, hh2, _⟩⟩ := h
 ·rw [h.1] at he; cases he
 ·rw [hv2] at he
  have e' : b = g2 := Option.some.inj he
  unfold Blk at hB
  rw [e', hh2] at hB
  injection hB with h1
  injection h1 with _ h2
  exact hne h2
attribute [local irreducible] rank solA imgL symP imageS
set_option maxHeartbeats 4000000 in
theorem symmetries_spec (s : Sol) (w : World) (hT : Tab w) : Calls Tryz.prog 31 #[solV s] w fun e w' => ∃ u, e = .returned u ∧ OwnI w' w.heap.size u (natL (symL s)) ∧ Below w.heap.size w w' := by
 have HIm : Hid (∀ W, Tab W → Calls Tryz.prog 100 #[solV s] W fun e w' => e = .returned (.agg (solA (imgL s))) ∧ Below W.heap.size W w') := Lib.hid fun W h => images_arr s W h
 obtain ⟨i0, hi, hz0, hz1, hz2⟩ := info_parts infoInt
 have HI0 := Lib.hid (And.intro hi (And.intro hz0 (And.intro hz1 hz2))); clear hi hz0 hz1 hz2
 have HT := Lib.hid hT
 have hlen : (imgL s).length = 24 := imgL_len s
 have hsz : (solA (imgL s)).size = 192 := by rw [solA_size, hlen]
 have hone : (solA (imgL s)).all (·.oneCell') = true := solA_one _
 have HG := Lib.hid fun t (ht : t < 24) => imgL_get s ht
 have HX := Lib.hid fun t (ht : t < 24) (W : World) => idxA (imgL s) (imgL_get s ht) ht W
 obtain ⟨R, hR⟩ : ∃ R, R = symL s := ⟨_, rfl⟩
 rw [← hR]
 have HR : Hid (R = symP s 24) := Lib.hid (by rw [hR, symP_end])
 obtain ⟨l, hl⟩ : ∃ l, l = imgL s := ⟨_, rfl⟩
 rw [← hl] at HIm hsz hone HG HX
 obtain ⟨A, hA⟩ : ∃ A, A = solA l := ⟨_, rfl⟩
 have HA := Lib.hid (And.intro hA (And.intro (show A.size = 192 by rw [hA, hsz]) (show A.all (·.oneCell') = true by rw [hA, hone])))
 rw [← hA] at HIm HX
 clear hT hlen hsz hone hl hA hR
 go_enter Tryz.func31, Tryz.ntmps31
 go_wp2_with fail
 refine (HIm.out _ (HT.out.grow (by repeat (first | with_reducible exact bel_refl _ | with_reducible assumption | with_reducible refine bel_drewN ?_ _ | with_reducible refine bel_drew ?_ | with_reducible refine bel_alloc ?_ _ | with_reducible refine bel_row ?_ ?_ _ | with_reducible refine bel_set ?_ ?_ _ | refine bel_trans ?_ (by with_reducible assumption) | (simp; done) | (simp; omega))))).mono ?_
 rintro e w1 ⟨rfl, hb1⟩
 have hbw : Below w.heap.size w w1 := bel_trans (by repeat (first | with_reducible exact bel_refl _ | with_reducible assumption | with_reducible refine bel_drewN ?_ _ | with_reducible refine bel_drew ?_ | with_reducible refine bel_alloc ?_ _ | with_reducible refine bel_row ?_ ?_ _ | with_reducible refine bel_set ?_ ?_ _ | refine bel_trans ?_ (by with_reducible assumption) | (simp; done) | (simp; omega))) hb1
 have hz89 : Tryz.zeroCells89.size = 192 := by decide +kernel
 have HW := Lib.hid (And.intro hbw hz89)
 have hws := hbw.size
 clear hbw hb1 hz89
 go_wp2_with (first | refine wpList_store_row rfl 89 (.tmp 4) (.tmp 8) rfl w1.heap.size A rfl rfl 89 _ (Blk.new w1 _ _) (by rw [siz89, HA.out.2.1]) (by rw [HA.out.2.1]; exact HW.out.2) HA.out.2.2 ?_ | refine wpList_load_row rfl 89 (.tmp 4) rfl w1.heap.size rfl 89 A (0, 0) _ ((Blk.new w1 _ _).rowS A) und89 rfl (by rw [siz89, HA.out.2.1]) ?_)
 generalize hw2 : (w1.alloc _).setRow w1.heap.size A = w2
 have B2 : Blk w2 w1.heap.size (solA l) 89 := by rw [← hw2, ← HA.out.1]; exact (Blk.new w1 _ _).rowS A
 have hb2 : Below w.heap.size w w2 := by rw [← hw2]; exact bel_row (bel_alloc HW.out.1 _) hws _
 have HB := Lib.hid (And.intro B2 hb2)
 have lw2 := B2.lt
 clear B2 hb2 hw2 HW
 go_loopw [3, 10] (fun ov tv wx => ∃ k : Nat, k ≤ 24 ∧ tv = .int .i64 k ∧ Hid (OwnI wx w.heap.size ov (natL (symP s k)) ∧ Blk wx w1.heap.size (solA l) 89 ∧ Below w.heap.size w wx)) (fun _ tv _ => 24 - (intOf tv).toNat)
 case atStart => exact ⟨0, by omega, rfl, Lib.hid ⟨(show OwnI w2 w.heap.size (.slice none 0 0) (natL (symP s 0)) by rw [symP_zero]; exact World.ownsRow_nil _ _ _ _), HB.out⟩⟩
 case round =>
  clear HB
  obtain ⟨k, hk, rfl, HI⟩ := hrel
  by_cases hlt : k < 24
  ·have hd : decide ((k : Int) < 24) = true := decide_eq_true (by omega)
   have hix := fun W => HX.out k hlt W
   obtain ⟨a0, a1, a2, a3, a4, a5, a6, a7⟩ := sol8 HI.out.2.1 (HG.out 0 (by omega))
   simp only [Nat.zero_mul, Nat.zero_add] at a0 a1 a2 a3 a4 a5 a6 a7
   have lr := HI.out.2.1.lt
   obtain ⟨x, hx⟩ : ∃ x, x = imageS s k := ⟨_, rfl⟩
   obtain ⟨y, hy⟩ : ∃ x, x = imageS s 0 := ⟨_, rfl⟩
   rw [← hx] at hix
   rw [← hy] at a0 a1 a2 a3 a4 a5 a6 a7
   obtain ⟨q, hq⟩ : ∃ q, q = (x == y) := ⟨_, rfl⟩
   have HQ : Hid (q = (imageS s k == imageS s 0)) := Lib.hid (by rw [hq, hx, hy])
   have hqe : (x == y) = q := hq.symm
   have hbz := HI.out.2.2.size
   have hpl := symP_len s k
   have ho := HI.out.1
   unfold OwnI at ho
   rw [natL_length] at ho
   have HO := Lib.hid (And.intro ho HI.out.2)
   clear hx hy hq ho HI
   cases q with
   | false =>
    go_wp2_with fail
    go_roundw
    case rel =>
     refine ⟨k + 1, by omega, by go_num, Lib.hid ⟨?_, HO.out.2.1.alloc _, bel_alloc HO.out.2.2 _⟩⟩
     rw [symP_succ, ← HQ.out, if_neg (by simp)]
     unfold OwnI
     rw [natL_length]
     exact HO.out.1.alloc _
    case measure => simp [intOf]; omega
   | true =>
    obtain ⟨wb, hwb⟩ : ∃ wb, wb = wr.alloc (.cells #[.int .u64 (pl x 0), .int .u64 (pl x 1), .int .u64 (pl x 2), .int .u64 (pl x 3), .int .u64 (pl x 4), .int .u64 (pl x 5), .int .u64 (pl x 6), .int .u64 (pl x 7)] 26) := ⟨_, rfl⟩
    have HC := Lib.hid (And.intro (show wb.ownsRow w.heap.size 3 1 _ _ _ by rw [hwb]; exact HO.out.1.alloc _) (And.intro (show Blk wb w1.heap.size (solA l) 89 by rw [hwb]; exact HO.out.2.1.alloc _) (show Below w.heap.size w wb by rw [hwb]; exact bel_alloc HO.out.2.2 _)))
    have hbz2 := HC.out.2.2.size
    have HWB := Lib.hid hwb
    clear hwb
    go_upto_region 7 with fail
    rw [← HWB.out]
    clear a0 a1 a2 a3 a4 a5 a6 a7
    go_wp2_with (first
     | (at_builtin; refine wpList_append_own _ rfl _ _ 38 rfl w.heap.size 3 i0 (.int .i64 0) 1 8 Tryz.underlying38 HI0.out.1 HI0.out.2.1 HI0.out.2.2.1 HI0.out.2.2.2 rfl (by decide) _ _ _ rfl (HC.out.1.alloc _) ⟨wb.heap.size, 0, none⟩ 1 1 [.int .i64 (k : Int)] rfl rfl (cell_one_new _ _ _) (fun x hx => by simp at hx; subst hx; rfl) (by unfold maxLen; omega) (by omega) (by simp; omega) ?_; intro v' w3 hown' hgrow3 hnil3))
    go_roundw
    case rel =>
     refine ⟨k + 1, by omega, by go_num, Lib.hid ⟨?_, ?_, (bel_alloc HC.out.2.2 _).grown hgrow3 (by simp; omega) (fun j hj => (HC.out.1.lt j hj).1)⟩⟩
     ·rw [symP_succ, ← HQ.out, if_pos rfl]
      unfold OwnI
      rw [natL_length, List.length_append]
      unfold natL at *
      rw [List.map_append, List.map_append]
      exact hown'
     ·exact (HC.out.2.1.alloc _).gb hgrow3 (own_apart (HC.out.1.alloc (.cells #[.int .i64 (k : Int)] 3)) (HC.out.2.1.alloc (.cells #[.int .i64 (k : Int)] 3)) (by decide))
    case measure => simp [intOf]; omega
  ·obtain rfl : k = 24 := by omega
   have hd : decide (((24 : Nat) : Int) < 24) = false := by decide
   have HO := HI
   go_wp2_with fail
   go_ret
   exact ⟨_, rfl, by rw [HR.out]; exact HO.out.1, HO.out.2.2⟩
end Go.Proofs.YtkfimbonmnoglaaGreatDoor
end
