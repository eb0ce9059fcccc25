import Derived.Test.YtkfimbonmnoglaaGreatDoorB22
import Derived.Deep.Cut
import Derived.Laws.IdiomStrings
import Derived.Lib.ConvBytes
/-
  Given contracts of functions of the program, and laws for them, one behind the other.
-/
set_option linter.unusedVariables false
set_option linter.unusedSimpArgs false
set_option linter.unusedSectionVars false
section
namespace Go.Proofs.YtkfimbonmnoglaaGreatDoor
open Go.RowKit Go.Rel Go.Draw Go.Solid
set_option maxRecDepth 100000
attribute [local go_sem] Oper.semAt_some
theorem hook_row : (#[.int .u64 (pl hookS 0), .int .u64 (pl hookS 1), .int .u64 (pl hookS 2), .int .u64 (pl hookS 3), .int .u64 (pl hookS 4), .int .u64 (pl hookS 5), .int .u64 (pl hookS 6), .int .u64 (pl hookS 7)] : Array Value) = #[.int .u64 263, .int .u64 0, .int .u64 0, .int .u64 0, .int .u64 0, .int .u64 0, .int .u64 0, .int .u64 0] := by kernel_rfl
theorem ring_row : (#[.int .u64 (pl ringS 0), .int .u64 (pl ringS 1), .int .u64 (pl ringS 2), .int .u64 (pl ringS 3), .int .u64 (pl ringS 4), .int .u64 (pl ringS 5), .int .u64 (pl ringS 6), .int .u64 (pl ringS 7)] : Array Value) = #[.int .u64 460039, .int .u64 0, .int .u64 0, .int .u64 0, .int .u64 0, .int .u64 0, .int .u64 0, .int .u64 0] := by kernel_rfl
theorem hook_spec (w : World) : Calls Tryz.prog 98 #[] w fun e w' => e = .returned (solV hookS) ∧ Below w.heap.size w w' := by
 obtain ⟨V, hV⟩ : ∃ V, V = solV hookS := ⟨_, rfl⟩
 have HV := Lib.hid (hV.trans (congrArg Value.agg hook_row))
 rw [← hV]
 clear hV
 go_enter Tryz.func98, Tryz.ntmps98
 go_wp2_with fail
 rw [HV.out]
 exact bodyPost_ret (v := .agg #[.int .u64 263, .int .u64 0, .int .u64 0, .int .u64 0, .int .u64 0, .int .u64 0, .int .u64 0, .int .u64 0]) (by simp [results, Tryz.results98, go_sem]) rfl ⟨rfl, (by repeat (first | with_reducible exact bel_refl _ | with_reducible assumption | with_reducible refine bel_drewN ?_ _ | with_reducible refine bel_drew ?_ | with_reducible refine bel_alloc ?_ _ | with_reducible refine bel_row ?_ ?_ _ | with_reducible refine bel_set ?_ ?_ _ | refine bel_trans ?_ (by with_reducible assumption) | (simp; done) | (simp; omega)))⟩
theorem ring_spec (w : World) : Calls Tryz.prog 99 #[] w fun e w' => e = .returned (solV ringS) ∧ Below w.heap.size w w' := by
 obtain ⟨V, hV⟩ : ∃ V, V = solV ringS := ⟨_, rfl⟩
 have HV := Lib.hid (hV.trans (congrArg Value.agg ring_row))
 rw [← hV]
 clear hV
 go_enter Tryz.func99, Tryz.ntmps99
 go_wp2_with fail
 rw [HV.out]
 exact bodyPost_ret (v := .agg #[.int .u64 460039, .int .u64 0, .int .u64 0, .int .u64 0, .int .u64 0, .int .u64 0, .int .u64 0, .int .u64 0]) (by simp [results, Tryz.results99, go_sem]) rfl ⟨rfl, (by repeat (first | with_reducible exact bel_refl _ | with_reducible assumption | with_reducible refine bel_drewN ?_ _ | with_reducible refine bel_drew ?_ | with_reducible refine bel_alloc ?_ _ | with_reducible refine bel_row ?_ ?_ _ | with_reducible refine bel_set ?_ ?_ _ | refine bel_trans ?_ (by with_reducible assumption) | (simp; done) | (simp; omega)))⟩
abbrev ints1 (l : List Int) : List (List Value) := l.map fun i => [.int .i64 i]
theorem ints_at {w : World} {b off : Nat} {l : List Int} (h : Cells w b off 1 (ints1 l)) {k : Nat} {x : Int} (hx : l[k]? = some x) : w.cell? ⟨b, off + k, none⟩ = some (.int .i64 x) := by
 have := h.2 k 0 (.int .i64 x) (by simp [hx])
 simpa using this
theorem drop_ne {a b : List Int} {k : Nat} {x y : Int} (ha : a[k]? = some x) (hb : b[k]? = some y) (h : x ≠ y) : a ≠ b := fun e => by
 rw [e, hb] at ha
 exact h (Option.some.inj ha).symm
set_option maxHeartbeats 4000000 in
theorem same_len_no {la lb : List Int} (w : World) {pa pb : Option Addr} {ca cb : Nat} (hn : la.length ≠ lb.length) :
  Calls Tryz.prog 30 #[.slice pa la.length ca, .slice pb lb.length cb] w fun e w' => e = .returned (.bool false) ∧ Below w.heap.size w w' := by
 have hd : (((la.length : Nat) : Int) != ((lb.length : Nat) : Int)) = true := by rw [bne_iff_ne]; omega
 clear hn
 go_enter Tryz.func30, Tryz.ntmps30
 go_wp2_with fail
 go_ret
 exact ⟨rfl, (by repeat (first | with_reducible exact bel_refl _ | with_reducible assumption | with_reducible refine bel_drewN ?_ _ | with_reducible refine bel_drew ?_ | with_reducible refine bel_alloc ?_ _ | with_reducible refine bel_row ?_ ?_ _ | with_reducible refine bel_set ?_ ?_ _ | refine bel_trans ?_ (by with_reducible assumption) | (simp; done) | (simp; omega)))⟩
set_option maxHeartbeats 4000000 in
theorem same_ints {la lb : List Int} {w : World} {va vb : Value} (hA : Sl w 1 va (ints1 la)) (hB : Sl w 1 vb (ints1 lb)) (hsz : la.length ≤ 1000000) :
  Calls Tryz.prog 30 #[va, vb] w fun e w' => e = .returned (.bool (decide (la = lb))) ∧ Below w.heap.size w w' := by
 obtain ⟨pa, ca, rfl, hca, hma, hoa⟩ := hA
 obtain ⟨pb, cb, rfl, hcb, hmb, hob⟩ := hB
 rw [List.length_map] at hca hcb ⊢
 rw [List.length_map]
 by_cases hn : la.length = lb.length
 ·have hd : (((la.length : Nat) : Int) != ((lb.length : Nat) : Int)) = false := by rw [bne_eq_false_iff_eq]; omega
  have HO := Lib.hid (And.intro hoa (And.intro hob hn))
  obtain ⟨R, hR⟩ : ∃ R, R = decide (la = lb) := ⟨_, rfl⟩
  rw [← hR]
  have HR := Lib.hid hR
  clear hoa hob hR
  obtain ⟨m, hm⟩ : ∃ m, m = lb.length := ⟨_, rfl⟩
  rw [← hm] at HO hd hcb ⊢
  have HM := Lib.hid hm
  clear hm
  go_enter Tryz.func30, Tryz.ntmps30
  go_wp2_with fail
  go_loopw [5] (fun iv wx => ∃ i : Nat, i ≤ la.length ∧ iv = .int .i64 i ∧ Hid (la.take i = lb.take i ∧ Below w.heap.size w wx)) (fun iv _ => la.length - (intOf iv).toNat)
  case atStart => exact ⟨0, Nat.zero_le _, rfl, Lib.hid ⟨rfl, Below.refl _ _⟩⟩
  case round =>
   obtain ⟨i, hi, rfl, HI⟩ := hrel
   by_cases hlt : i < la.length
   ·have hd0 : decide ((i : Int) < (la.length : Int)) = true := decide_eq_true (by omega)
    have hi9 : (i : Int) < (la.length : Int) := by omega
    have hn0 := HO.out.2.2
    have hj9 : (i : Int) < (m : Int) := by omega
    have hlm := HM.out
    obtain ⟨x, hx⟩ : ∃ x, la[i]? = some x := ⟨la[i], by simp [hlt]⟩
    obtain ⟨y, hy⟩ : ∃ y, lb[i]? = some y := ⟨lb[i]'(by omega), List.getElem?_eq_getElem _⟩
    rcases HO.out.1 with h0 | ⟨b1, o1, rfl, hC1⟩
    ·have := congrArg List.length h0
     rw [List.length_map] at this
     have h1 : la.length = 0 := this
     omega
    rcases HO.out.2.1 with h0 | ⟨b2, o2, rfl, hC2⟩
    ·have := congrArg List.length h0
     rw [List.length_map] at this
     have h1 : lb.length = 0 := this
     omega
    have hCa := hC1.mono HI.out.2 hC1.1
    have hCb := hC2.mono HI.out.2 hC2.1
    have HCC := Lib.hid (And.intro (ints_at hCa hx) (And.intro (ints_at hCb hy) (And.intro hCa.1 hCb.1)))
    have HXY := Lib.hid (And.intro hx hy)
    obtain ⟨wB, hwB⟩ : ∃ wB, wB = wr := ⟨_, rfl⟩
    rw [← hwB] at HI HCC ⊢
    clear hCa hCb hx hy hwB hlm
    go_wp2_with fail
    refine wp_region_val Grows (fun _ _ _ => True) [Is (.slice (some ⟨b1, o1, none⟩) la.length ca), Is (.int .i64 (i : Int)), Is (.pointer (some ⟨b1, o1 + i, none⟩)), Is (.int .i64 x), Is (.slice (some ⟨b2, o2, none⟩) m cb), Is (.int .i64 (i : Int)), Is (.pointer (some ⟨b2, o2 + i, none⟩)), Is (.int .i64 y), Is (.bool (x != y))] (by kernel_rfl) (by kernel_rfl) rfl Grows.refl (fun _ _ _ => Grows.trans) (stable_mem ⟨fun _ _ _ h _ => h, fun _ _ _ h _ => h, fun _ _ _ h _ => h, fun _ _ _ h _ => h, fun _ _ _ h _ => h, fun _ _ _ h _ => h, fun _ _ _ h _ => h, fun _ _ _ h _ => h, fun _ _ _ h _ => h, trivial⟩) wB (Below.drew (Below.refl _ _)) trivial ?_
    refine val_cons ?_ (fun v0 => ?_)
    ·intro L vs w1 hvs hat hb hI hF; try simp [factsI, Region.binds, Is] at hF
     have hc := (Grows.cells hb).1
     clear hI
     go_simp
     try simp [upd]
     try first | exact Grows.refl _ | exact trivial | exact ⟨Grows.refl _, trivial⟩
    refine val_cons ?_ (fun v1 => ?_)
    ·intro L vs w1 hvs hat hb hI hF; try simp [factsI, Region.binds, Is] at hF
     have hc := (Grows.cells hb).1
     clear hI
     go_simp
     try simp [upd]
     try first | exact Grows.refl _ | exact trivial | exact ⟨Grows.refl _, trivial⟩
    refine val_cons ?_ (fun v2 => ?_)
    ·intro L vs w1 hvs hat hb hI hF; try simp [factsI, Region.binds, Is] at hF
     have hc := (Grows.cells hb).1
     clear hI
     go_simp
     try simp [upd]
     try first | exact Grows.refl _ | exact trivial | exact ⟨Grows.refl _, trivial⟩
    refine val_cons ?_ (fun v3 => ?_)
    ·intro L vs w1 hvs hat hb hI hF; try simp [factsI, Region.binds, Is] at hF
     have hl := HCC.out.2.2.1
     have hb' : Below wB.heap.size wB w1 := hb
     have hc := (hb'.cell (p := ⟨b1, o1 + i, none⟩) hl).trans HCC.out.1
     have hl2 : b1 < w1.heap.size := Nat.lt_of_lt_of_le hl hb'.size
     go_simp
     first | exact Grows.refl _ | exact ⟨Grows.refl _, trivial⟩
    refine val_cons ?_ (fun v4 => ?_)
    ·intro L vs w1 hvs hat hb hI hF; try simp [factsI, Region.binds, Is] at hF
     have hc := (Grows.cells hb).1
     clear hI
     go_simp
     try simp [upd]
     try first | exact Grows.refl _ | exact trivial | exact ⟨Grows.refl _, trivial⟩
    refine val_cons ?_ (fun v5 => ?_)
    ·intro L vs w1 hvs hat hb hI hF; try simp [factsI, Region.binds, Is] at hF
     have hc := (Grows.cells hb).1
     clear hI
     go_simp
     try simp [upd]
     try first | exact Grows.refl _ | exact trivial | exact ⟨Grows.refl _, trivial⟩
    refine val_cons ?_ (fun v6 => ?_)
    ·intro L vs w1 hvs hat hb hI hF; try simp [factsI, Region.binds, Is] at hF
     have hc := (Grows.cells hb).1
     clear hI
     go_simp
     try simp [upd]
     try first | exact Grows.refl _ | exact trivial | exact ⟨Grows.refl _, trivial⟩
    refine val_cons ?_ (fun v7 => ?_)
    ·intro L vs w1 hvs hat hb hI hF; try simp [factsI, Region.binds, Is] at hF
     have hl := HCC.out.2.2.2
     have hb' : Below wB.heap.size wB w1 := hb
     have hc := (hb'.cell (p := ⟨b2, o2 + i, none⟩) hl).trans HCC.out.2.1
     have hl2 : b2 < w1.heap.size := Nat.lt_of_lt_of_le hl hb'.size
     go_simp
     first | exact Grows.refl _ | exact ⟨Grows.refl _, trivial⟩
    refine val_cons ?_ (fun v8 => ?_)
    ·intro L vs w1 hvs hat hb hI hF; try simp [factsI, Region.binds, Is] at hF
     have hc := (Grows.cells hb).1
     clear hI
     go_simp
     try simp [upd]
     try first | exact Grows.refl _ | exact trivial | exact ⟨Grows.refl _, trivial⟩
    refine val_nil ?_
    intro vs w1 hvs hb hI hF
    simp [Is, Nat.forall_lt_succ_right] at hF
    simp only [Act.put, List.setIfInBounds_toArray, List.set_cons_succ, List.set_cons_zero, hF]
    clear hF
    have hbB := Lib.hid (show Below wB.heap.size wB w1 from hb)
    clear hb hvs
    cases hq : (x != y) with
    | true =>
     have hRf : R = false := by rw [HR.out]; exact decide_eq_false (drop_ne HXY.out.1 HXY.out.2 (bne_iff_ne.1 hq))
     have HRf := Lib.hid hRf
     clear hRf
     go_wp2_with fail
     go_ret
     exact ⟨by rw [HRf.out]; rfl, HI.out.2.trans (hbB.out.mono HI.out.2.size)⟩
    | false =>
     have he : x = y := bne_eq_false_iff_eq.1 hq
     have HT := Lib.hid (show la.take (i + 1) = lb.take (i + 1) by rw [List.take_add_one, List.take_add_one, HXY.out.1, HXY.out.2, HI.out.1, he])
     clear he
     go_wp2_with fail
     go_roundw
     case rel => exact ⟨i + 1, by omega, by go_num, Lib.hid ⟨HT.out, HI.out.2.trans (hbB.out.mono HI.out.2.size)⟩⟩
     case measure => simp [intOf]; omega
   ·have hd0 : decide ((i : Int) < (la.length : Int)) = false := decide_eq_false (by omega)
    have hi9 : ¬ (i : Int) < (la.length : Int) := by omega
    have hRt : R = true := by
     rw [HR.out]
     have h1 := HI.out.1
     rw [List.take_of_length_le (by omega), List.take_of_length_le (by have := HO.out.2.2; have := HM.out; omega)] at h1
     exact decide_eq_true h1
    have HRt := Lib.hid hRt
    clear hRt
    go_wp2_with fail
    go_ret
    exact ⟨by rw [HRt.out]; rfl, HI.out.2⟩
 ·have : decide (la = lb) = false := decide_eq_false fun e => hn (by rw [e])
  rw [this]
  exact same_len_no w hn
end Go.Proofs.YtkfimbonmnoglaaGreatDoor
end
section
namespace Go.Proofs.YtkfimbonmnoglaaGreatDoor
open Go.RowKit Go.Rel Go.Draw Go.Solid
set_option maxRecDepth 100000
def sliceLen : Value → Nat
 | .slice _ n _ => n
 | _ => 0
theorem pow2_16 (w : World) : Calls Tryz.prog 186 #[.int .i64 16] w fun e w' => e = .returned (.bool true) ∧ w' = w := by
 go_enter Tryz.func186, Tryz.ntmps186
 go_wp2_with fail
 go_ret
 exact ⟨rfl, rfl⟩
theorem tz64_16 (w : World) (hT : w.cell? ⟨0, 15, none⟩ = some (.int .u8 4)) : Calls Tryz.prog 148 #[.int .u64 16] w fun e w' => e = .returned (.int .i64 4) ∧ w' = w := by
 have e1 : IntKind.u64.wrap (-16) = 18446744073709551600 := by kernel_rfl
 have e2 : bits .and .u64 16 18446744073709551600 = 16 := by kernel_rfl
 have e3 : IntKind.u64.wrap (16 * 285870213051353865) = 4573923408821661840 := by kernel_rfl
 go_enter Tryz.func148, Tryz.ntmps148
 go_wp2_with fail
 go_ret
 exact ⟨rfl, rfl⟩
theorem tz_16 (w : World) (hT : w.cell? ⟨0, 15, none⟩ = some (.int .u8 4)) : Calls Tryz.prog 187 #[.int .u64 16] w fun e w' => e = .returned (.int .i64 4) ∧ w' = w := by
 have H := Lib.hid (tz64_16 w hT)
 clear hT
 go_enter Tryz.func187, Tryz.ntmps187
 go_wp2_with fail
 refine H.out.mono ?_
 rintro e w' ⟨rfl, rfl⟩
 go_wp2_with fail
 go_ret
 exact ⟨rfl, rfl⟩
def hexD (d : Nat) : UInt8 := if d < 10 then UInt8.ofNat (48 + d) else UInt8.ofNat (87 + d)
/-- the digits of a number below 16 ^ n -/
def hexN : Nat → Nat → List UInt8
 | 0, u => [hexD (u % 16)]
 | n + 1, u => if u < 16 then [hexD u] else hexN n (u / 16) ++ [hexD (u % 16)]
def hexS (u : Nat) : List UInt8 := hexN 16 u
theorem hexN_more : ∀ (n u : Nat), u < 16 ^ (n + 1) → hexN (n + 1) u = hexN n u
 | 0, u, h => by
  have : u < 16 := by simpa using h
  simp [hexN, this, Nat.mod_eq_of_lt this]
 | n + 1, u, h => by
  have h' : u / 16 < 16 ^ (n + 1) := by rw [Nat.div_lt_iff_lt_mul (by decide)]; rw [Nat.pow_succ] at h; exact h
  rw [hexN]
  split
  ·next h1 => rw [hexN, if_pos h1]
  ·next h1 =>
   rw [hexN_more n _ h', hexN.eq_2, if_neg h1]
theorem hexN_len : ∀ (n u : Nat), (hexN n u).length ≤ n + 1
 | 0, u => by simp [hexN]
 | n + 1, u => by
  unfold hexN
  split
  ·simp
  ·have := hexN_len n (u / 16)
   simp; omega
theorem hexS_step {u : Nat} (h : 16 ≤ u) (hu : u < 18446744073709551616) : hexS u = hexS (u / 16) ++ [hexD (u % 16)] := by
 unfold hexS
 have h' : u / 16 < 16 ^ (15 + 1) := by
  have : (16 : Nat) ^ (15 + 1) = 18446744073709551616 := by decide
  omega
 rw [hexN, if_neg (by omega), hexN_more 15 _ h']
theorem hexS_small {u : Nat} (h : u < 16) : hexS u = [hexD u] := by
 unfold hexS; rw [hexN, if_pos h]
abbrev digitsS : ByteArray := ⟨#[48, 49, 50, 51, 52, 53, 54, 55, 56, 57, 97, 98, 99, 100, 101, 102, 103, 104, 105, 106, 107, 108, 109, 110, 111, 112, 113, 114, 115, 116, 117, 118, 119, 120, 121, 122]⟩
theorem digit_run (r : Nat) (hr : r < 16) (W : World) : (Instr.index 9 (.string digitsS) (.int .u64 r)).run Tryz.prog W = .ok (.int .u8 ((hexD r).toNat : Int)) W := by
 obtain rfl | rfl | rfl | rfl | rfl | rfl | rfl | rfl | rfl | rfl | rfl | rfl | rfl | rfl | rfl | rfl : r = 0 ∨ r = 1 ∨ r = 2 ∨ r = 3 ∨ r = 4 ∨ r = 5 ∨ r = 6 ∨ r = 7 ∨ r = 8 ∨ r = 9 ∨ r = 10 ∨ r = 11 ∨ r = 12 ∨ r = 13 ∨ r = 14 ∨ r = 15 := by omega
 all_goals kernel_rfl
theorem and15 (q : Nat) : bits .and .u64 (q : Int) 15 = ((q % 16 : Nat) : Int) := by
 show IntKind.u64.wrap ((BitVec.ofInt 64 (q : Int) &&& BitVec.ofInt 64 15).toNat : Int) = _
 rw [BitVec.ofInt_natCast]
 have e : (BitVec.ofNat 64 q &&& BitVec.ofInt 64 15).toNat = q % 16 := by
  rw [BitVec.toNat_and]
  have : (BitVec.ofInt 64 15).toNat = 2 ^ 4 - 1 := by decide
  rw [this, Nat.and_two_pow_sub_one_eq_mod, BitVec.toNat_ofNat]
  omega
 rw [e]
 exact IntWalk.u64_in _ (by omega)
theorem zero275 : (Tryz.zeroCells182).size = 65 := by kernel_rfl
/-- the last cells of the array hold these bytes -/
def Tail (cu : Array Value) (L : List UInt8) : Prop := cu.size = 65 ∧ L.length ≤ 65 ∧ ∀ j (h : j < L.length), cu[65 - L.length + j]? = some (.int .u8 ((L[j]).toNat : Int))
theorem Tail.cons {cu : Array Value} {L : List UInt8} (h : Tail cu L) (hl : L.length < 65) (b : UInt8) {i : Nat} (hi : i + L.length + 1 = 65) : Tail (cu.setIfInBounds i (.int .u8 (b.toNat : Int))) (b :: L) := by
 obtain ⟨h1, h2, h3⟩ := h
 refine ⟨by simpa using h1, by simp; omega, fun j hj => ?_⟩
 simp only [List.length_cons] at hj ⊢
 rw [Array.getElem?_setIfInBounds]
 rcases j with _ | j
 ·rw [if_pos (by omega), if_pos (by omega)]; rfl
 ·rw [if_neg (by omega)]
  have := h3 j (by omega)
  rw [show 65 - (L.length + 1) + (j + 1) = 65 - L.length + j by omega, this]
  rfl
set_option maxHeartbeats 8000000 in
theorem formatBits_hex (u : Nat) (hu : u < 18446744073709551616) (w : World) (hT : w.cell? ⟨0, 15, none⟩ = some (.int .u8 4)) :
  Calls Tryz.prog 165 #[.slice none 0 0, .int .u64 u, .int .i64 16, .bool false, .bool false] w fun e w' => e = .returned (.tuple #[.slice none 0 0, .string ⟨(hexS u).toArray⟩]) ∧ Below w.heap.size w w' := by
 have hlen := hexN_len 16 u
 have HLEN : Hid ((hexS u).length ≤ 17) := Lib.hid hlen
 have HU := Lib.hid hu
 have l5 := block_lt_of_cell hT
 have HT : Hid (∀ W, Below w.heap.size w W → Calls Tryz.prog 187 #[.int .u64 16] W fun e w' => e = .returned (.int .i64 4) ∧ w' = W) := Lib.hid fun W hb => tz_16 W ((hb.cell (p := ⟨0, 15, none⟩) l5).trans hT)
 generalize hs : hexS u = S at *
 have HS := Lib.hid hs
 clear hlen hT hs hu l5
 go_enter Tryz.func165, Tryz.ntmps165
 go_wp2_with fail
 obtain ⟨w0, hw0⟩ : ∃ w0 : World, w0 = w.alloc (.cells Tryz.zeroCells182 182) := ⟨_, rfl⟩
 have hB0 : Below w.heap.size w w0 := by subst hw0; exact bel_alloc (bel_refl _) _
 have hk0 : Blk w0 w.heap.size Tryz.zeroCells182 182 := by subst hw0; exact Blk.new _ _ _
 rw [← hw0]
 clear hw0
 have HK := Lib.hid (And.intro hB0 hk0); clear hB0 hk0
 refine (pow2_16 w0).mono ?_
 rintro e w' ⟨rfl, rfl⟩
 go_wp2_with fail
 refine (HT.out w' HK.out.1).mono ?_
 rintro e w1 ⟨rfl, rfl⟩
 go_wp2_with fail
 go_loopw [1, 13] (fun x y wr => ∃ (q i : Nat) (L : List UInt8) (cu : Array Value), x = .int .u64 q ∧ y = .int .i64 i ∧ Hid (S = hexS q ++ L) ∧ i + L.length = 65 ∧ q < 18446744073709551616 ∧ Hid (Tail cu L) ∧ Blk wr w.heap.size cu 182 ∧ Below w.heap.size w wr) (fun x _ _ => (intOf x).toNat)
 case atStart => exact ⟨u, 65, [], _, rfl, rfl, Lib.hid (by simp [HS.out]), rfl, HU.out, Lib.hid ⟨zero275, by simp, fun j hj => by simp at hj⟩, HK.out.2, HK.out.1⟩
 case round =>
  obtain ⟨q, i, L, cu, rfl, rfl, hSL, hi, hq, hTl, hB, hbel⟩ := hrel
  have hL17 : L.length ≤ 16 := by
   have h1 := HLEN.out
   rw [hSL.out, List.length_append] at h1
   have h2 : 0 < (hexS q).length := by
    by_cases h16 : q < 16
    ·rw [hexS_small h16]; simp
    ·rw [hexS_step (by omega) hq]; simp
   omega
  obtain ⟨i', rfl⟩ : ∃ i', i = i' + 1 := ⟨i - 1, by omega⟩
  have hcell : wr.cell? ⟨w.heap.size, i', none⟩ = some (cu[i']'(by have := hTl.out.1; omega)) := by
   rw [hB.cell]; simp
  have hfree := hB.free i'
  have hlt := hB.lt
  generalize cu[i']'_ = cv at hcell
  have hi65 : i' < 65 := by omega
  by_cases h16 : 16 ≤ q
  ·have hand := and15 q
   have hix := digit_run (q % 16) (by omega)
   have HST := Lib.hid (hexS_step h16 hq)
   have HH := Lib.hid (And.intro hB (And.intro hbel hi))
   have hq16 : (q : Int) / 16 = ((q / 16 : Nat) : Int) := by omega
   have HQ := Lib.hid hq16; clear hq16
   generalize hr : q % 16 = r at *
   clear hr hB hbel hi
   go_wp2_with fail
   go_roundw
   case rel => exact ⟨q / 16, i', hexD r :: L, cu.setIfInBounds i' (.int .u8 ((hexD r).toNat : Int)), by rw [HQ.out], rfl, Lib.hid (by rw [hSL.out, HST.out]; simp), by have := HH.out.2.2; simp; omega, by omega, Lib.hid (hTl.out.cons (by omega) _ (by have := HH.out.2.2; omega)), HH.out.1.set i' _, HH.out.2.1.setCell (by simp) _⟩
   case measure => simp [intOf]; omega
  ·have hq16 : q < 16 := by omega
   have hix := digit_run q hq16
   have HFS : Hid (S = hexD q :: L) := Lib.hid (by rw [hSL.out, hexS_small hq16]; rfl)
   have HH := Lib.hid (And.intro hB (And.intro hbel hi))
   clear hB hbel hi
   go_upto_region 30 with (fail)
   obtain ⟨w2, hw2⟩ : ∃ w2 : World, w2 = wr.setCell ⟨w.heap.size, i', none⟩ (.int .u8 ((hexD q).toNat : Int)) := ⟨_, rfl⟩
   have hB2 : Below w.heap.size w w2 := by subst hw2; exact HH.out.2.1.setCell (by simp) _
   have hk2 : Blk w2 w.heap.size (cu.setIfInBounds i' (.int .u8 ((hexD q).toNat : Int))) 182 := by subst hw2; exact HH.out.1.set i' _
   rw [← hw2]
   have hT2 := hTl.out.cons (by omega) (hexD q) (show i' + L.length + 1 = 65 by have := HH.out.2.2; omega)
   have hcv := run_convert_bytes_back (P := Tryz.prog) w2 137 9 5 ⟨w.heap.size, i', none⟩ (65 - i') (hexD q :: L) Tryz.underlying137 Tryz.underlying5 Tryz.underlying9 (fun j hj => by
    rw [Addr.add_lit, hk2.cell]
    have h3 := hT2.2.2 j hj
    rw [← h3]
    congr 1
    have := HH.out.2.2
    simp only [List.length_cons]
    omega)
   have hle : (hexD q :: L).length = 65 - i' := by have := HH.out.2.2; simp; omega
   rw [hle] at hcv
   have hal : Tryz.prog.arrayLen 182 = 65 := by kernel_rfl
   have hse : ∀ W, (sizeOf (Tryz.prog.elem 182)).run Tryz.prog W = .ok 1 W := fun W => by kernel_rfl
   have hsa : (Instr.sliceAt 182 (.pointer (some ⟨w.heap.size, 0, none⟩)) (some (.int .i64 i')) none none).run Tryz.prog w2 = .ok (.slice (some ⟨w.heap.size, i', none⟩) (65 - i') (65 - i')) w2 := by
    rw [run_sliceAt_array_l w2 182 ⟨w.heap.size, 0, none⟩ (by kernel_rfl) .i64 i' (by omega) (by rw [hal]; omega), hse, hal]
    simp only [Result.andThen_ok, slicedAt]
    rw [if_neg (by have := HH.out.2.2; simp; omega), Addr.add_lit]
    simp
   clear hal hse
   have HB2 := Lib.hid hB2
   clear hw2 hT2 hk2 hB2 hcell hfree hlt hle hL17
   go_wp2_with fail
   refine bodyPost_ret (v := .tuple #[.slice none 0 0, .string ⟨(hexD q :: L).toArray⟩]) (by simp [results, Tryz.results165, go_sem]) rfl ⟨by rw [HFS.out], HB2.out⟩
theorem FormatUintI (u : Nat) (hu : u < 18446744073709551616) (w : World) (hT : w.cell? ⟨0, 15, none⟩ = some (.int .u8 4)) :
  Calls Tryz.prog 149 #[.int .u64 u, .int .i64 16] w fun e w' => e = .returned (.string ⟨(hexS u).toArray⟩) ∧ Below w.heap.size w w' := by
 have H := Lib.hid (formatBits_hex u hu w hT)
 clear hT hu
 go_enter Tryz.func149, Tryz.ntmps149
 go_wp2_with fail
 refine H.out.mono ?_
 rintro e w1 ⟨rfl, hb⟩
 go_wp2_with fail
 go_ret
 exact ⟨rfl, hb⟩
set_option maxHeartbeats 2000000 in
theorem FormatUint16 (u : Nat) (hu : u < 18446744073709551616) (w : World) (hT : w.cell? ⟨0, 15, none⟩ = some (.int .u8 4)) :
  Calls Tryz.prog 114 #[.int .u64 u, .int .i64 16] w fun e w' => e = .returned (.string ⟨(hexS u).toArray⟩) ∧ Below w.heap.size w w' := by
 have H := Lib.hid (FormatUintI u hu w hT)
 clear hT hu
 go_enter Tryz.func114, Tryz.ntmps114
 go_wp2_with fail
 refine H.out.mono ?_
 rintro e w1 ⟨rfl, hb⟩
 go_wp2_with fail
 go_ret
 exact ⟨rfl, hb⟩
/-- the planes, as numbers -/
def plN (s : Sol) (k : Nat) : Nat := (plv s k).toNat
theorem plN_lt (s : Sol) (k : Nat) : plN s k < 18446744073709551616 := by unfold plN; have := (plv s k).isLt; omega
theorem pl_plN (s : Sol) (k : Nat) : pl s k = ((plN s k : Nat) : Int) := by unfold pl plN; rfl
def hexV (s : Sol) (k : Nat) : Value := .string ⟨(hexS (plN s k)).toArray⟩
theorem infoStr : (Tryz.prog.info? 9).map (fun i => (i.zero, i.size, i.bytes)) = some (some (.string ⟨#[]⟩), 1, 16) := by kernel_rfl
theorem range_snoc {α : Type} (f : Nat → α) (k : Nat) : (List.range (k + 1)).map f = (List.range k).map f ++ [f k] := by rw [List.range_succ, List.map_append]; rfl
set_option maxHeartbeats 2000000 in
theorem Join_one (g cap : Nat) (b sep : ByteArray) (w : World) (hc : w.cell? ⟨g, 0, none⟩ = some (.string b)) :
  Calls Tryz.prog 115 #[.slice (some ⟨g, 0, none⟩) 1 cap, .string sep] w fun e w' => e = .returned (.string b) ∧ Below w.heap.size w w' := by
 go_enter Tryz.func115, Tryz.ntmps115
 go_wp2_with fail
 go_ret
 exact ⟨rfl, Below.refl _ _⟩
set_option maxHeartbeats 8000000 in
theorem solidWrite_one (s : Sol) (hs : ∀ k, 1 ≤ k → k < 8 → plN s k = 0) (w : World) (hT : w.cell? ⟨0, 15, none⟩ = some (.int .u8 4)) :
  Calls Tryz.prog 47 #[.agg #[.int .u64 (pl s 0), .int .u64 (pl s 1), .int .u64 (pl s 2), .int .u64 (pl s 3), .int .u64 (pl s 4), .int .u64 (pl s 5), .int .u64 (pl s 6), .int .u64 (pl s 7)]] w fun e w' => e = .returned (hexV s 0) ∧ Below w.heap.size w w' := by
 have l5 := block_lt_of_cell hT
 have HF : Hid (∀ k W, Below w.heap.size w W → Calls Tryz.prog 114 #[.int .u64 (pl s k), .int .i64 16] W fun e w' => e = .returned (hexV s k) ∧ Below W.heap.size W w') := Lib.hid fun k W hb => by
  rw [pl_plN]; exact FormatUint16 _ (plN_lt s k) W ((hb.cell (p := ⟨0, 15, none⟩) l5).trans hT)
 have HIX : Hid (∀ k : Nat, k < 8 → ∀ W, (Instr.index 26 (.agg #[.int .u64 (pl s 0), .int .u64 (pl s 1), .int .u64 (pl s 2), .int .u64 (pl s 3), .int .u64 (pl s 4), .int .u64 (pl s 5), .int .u64 (pl s 6), .int .u64 (pl s 7)]) (.int .i64 (k : Int))).run Tryz.prog W = .ok (.int .u64 (pl s k)) W) := Lib.hid (fun k hk W => (idxS s hk W).trans (by rw [pl_uI s k]))
 obtain ⟨i9, hi, hz0, hz1, hz2⟩ := info_parts infoStr
 have HI9 := Lib.hid (And.intro hi (And.intro hz0 (And.intro hz1 hz2))); clear hi hz0 hz1 hz2
 have HZ : Hid (∀ k, 1 ≤ k → k < 8 → hexV s k = .string ⟨#[48]⟩) := Lib.hid fun k h1 h2 => by unfold hexV; rw [hs k h1 h2]; rfl
 have hv : ∀ k, ∃ b, hexV s k = .string b := fun k => ⟨_, rfl⟩
 have HVV := Lib.hid hv
 clear hT l5 hs hv
 obtain ⟨hx, hhx⟩ : ∃ hx, hx = hexV s := ⟨_, rfl⟩
 rw [← hhx] at HF HZ HVV ⊢
 clear hhx
 go_enter Tryz.func47, Tryz.ntmps47
 go_wp2_with fail
 go_loopw [3, 7] (fun u y wr => ∃ k : Nat, k ≤ 8 ∧ y = .int .i64 k ∧ Hid (wr.ownsRow w.heap.size 9 1 u k ((List.range k).map hx)) ∧ Below w.heap.size w wr) (fun _ y _ => 8 - (intOf y).toNat)
 case atStart => exact ⟨0, by omega, rfl, Lib.hid (World.ownsRow_nil _ _ _ _), (by repeat (first | with_reducible exact bel_refl _ | with_reducible assumption | with_reducible refine bel_drewN ?_ _ | with_reducible refine bel_drew ?_ | with_reducible refine bel_alloc ?_ _ | with_reducible refine bel_row ?_ ?_ _ | with_reducible refine bel_set ?_ ?_ _ | refine bel_trans ?_ (by with_reducible assumption) | (simp; done) | (simp; omega)))⟩
 case round =>
  obtain ⟨k, hk, rfl, hO, hbel⟩ := hrel
  by_cases hlt : k < 8
  ·have hix := HIX.out k hlt
   go_wp2_with fail
   refine (HF.out k wr hbel).mono ?_
   rintro e w1 ⟨rfl, hb1⟩
   have hbel1 : Below w.heap.size w w1 := bel_trans hbel hb1
   have HO1 := Lib.hid (own_gb hO.out hb1)
   have hsz := hbel1.size
   clear hb1 hbel
   obtain ⟨bs, hbs⟩ := HVV.out k
   have HBS := Lib.hid hbs
   rw [hbs]
   clear hbs
   go_wp2_with (first
    | (at_builtin; refine wpList_append_own _ rfl _ _ 102 rfl w.heap.size 9 i9 (.string ⟨#[]⟩) 1 16 Tryz.underlying102 HI9.out.1 HI9.out.2.1 HI9.out.2.2.1 HI9.out.2.2.2 rfl (by decide) _ _ _ rfl (HO1.out.alloc _) ⟨w1.heap.size, 0, none⟩ 1 1 [.string bs] rfl rfl (cell_one_new _ _ _) (fun x hx => by simp at hx; subst hx; rfl) (by unfold maxLen; omega) (by omega) (by simp; omega) ?_; intro v' w3 hown' hgrow3 hnil3))
   have hB3 : Below w.heap.size w w3 := (bel_alloc hbel1 _).grown hgrow3 (by simp; omega) (fun j hj => by have := (HO1.out.lt j hj).1; omega)
   have HO3 := Lib.hid (And.intro hown' hB3); clear hown' hgrow3 hnil3 hB3
   go_wp2_with fail
   go_roundw
   case rel => exact ⟨k + 1, by omega, by go_num, Lib.hid (by rw [range_snoc, HBS.out]; exact HO3.out.1), HO3.out.2⟩
   case measure => simp [intOf]; omega
  ·have hk8 : k = 8 := by omega
   subst hk8
   have ho := hO.out
   refine Veil.out ?_
   obtain ⟨g, cap, cur, rfl, hcap, hcm, hcell⟩ : ∃ g cap cur, u3 = .slice (some ⟨g, 0, none⟩) 8 cap ∧ 8 ≤ cap ∧ cap ≤ 9223372036854775807 ∧ (Blk wr g cur 9 ∧ ∀ j, j < 8 → wr.cell? ⟨g, j, none⟩ = some (hx j)) := by
    rcases ho.2 with ⟨_, h0⟩ | ⟨g, cap, cur, e, hb, hg, hnc, hcm, hcs, ht⟩
    ·omega
    ·refine ⟨g, cap, cur, e, hnc, by unfold maxLen at hcm; omega, hg, fun j hj => ?_⟩
     rw [Blk.cell hg]
     have h1 : ((List.range 8).map hx)[j]? = some (hx j) := by simp [hj]
     rw [← ht, List.getElem?_take, if_pos (by omega)] at h1
     simpa using h1
   refine Veil.on ?_
   have lg := hcell.1.lt
   have HC := Lib.hid hcell.2
   have HB := Lib.hid hbel
   clear ho hO hcell hbel hlt hk
   go_wp2_with fail
   obtain ⟨w2, rfl⟩ : ∃ w2 : World, w2 = wr := ⟨_, rfl⟩
   go_loopw [3] (fun u wr => ∃ m : Nat, 1 ≤ m ∧ m ≤ 8 ∧ u = .slice (some ⟨g, 0, none⟩) m cap ∧ Below w.heap.size w wr ∧ g < wr.heap.size ∧ Hid (∀ j, j < 8 → wr.cell? ⟨g, j, none⟩ = some (hx j))) (fun u _ => sliceLen u)
   case atStart => exact ⟨8, by omega, by omega, rfl, HB.out, lg, HC⟩
   case round =>
    obtain ⟨m, h1, h8, rfl, hbel, lg, hC⟩ := hrel
    by_cases hm : m = 1
    ·subst hm
     obtain ⟨b0, hb0⟩ := HVV.out 0
     have c0 := hC.out 0 (by omega)
     rw [hb0] at c0
     have HJ := Lib.hid (Join_one g cap b0 ⟨#[46]⟩ wr c0)
     have HBB := Lib.hid (And.intro hb0 hbel)
     clear hb0 c0 hbel
     go_wp2_with fail
     refine HJ.out.mono ?_
     rintro e w3 ⟨rfl, hb3⟩
     go_wp2_with fail
     go_ret
     exact ⟨congrArg Ending.returned HBB.out.1.symm, bel_trans HBB.out.2 hb3⟩
    ·obtain ⟨m', rfl⟩ : ∃ m', m = m' + 1 + 1 := ⟨m - 2, by omega⟩
     have c0 := hC.out (m' + 1) (by omega)
     rw [HZ.out (m' + 1) (by omega) (by omega)] at c0
     have HBB := Lib.hid hbel
     clear hbel hm
     go_wp2_with fail
     go_roundw
     case rel => ((repeat apply Exists.intro); exact ⟨⟨m' + 1, by omega, by omega, rfl, HBB.out, lg, hC⟩, rfl⟩)
     case measure => simp [sliceLen]
end Go.Proofs.YtkfimbonmnoglaaGreatDoor
end
section
namespace Go.Proofs.YtkfimbonmnoglaaGreatDoor
open Go.RowKit Go.Rel Go.Draw Go.Solid
set_option maxRecDepth 100000
abbrev ringT : ByteArray := ⟨#[55, 48, 53, 48, 55]⟩
set_option maxHeartbeats 8000000 in
theorem parse_ringI (w : World) : Calls Tryz.prog 171 #[.string ringT, .int .i64 16, .int .i64 64] w fun e w' => e = .returned (.tuple #[.int .u64 460039, .nilIface]) ∧ Below w.heap.size w w' := by
 have c1 : IntKind.u64.wrap 64 = 64 := by kernel_rfl
 have c2 : IntKind.u8.wrap 16 = 16 := by kernel_rfl
 have c3 : IntKind.u64.wrap 16 = 16 := by kernel_rfl
 have hcv := Lib.run_convert_string_bytes (P := Tryz.prog) w 9 137 5 ringT (u := .string) Tryz.underlying9 Tryz.underlying137 Tryz.underlying5
 have hB : ∀ j, j < 5 → (Lib.bytesWorld w 5 ringT).cell? ⟨w.heap.size, j, none⟩ = some (.int .u8 (ringT.data.toList.getD j 0).toNat) := fun j hj => Lib.bytesWorld_cell w 5 ringT j hj
 have hBl : Below w.heap.size w (Lib.bytesWorld w 5 ringT) := ⟨rfl, rfl, rfl, by rw [Lib.bytesWorld_size]; omega, fun k hk => Lib.bytesWorld_at_old _ _ _ _ hk⟩
 have k0 := hB 0 (by omega); have k1 := hB 1 (by omega); have k2 := hB 2 (by omega); have k3 := hB 3 (by omega); have k4 := hB 4 (by omega)
 obtain ⟨W1, hW1⟩ : ∃ W1, W1 = Lib.bytesWorld w 5 ringT := ⟨_, rfl⟩
 rw [← hW1] at hcv hBl k0 k1 k2 k3 k4
 have HK : Hid (W1.cell? ⟨w.heap.size, 0, none⟩ = some (.int .u8 55) ∧ W1.cell? ⟨w.heap.size, 1, none⟩ = some (.int .u8 48) ∧ W1.cell? ⟨w.heap.size, 2, none⟩ = some (.int .u8 53) ∧ W1.cell? ⟨w.heap.size, 3, none⟩ = some (.int .u8 48) ∧ W1.cell? ⟨w.heap.size, 4, none⟩ = some (.int .u8 55) ∧ Below w.heap.size w W1) := Lib.hid ⟨k0, k1, k2, k3, k4, hBl⟩
 clear hB k0 k1 k2 k3 k4 hBl hW1
 go_enter Tryz.func171, Tryz.ntmps171
 go_wp2_with fail
 go_loopw [12, 13, 101] (fun uv nv iv wx => uv = .bool false ∧ ((iv = .int .i64 0 ∧ nv = .int .u64 0) ∨ (iv = .int .i64 1 ∧ nv = .int .u64 7) ∨ (iv = .int .i64 2 ∧ nv = .int .u64 112) ∨ (iv = .int .i64 3 ∧ nv = .int .u64 1797) ∨ (iv = .int .i64 4 ∧ nv = .int .u64 28752) ∨ (iv = .int .i64 5 ∧ nv = .int .u64 460039)) ∧ wx = W1) (fun _ _ iv _ => 5 - (intOf iv).toNat)
 case atStart => exact ⟨rfl, .inl ⟨rfl, rfl⟩, rfl⟩
 case round =>
  obtain ⟨rfl, hc, hWr⟩ := hrel
  subst hWr
  obtain ⟨k0, k1, k2, k3, k4, hBl⟩ := HK.out
  have HBl := Lib.hid hBl
  clear hBl
  rcases hc with ⟨rfl, rfl⟩ | ⟨rfl, rfl⟩ | ⟨rfl, rfl⟩ | ⟨rfl, rfl⟩ | ⟨rfl, rfl⟩ | ⟨rfl, rfl⟩
  ·have w1 : IntKind.u8.wrap (55 - 48) = 7 := by kernel_rfl
   have w2 : IntKind.u64.wrap (0 * 16) = 0 := by kernel_rfl
   have w3 : IntKind.u64.wrap (0 + 7) = 7 := by kernel_rfl
   go_wp2_with fail
   go_roundw
   case rel => exact ⟨rfl, .inr (.inl ⟨rfl, rfl⟩), trivial⟩
   case measure => decide
  ·have w1 : IntKind.u8.wrap (48 - 48) = 0 := by kernel_rfl
   have w2 : IntKind.u64.wrap (7 * 16) = 112 := by kernel_rfl
   have w3 : IntKind.u64.wrap (112 + 0) = 112 := by kernel_rfl
   go_wp2_with fail
   go_roundw
   case rel => exact ⟨rfl, .inr (.inr (.inl ⟨rfl, rfl⟩)), trivial⟩
   case measure => decide
  ·have w1 : IntKind.u8.wrap (53 - 48) = 5 := by kernel_rfl
   have w2 : IntKind.u64.wrap (112 * 16) = 1792 := by kernel_rfl
   have w3 : IntKind.u64.wrap (1792 + 5) = 1797 := by kernel_rfl
   go_wp2_with fail
   go_roundw
   case rel => exact ⟨rfl, .inr (.inr (.inr (.inl ⟨rfl, rfl⟩))), trivial⟩
   case measure => decide
  ·have w1 : IntKind.u8.wrap (48 - 48) = 0 := by kernel_rfl
   have w2 : IntKind.u64.wrap (1797 * 16) = 28752 := by kernel_rfl
   have w3 : IntKind.u64.wrap (28752 + 0) = 28752 := by kernel_rfl
   go_wp2_with fail
   go_roundw
   case rel => exact ⟨rfl, .inr (.inr (.inr (.inr (.inl ⟨rfl, rfl⟩)))), trivial⟩
   case measure => decide
  ·have w1 : IntKind.u8.wrap (55 - 48) = 7 := by kernel_rfl
   have w2 : IntKind.u64.wrap (28752 * 16) = 460032 := by kernel_rfl
   have w3 : IntKind.u64.wrap (460032 + 7) = 460039 := by kernel_rfl
   go_wp2_with fail
   go_roundw
   case rel => exact ⟨rfl, .inr (.inr (.inr (.inr (.inr (⟨rfl, rfl⟩))))), trivial⟩
   case measure => decide
  ·go_wp2_with fail
   exact bodyPost_ret (v := .tuple #[.int .u64 460039, .nilIface]) (by simp [results, Tryz.results171, go_sem]) rfl ⟨rfl, HBl.out⟩
set_option maxHeartbeats 4000000 in
theorem parse_ring (w : World) : Calls Tryz.prog 154 #[.string ringT, .int .i64 16, .int .i64 64] w fun e w' => e = .returned (.tuple #[.int .u64 460039, .nilIface]) ∧ Below w.heap.size w w' := by
 have H := Lib.hid (parse_ringI w)
 go_enter Tryz.func154, Tryz.ntmps154
 go_wp2_with fail
 refine H.out.mono ?_
 rintro e w1 ⟨rfl, hb⟩
 go_wp2_with fail
 exact bodyPost_ret (v := .tuple #[.int .u64 460039, .nilIface]) (by simp [results, Tryz.results154, go_sem]) rfl ⟨rfl, hb⟩
end Go.Proofs.YtkfimbonmnoglaaGreatDoor
end
section
namespace Go.Proofs.YtkfimbonmnoglaaGreatDoor
open Go.RowKit Go.Rel Go.Draw Go.Solid
set_option maxRecDepth 100000
theorem ring_hex : (⟨(hexS 460039).toArray⟩ : ByteArray) = ringT := by decide +kernel
theorem tab_15 {w : World} (h : Tab w) : w.cell? ⟨0, 15, none⟩ = some (.int .u8 4) := h 15 (by omega)
set_option maxHeartbeats 4000000 in
theorem plane_ring (w : World) (hT : Tab w) : Calls Tryz.prog 118 #[.string ringT] w fun e w' => e = .returned (.int .u64 460039) ∧ Below w.heap.size w w' := by
 have H := Lib.hid (parse_ring w)
 have HF : Hid (∀ W, Below w.heap.size w W → Calls Tryz.prog 114 #[.int .u64 460039, .int .i64 16] W fun e w' => e = .returned (.string ringT) ∧ Below W.heap.size W w') := Lib.hid fun W hb => by
  have := FormatUint16 460039 (by decide) W (tab_15 (hT.grow hb))
  rw [ring_hex] at this
  exact this
 clear hT
 go_enter Tryz.func118, Tryz.ntmps118
 go_wp2_with fail
 refine H.out.mono ?_
 rintro e w1 ⟨rfl, hb1⟩
 have HB := Lib.hid hb1
 clear hb1
 go_wp2_with fail
 refine (HF.out _ HB.out).mono ?_
 rintro e w2 ⟨rfl, hb2⟩
 have HB2 := Lib.hid (bel_trans HB.out hb2)
 clear hb2
 go_wp2_with fail
 go_ret
 exact ⟨rfl, HB2.out⟩
end Go.Proofs.YtkfimbonmnoglaaGreatDoor
end
