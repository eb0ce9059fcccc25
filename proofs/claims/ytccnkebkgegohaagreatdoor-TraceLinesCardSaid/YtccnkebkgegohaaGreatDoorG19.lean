import Derived.Test.YtccnkebkgegohaaGreatDoorG18
import Derived.Deep.Cut
/-
  Given contracts of functions of the program, and laws for them, one behind the other.
-/
set_option linter.unusedVariables false
set_option linter.unusedSimpArgs false
set_option linter.unusedSectionVars false
section
namespace Go.Proofs.YtccnkebkgegohaaGreatDoor
open Go.RowKit Go.Rel
set_option maxRecDepth 100000
abbrev digitsS : ByteArray := ⟨#[48, 49, 50, 51, 52, 53, 54, 55, 56, 57, 97, 98, 99, 100, 101, 102, 103, 104, 105, 106, 107, 108, 109, 110, 111, 112, 113, 114, 115, 116, 117, 118, 119, 120, 121, 122]⟩
theorem digit_run (r : Nat) (hr : r < 16) (W : World) : (Instr.index 9 (.string digitsS) (.int .u64 r)).run Tryz.prog W = .ok (.int .u8 ((hexD r).toNat : Int)) W := by
 obtain rfl | rfl | rfl | rfl | rfl | rfl | rfl | rfl | rfl | rfl | rfl | rfl | rfl | rfl | rfl | rfl : r = 0 ∨ r = 1 ∨ r = 2 ∨ r = 3 ∨ r = 4 ∨ r = 5 ∨ r = 6 ∨ r = 7 ∨ r = 8 ∨ r = 9 ∨ r = 10 ∨ r = 11 ∨ r = 12 ∨ r = 13 ∨ r = 14 ∨ r = 15 := by omega
 all_goals kernel_rfl
theorem and15 (q : Nat) : bits .and .u64 (q : Int) 15 = ((q % 16 : Nat) : Int) := by
 show IntKind.u64.wrap ((BitVec.ofInt 64 (q : Int) &&& BitVec.ofInt 64 15).toNat : Int) = _
 rw [BitVec.ofInt_natCast]
 have e : (BitVec.ofNat 64 q &&& BitVec.ofInt 64 15).toNat = q % 16 := by
  rw [BitVec.toNat_and]
  have : (BitVec.ofInt 64 15).toNat = 2 ^ 4 - 1 := by decide
  rw [this, Nat.and_two_pow_sub_one_eq_mod, BitVec.toNat_ofNat]
  omega
 rw [e]
 exact IntWalk.u64_in _ (by omega)
theorem zero275 : (Tryz.zeroCells275).size = 65 := by kernel_rfl
/-- the last cells of the array hold these bytes -/
def Tail (cu : Array Value) (L : List UInt8) : Prop := cu.size = 65 ∧ L.length ≤ 65 ∧ ∀ j (h : j < L.length), cu[65 - L.length + j]? = some (.int .u8 ((L[j]).toNat : Int))
theorem Tail.cons {cu : Array Value} {L : List UInt8} (h : Tail cu L) (hl : L.length < 65) (b : UInt8) {i : Nat} (hi : i + L.length + 1 = 65) : Tail (cu.setIfInBounds i (.int .u8 (b.toNat : Int))) (b :: L) := by
 obtain ⟨h1, h2, h3⟩ := h
 refine ⟨by simpa using h1, by simp; omega, fun j hj => ?_⟩
 simp only [List.length_cons] at hj ⊢
 rw [Array.getElem?_setIfInBounds]
 rcases j with _ | j
 ·rw [if_pos (by omega), if_pos (by omega)]; rfl
 ·rw [if_neg (by omega)]
  have := h3 j (by omega)
  rw [show 65 - (L.length + 1) + (j + 1) = 65 - L.length + j by omega, this]
  rfl
set_option maxHeartbeats 8000000 in
theorem formatBits_hex (u : Nat) (hu : u < 18446744073709551616) (w : World) (hT : w.cell? ⟨5, 15, none⟩ = some (.int .u8 4)) :
  Calls Tryz.prog 227 #[.slice none 0 0, .int .u64 u, .int .i64 16, .bool false, .bool false] w fun e w' => e = .returned (.tuple #[.slice none 0 0, .string ⟨(hexS u).toArray⟩]) ∧ Below w.heap.size w w' := by
 have hlen := hexN_len 16 u
 have HLEN : Hid ((hexS u).length ≤ 17) := Lib.hid hlen
 have HU := Lib.hid hu
 have l5 := block_lt_of_cell hT
 have HT : Hid (∀ W, Below w.heap.size w W → Calls Tryz.prog 244 #[.int .u64 16] W fun e w' => e = .returned (.int .i64 4) ∧ w' = W) := Lib.hid fun W hb => tz_16 W ((hb.cell (p := ⟨5, 15, none⟩) l5).trans hT)
 generalize hs : hexS u = S at *
 have HS := Lib.hid hs
 clear hlen hT hs hu l5
 go_enter Tryz.func227, Tryz.ntmps227
 go_wp2_with fail
 obtain ⟨w0, hw0⟩ : ∃ w0 : World, w0 = w.alloc (.cells Tryz.zeroCells275 275) := ⟨_, rfl⟩
 have hB0 : Below w.heap.size w w0 := by subst hw0; exact bel_alloc (bel_refl _) _
 have hk0 : Blk w0 w.heap.size Tryz.zeroCells275 275 := by subst hw0; exact Blk.new _ _ _
 rw [← hw0]
 clear hw0
 have HK := Lib.hid (And.intro hB0 hk0); clear hB0 hk0
 refine (pow2_16 w0).mono ?_
 rintro e w' ⟨rfl, rfl⟩
 go_wp2_with fail
 refine (HT.out w' HK.out.1).mono ?_
 rintro e w1 ⟨rfl, rfl⟩
 go_wp2_with fail
 go_loopw [1, 13] (fun x y wr => ∃ (q i : Nat) (L : List UInt8) (cu : Array Value), x = .int .u64 q ∧ y = .int .i64 i ∧ Hid (S = hexS q ++ L) ∧ i + L.length = 65 ∧ q < 18446744073709551616 ∧ Hid (Tail cu L) ∧ Blk wr w.heap.size cu 275 ∧ Below w.heap.size w wr) (fun x _ _ => (intOf x).toNat)
 case atStart => exact ⟨u, 65, [], _, rfl, rfl, Lib.hid (by simp [HS.out]), rfl, HU.out, Lib.hid ⟨zero275, by simp, fun j hj => by simp at hj⟩, HK.out.2, HK.out.1⟩
 case round =>
  obtain ⟨q, i, L, cu, rfl, rfl, hSL, hi, hq, hTl, hB, hbel⟩ := hrel
  have hL17 : L.length ≤ 16 := by
   have h1 := HLEN.out
   rw [hSL.out, List.length_append] at h1
   have h2 : 0 < (hexS q).length := by
    by_cases h16 : q < 16
    ·rw [hexS_small h16]; simp
    ·rw [hexS_step (by omega) hq]; simp
   omega
  obtain ⟨i', rfl⟩ : ∃ i', i = i' + 1 := ⟨i - 1, by omega⟩
  have hcell : wr.cell? ⟨w.heap.size, i', none⟩ = some (cu[i']'(by have := hTl.out.1; omega)) := by
   rw [hB.cell]; simp
  have hfree := hB.free i'
  have hlt := hB.lt
  generalize cu[i']'_ = cv at hcell
  have hi65 : i' < 65 := by omega
  by_cases h16 : 16 ≤ q
  ·have hand := and15 q
   have hix := digit_run (q % 16) (by omega)
   have HST := Lib.hid (hexS_step h16 hq)
   have HH := Lib.hid (And.intro hB (And.intro hbel hi))
   have hq16 : (q : Int) / 16 = ((q / 16 : Nat) : Int) := by omega
   have HQ := Lib.hid hq16; clear hq16
   generalize hr : q % 16 = r at *
   clear hr hB hbel hi
   go_wp2_with fail
   go_roundw
   case rel => exact ⟨q / 16, i', hexD r :: L, cu.setIfInBounds i' (.int .u8 ((hexD r).toNat : Int)), by rw [HQ.out], rfl, Lib.hid (by rw [hSL.out, HST.out]; simp), by have := HH.out.2.2; simp; omega, by omega, Lib.hid (hTl.out.cons (by omega) _ (by have := HH.out.2.2; omega)), HH.out.1.set i' _, HH.out.2.1.setCell (by simp) _⟩
   case measure => simp [intOf]; omega
  ·have hq16 : q < 16 := by omega
   have hix := digit_run q hq16
   have HFS : Hid (S = hexD q :: L) := Lib.hid (by rw [hSL.out, hexS_small hq16]; rfl)
   have HH := Lib.hid (And.intro hB (And.intro hbel hi))
   clear hB hbel hi
   go_upto_region 30 with (fail)
   obtain ⟨w2, hw2⟩ : ∃ w2 : World, w2 = wr.setCell ⟨w.heap.size, i', none⟩ (.int .u8 ((hexD q).toNat : Int)) := ⟨_, rfl⟩
   have hB2 : Below w.heap.size w w2 := by subst hw2; exact HH.out.2.1.setCell (by simp) _
   have hk2 : Blk w2 w.heap.size (cu.setIfInBounds i' (.int .u8 ((hexD q).toNat : Int))) 275 := by subst hw2; exact HH.out.1.set i' _
   rw [← hw2]
   have hT2 := hTl.out.cons (by omega) (hexD q) (show i' + L.length + 1 = 65 by have := HH.out.2.2; omega)
   have hcv := run_convert_bytes_back (P := Tryz.prog) w2 72 9 5 ⟨w.heap.size, i', none⟩ (65 - i') (hexD q :: L) Tryz.underlying72 Tryz.underlying5 Tryz.underlying9 (fun j hj => by
    rw [Addr.add_lit, hk2.cell]
    have h3 := hT2.2.2 j hj
    rw [← h3]
    congr 1
    have := HH.out.2.2
    simp only [List.length_cons]
    omega)
   have hle : (hexD q :: L).length = 65 - i' := by have := HH.out.2.2; simp; omega
   rw [hle] at hcv
   have hal : Tryz.prog.arrayLen 275 = 65 := by kernel_rfl
   have hse : ∀ W, (sizeOf (Tryz.prog.elem 275)).run Tryz.prog W = .ok 1 W := fun W => by kernel_rfl
   have hsa : (Instr.sliceAt 275 (.pointer (some ⟨w.heap.size, 0, none⟩)) (some (.int .i64 i')) none none).run Tryz.prog w2 = .ok (.slice (some ⟨w.heap.size, i', none⟩) (65 - i') (65 - i')) w2 := by
    rw [run_sliceAt_array_l w2 275 ⟨w.heap.size, 0, none⟩ (by kernel_rfl) .i64 i' (by omega) (by rw [hal]; omega), hse, hal]
    simp only [Result.andThen_ok, slicedAt]
    rw [if_neg (by have := HH.out.2.2; simp; omega), Addr.add_lit]
    simp
   clear hal hse
   have HB2 := Lib.hid hB2
   clear hw2 hT2 hk2 hB2 hcell hfree hlt hle hL17
   go_wp2_with fail
   refine bodyPost_ret (v := .tuple #[.slice none 0 0, .string ⟨(hexD q :: L).toArray⟩]) (by simp [results, Tryz.results227, go_sem]) rfl ⟨by rw [HFS.out], HB2.out⟩
end Go.Proofs.YtccnkebkgegohaaGreatDoor
end
section
namespace Go.Proofs.YtccnkebkgegohaaGreatDoor
open Go.RowKit Go.Rel
set_option maxRecDepth 100000
set_option maxHeartbeats 2000000 in
theorem FormatUintI (u : Nat) (hu : u < 18446744073709551616) (w : World) (hT : w.cell? ⟨5, 15, none⟩ = some (.int .u8 4)) :
  Calls Tryz.prog 205 #[.int .u64 u, .int .i64 16] w fun e w' => e = .returned (.string ⟨(hexS u).toArray⟩) ∧ Below w.heap.size w w' := by
 have H := Lib.hid (formatBits_hex u hu w hT)
 clear hT hu
 go_enter Tryz.func205, Tryz.ntmps205
 go_wp2_with fail
 refine H.out.mono ?_
 rintro e w1 ⟨rfl, hb⟩
 go_wp2_with fail
 go_ret
 exact ⟨rfl, hb⟩
set_option maxHeartbeats 2000000 in
theorem FormatUint16 (u : Nat) (hu : u < 18446744073709551616) (w : World) (hT : w.cell? ⟨5, 15, none⟩ = some (.int .u8 4)) :
  Calls Tryz.prog 172 #[.int .u64 u, .int .i64 16] w fun e w' => e = .returned (.string ⟨(hexS u).toArray⟩) ∧ Below w.heap.size w w' := by
 have H := Lib.hid (FormatUintI u hu w hT)
 clear hT hu
 go_enter Tryz.func172, Tryz.ntmps172
 go_wp2_with fail
 refine H.out.mono ?_
 rintro e w1 ⟨rfl, hb⟩
 go_wp2_with fail
 go_ret
 exact ⟨rfl, hb⟩
theorem idx24 (s : Sol) (k : Nat) (hk : k < 8) (W : World) : (Instr.index 24 (.agg #[.int .u64 (pl s 0), .int .u64 (pl s 1), .int .u64 (pl s 2), .int .u64 (pl s 3), .int .u64 (pl s 4), .int .u64 (pl s 5), .int .u64 (pl s 6), .int .u64 (pl s 7)]) (.int .i64 k)).run Tryz.prog W = .ok (.int .u64 (pl s k)) W := by
 obtain rfl | rfl | rfl | rfl | rfl | rfl | rfl | rfl : k = 0 ∨ k = 1 ∨ k = 2 ∨ k = 3 ∨ k = 4 ∨ k = 5 ∨ k = 6 ∨ k = 7 := by omega
 all_goals kernel_rfl
/-- the planes, as numbers -/
def plN (s : Sol) (k : Nat) : Nat := (plv s k).toNat
theorem plN_lt (s : Sol) (k : Nat) : plN s k < 18446744073709551616 := by unfold plN; have := (plv s k).isLt; omega
theorem pl_plN (s : Sol) (k : Nat) : pl s k = ((plN s k : Nat) : Int) := by unfold pl plN; rfl
def hexV (s : Sol) (k : Nat) : Value := .string ⟨(hexS (plN s k)).toArray⟩
theorem info9 : (Tryz.prog.info? 9).map (fun i => (i.zero, i.size, i.bytes)) = some (some (.string ⟨#[]⟩), 1, 16) := by kernel_rfl
theorem range_snoc {α : Type} (f : Nat → α) (k : Nat) : (List.range (k + 1)).map f = (List.range k).map f ++ [f k] := by rw [List.range_succ, List.map_append]; rfl
set_option maxHeartbeats 2000000 in
theorem Join_one (g cap : Nat) (b sep : ByteArray) (w : World) (hc : w.cell? ⟨g, 0, none⟩ = some (.string b)) :
  Calls Tryz.prog 173 #[.slice (some ⟨g, 0, none⟩) 1 cap, .string sep] w fun e w' => e = .returned (.string b) ∧ Below w.heap.size w w' := by
 go_enter Tryz.func173, Tryz.ntmps173
 go_wp2_with fail
 go_ret
 exact ⟨rfl, Below.refl _ _⟩
set_option maxHeartbeats 8000000 in
theorem solidWrite_one (s : Sol) (hs : ∀ k, 1 ≤ k → k < 8 → plN s k = 0) (w : World) (hT : w.cell? ⟨5, 15, none⟩ = some (.int .u8 4)) :
  Calls Tryz.prog 132 #[.agg #[.int .u64 (pl s 0), .int .u64 (pl s 1), .int .u64 (pl s 2), .int .u64 (pl s 3), .int .u64 (pl s 4), .int .u64 (pl s 5), .int .u64 (pl s 6), .int .u64 (pl s 7)]] w fun e w' => e = .returned (hexV s 0) ∧ Below w.heap.size w w' := by
 have l5 := block_lt_of_cell hT
 have HF : Hid (∀ k W, Below w.heap.size w W → Calls Tryz.prog 172 #[.int .u64 (pl s k), .int .i64 16] W fun e w' => e = .returned (hexV s k) ∧ Below W.heap.size W w') := Lib.hid fun k W hb => by
  rw [pl_plN]; exact FormatUint16 _ (plN_lt s k) W ((hb.cell (p := ⟨5, 15, none⟩) l5).trans hT)
 have HIX := Lib.hid (idx24 s)
 obtain ⟨i9, hi, hz0, hz1, hz2⟩ := info_parts info9
 have HI9 := Lib.hid (And.intro hi (And.intro hz0 (And.intro hz1 hz2))); clear hi hz0 hz1 hz2
 have HZ : Hid (∀ k, 1 ≤ k → k < 8 → hexV s k = .string ⟨#[48]⟩) := Lib.hid fun k h1 h2 => by unfold hexV; rw [hs k h1 h2]; rfl
 have hv : ∀ k, ∃ b, hexV s k = .string b := fun k => ⟨_, rfl⟩
 have HVV := Lib.hid hv
 clear hT l5 hs hv
 generalize hexV s = hx at *
 go_enter Tryz.func132, Tryz.ntmps132
 go_wp2_with fail
 go_loopw [3, 7] (fun u y wr => ∃ k : Nat, k ≤ 8 ∧ y = .int .i64 k ∧ Hid (wr.ownsRow w.heap.size 9 1 u k ((List.range k).map hx)) ∧ Below w.heap.size w wr) (fun _ y _ => 8 - (intOf y).toNat)
 case atStart => exact ⟨0, by omega, rfl, Lib.hid (World.ownsRow_nil _ _ _ _), bel_by⟩
 case round =>
  obtain ⟨k, hk, rfl, hO, hbel⟩ := hrel
  by_cases hlt : k < 8
  ·have hix := HIX.out k hlt
   go_wp2_with fail
   refine (HF.out k wr hbel).mono ?_
   rintro e w1 ⟨rfl, hb1⟩
   have hbel1 : Below w.heap.size w w1 := bel_trans hbel hb1
   have HO1 := Lib.hid (own_grow hO.out hb1)
   have hsz := hbel1.size
   clear hb1 hbel
   obtain ⟨bs, hbs⟩ := HVV.out k
   have HBS := Lib.hid hbs
   rw [hbs]
   clear hbs
   go_wp2_with (first
    | (at_builtin; refine wpList_append_own _ rfl _ _ 163 rfl w.heap.size 9 i9 (.string ⟨#[]⟩) 1 16 Tryz.underlying163 HI9.out.1 HI9.out.2.1 HI9.out.2.2.1 HI9.out.2.2.2 rfl (by decide) _ _ _ rfl (HO1.out.alloc _) ⟨w1.heap.size, 0, none⟩ 1 1 [.string bs] rfl rfl (cell_one_new _ _ _) (fun x hx => by simp at hx; subst hx; rfl) (by unfold maxLen; omega) (by omega) (by simp; omega) ?_; intro v' w3 hown' hgrow3 hnil3))
   have hB3 : Below w.heap.size w w3 := (bel_alloc hbel1 _).grown hgrow3 (by simp; omega) (fun j hj => by have := (HO1.out.lt j hj).1; omega)
   have HO3 := Lib.hid (And.intro hown' hB3); clear hown' hgrow3 hnil3 hB3
   go_wp2_with fail
   go_roundw
   case rel => exact ⟨k + 1, by omega, by go_num, Lib.hid (by rw [range_snoc, HBS.out]; exact HO3.out.1), HO3.out.2⟩
   case measure => simp [intOf]; omega
  ·have hk8 : k = 8 := by omega
   subst hk8
   have ho := hO.out
   refine Veil.out ?_
   obtain ⟨g, cap, cur, rfl, hcap, hcm, hcell⟩ : ∃ g cap cur, u3 = .slice (some ⟨g, 0, none⟩) 8 cap ∧ 8 ≤ cap ∧ cap ≤ 9223372036854775807 ∧ (Blk wr g cur 9 ∧ ∀ j, j < 8 → wr.cell? ⟨g, j, none⟩ = some (hx j)) := by
    rcases ho.2 with ⟨_, h0⟩ | ⟨g, cap, cur, e, hb, hg, hnc, hcm, hcs, ht⟩
    ·omega
    ·refine ⟨g, cap, cur, e, hnc, by unfold maxLen at hcm; omega, hg, fun j hj => ?_⟩
     rw [Blk.cell hg]
     have h1 : ((List.range 8).map hx)[j]? = some (hx j) := by simp [hj]
     rw [← ht, List.getElem?_take, if_pos (by omega)] at h1
     simpa using h1
   refine Veil.on ?_
   have lg := hcell.1.lt
   have HC := Lib.hid hcell.2
   have HB := Lib.hid hbel
   clear ho hO hcell hbel hlt hk
   go_wp2_with fail
   obtain ⟨w2, rfl⟩ : ∃ w2 : World, w2 = wr := ⟨_, rfl⟩
   go_loopw [3] (fun u wr => ∃ m : Nat, 1 ≤ m ∧ m ≤ 8 ∧ u = .slice (some ⟨g, 0, none⟩) m cap ∧ Below w.heap.size w wr ∧ g < wr.heap.size ∧ Hid (∀ j, j < 8 → wr.cell? ⟨g, j, none⟩ = some (hx j))) (fun u _ => sliceLen u)
   case atStart => exact ⟨8, by omega, by omega, rfl, HB.out, lg, HC⟩
   case round =>
    obtain ⟨m, h1, h8, rfl, hbel, lg, hC⟩ := hrel
    by_cases hm : m = 1
    ·subst hm
     obtain ⟨b0, hb0⟩ := HVV.out 0
     have c0 := hC.out 0 (by omega)
     rw [hb0] at c0
     have HJ := Lib.hid (Join_one g cap b0 ⟨#[46]⟩ wr c0)
     have HBB := Lib.hid (And.intro hb0 hbel)
     clear hb0 c0 hbel
     go_wp2_with fail
     refine HJ.out.mono ?_
     rintro e w3 ⟨rfl, hb3⟩
     go_wp2_with fail
     go_ret
     exact ⟨congrArg Ending.returned HBB.out.1.symm, bel_trans HBB.out.2 hb3⟩
    ·obtain ⟨m', rfl⟩ : ∃ m', m = m' + 1 + 1 := ⟨m - 2, by omega⟩
     have c0 := hC.out (m' + 1) (by omega)
     rw [HZ.out (m' + 1) (by omega) (by omega)] at c0
     have HBB := Lib.hid hbel
     clear hbel hm
     go_wp2_with fail
     go_roundw
     case rel => ((repeat apply Exists.intro); exact ⟨⟨m' + 1, by omega, by omega, rfl, HBB.out, lg, hC⟩, rfl⟩)
     case measure => simp [sliceLen]
end Go.Proofs.YtccnkebkgegohaaGreatDoor
end
section
namespace Go.Proofs.YtccnkebkgegohaaGreatDoor
open Go.RowKit Go.Rel
set_option maxRecDepth 100000
theorem pl_one0 : pl 1 0 = 1 := by kernel_rfl
theorem pl_one1 : pl 1 1 = 0 := by kernel_rfl
theorem pl_one2 : pl 1 2 = 0 := by kernel_rfl
theorem pl_one3 : pl 1 3 = 0 := by kernel_rfl
theorem pl_one4 : pl 1 4 = 0 := by kernel_rfl
theorem pl_one5 : pl 1 5 = 0 := by kernel_rfl
theorem pl_one6 : pl 1 6 = 0 := by kernel_rfl
theorem pl_one7 : pl 1 7 = 0 := by kernel_rfl
theorem chk_whole (a : Ac) (hf : fits 8 a = true) : chkAc 1 (List.replicate 8 (1 : Sol)) a = 0 := by
 have h1 : chkPat 1 (List.replicate 8 (1 : Sol)) = 0 := by decide +kernel
 unfold chkAc
 rw [if_pos h1, List.length_replicate, if_pos hf]
theorem cut_str (L : List UInt8) : ((⟨#[99, 117, 116, 32]⟩ : ByteArray) ++ (⟨L.toArray⟩ : ByteArray)) = ⟨(([99, 117, 116, 32] : List UInt8) ++ L).toArray⟩ := by
 apply ByteArray.ext
 simp [ByteArray.data_append]
set_option maxHeartbeats 8000000 in
theorem Write_one (p : Int) (s : Sol) (hf : fits 8 (1, p, s) = true) (hs : ∀ k, 1 ≤ k → k < 8 → plN s k = 0) (w : World) (hT : w.cell? ⟨5, 15, none⟩ = some (.int .u8 4)) :
  Calls Tryz.prog 81 #[.agg #[.int .u8 1, .int .i64 p, .int .u64 (pl s 0), .int .u64 (pl s 1), .int .u64 (pl s 2), .int .u64 (pl s 3), .int .u64 (pl s 4), .int .u64 (pl s 5), .int .u64 (pl s 6), .int .u64 (pl s 7)]] w fun e w' => e = .returned (.tuple #[.string ⟨(([99, 117, 116, 32] : List UInt8) ++ hexS (plN s 0)).toArray⟩, .int .i64 0]) ∧ Below w.heap.size w w' := by
 have l5 := block_lt_of_cell hT
 have HSW : Hid (∀ W, Below w.heap.size w W → Calls Tryz.prog 132 #[.agg #[.int .u64 (pl s 0), .int .u64 (pl s 1), .int .u64 (pl s 2), .int .u64 (pl s 3), .int .u64 (pl s 4), .int .u64 (pl s 5), .int .u64 (pl s 6), .int .u64 (pl s 7)]] W fun e w' => e = .returned (.string ⟨(hexS (plN s 0)).toArray⟩) ∧ Below W.heap.size W w') := Lib.hid fun W hb => solidWrite_one s hs W ((hb.cell (p := ⟨5, 15, none⟩) l5).trans hT)
 have HCK : Hid (∀ u W, SlS W u (List.replicate 8 (1 : Sol)) → Calls Tryz.prog 36 #[.agg #[.int .u64 1, .int .u64 0, .int .u64 0, .int .u64 0, .int .u64 0, .int .u64 0, .int .u64 0, .int .u64 0, u], .agg #[.int .u8 1, .int .i64 p, .int .u64 (pl s 0), .int .u64 (pl s 1), .int .u64 (pl s 2), .int .u64 (pl s 3), .int .u64 (pl s 4), .int .u64 (pl s 5), .int .u64 (pl s 6), .int .u64 (pl s 7)]] W fun e w' => e = .returned (.int .i64 0) ∧ Below W.heap.size W w') := Lib.hid fun u W hu => by
  have := CheckAction_spec 1 u (List.replicate 8 (1 : Sol)) (1, p, s) W hu
  rw [chk_whole _ hf] at this
  simp only [pl_one0, pl_one1, pl_one2, pl_one3, pl_one4, pl_one5, pl_one6, pl_one7] at this
  exact this
 obtain ⟨i24, hi, hz0, hz1, hz2⟩ := info_parts info24
 have HI24 := Lib.hid (And.intro hi (And.intro hz0 (And.intro hz1 hz2))); clear hi hz0 hz1 hz2
 have HSL : Hid (∀ k, ((List.replicate (k + 1) (1 : Sol)).map solL).flatten = ((List.replicate k (1 : Sol)).map solL).flatten ++ [.int .u64 1, .int .u64 0, .int .u64 0, .int .u64 0, .int .u64 0, .int .u64 0, .int .u64 0, .int .u64 0]) := Lib.hid fun k => by
  rw [List.replicate_succ', List.map_append, List.flatten_append]
  simp only [List.map_cons, List.map_nil, List.flatten_cons, List.flatten_nil, List.append_nil, solL, pl_one0, pl_one1, pl_one2, pl_one3, pl_one4, pl_one5, pl_one6, pl_one7]
 clear hT l5 hs hf
 go_enter Tryz.func81, Tryz.ntmps81
 go_wp2_with fail
 go_loopw [8] (fun y wr => ∃ (k : Nat) (u : Value), k ≤ 8 ∧ y = .int .i64 k ∧ Blk wr w.heap.size #[.int .u8 1, .int .i64 p, .int .u64 (pl s 0), .int .u64 (pl s 1), .int .u64 (pl s 2), .int .u64 (pl s 3), .int .u64 (pl s 4), .int .u64 (pl s 5), .int .u64 (pl s 6), .int .u64 (pl s 7)] 46 ∧ Blk wr (w.heap.size + 1) #[.int .u64 1, .int .u64 0, .int .u64 0, .int .u64 0, .int .u64 0, .int .u64 0, .int .u64 0, .int .u64 0, u] 27 ∧ Hid (wr.ownsRow (w.heap.size + 1 + 1) 24 8 u k ((List.replicate k (1 : Sol)).map solL).flatten) ∧ Below w.heap.size w wr) (fun y _ => 8 - (intOf y).toNat)
 case atStart => exact ⟨0, _, by omega, rfl, blk_by, blk_by, Lib.hid (World.ownsRow_nil _ _ _ _), bel_by⟩
 case round =>
  obtain ⟨k, u, hk, rfl, ba, bw, hO, hbel⟩ := hrel
  have cw := bw.cell
  have lw := bw.lt
  by_cases hlt : k < 8
  ·have HB := Lib.hid (And.intro ba (And.intro bw hbel)); clear ba bw hbel
   have hsz := HB.out.2.2.size
   go_wp2_with (first
    | (at_builtin; refine wpList_append_own _ rfl _ _ 25 rfl (w.heap.size + 1 + 1) 24 i24 (.agg #[.int .u64 0, .int .u64 0, .int .u64 0, .int .u64 0, .int .u64 0, .int .u64 0, .int .u64 0, .int .u64 0]) 8 64 Tryz.underlying25 HI24.out.1 HI24.out.2.1 HI24.out.2.2.1 HI24.out.2.2.2 rfl (by decide) _ _ _ rfl (hO.out.alloc _) ⟨wr.heap.size, 0, none⟩ 1 1 [.int .u64 1, .int .u64 0, .int .u64 0, .int .u64 0, .int .u64 0, .int .u64 0, .int .u64 0, .int .u64 0] rfl rfl (cells_new _ _ _) (fun z hz => by simp at hz; rcases hz with rfl | rfl <;> rfl) (by unfold maxLen; omega) (by omega) (by simp; omega) ?_; intro v' w4 hown' hgrow4 hnil4; obtain ⟨g', cap', rfl⟩ := ownsRow_succ hown'; have b4 : Blk w4 (w.heap.size + 1) #[.int .u64 1, .int .u64 0, .int .u64 0, .int .u64 0, .int .u64 0, .int .u64 0, .int .u64 0, .int .u64 0, u] 27 := (hgrow4.block (w.heap.size + 1) (by simp; omega) (fun e => by have := (hO.out.lt _ e.symm).1; omega)).trans (HB.out.2.1.alloc _); have c8 := b4.cell 8; have f8 := b4.free 8; have l8 := b4.lt; have HB4 := Lib.hid b4; have HG4 := Lib.hid hgrow4; have HO4 := Lib.hid hown'; clear b4 hown' hgrow4 hnil4))
   have ha4 : Blk w4 w.heap.size #[.int .u8 1, .int .i64 p, .int .u64 (pl s 0), .int .u64 (pl s 1), .int .u64 (pl s 2), .int .u64 (pl s 3), .int .u64 (pl s 4), .int .u64 (pl s 5), .int .u64 (pl s 6), .int .u64 (pl s 7)] 46 := (HG4.out.block w.heap.size (by simp; omega) (fun e => by have := (hO.out.lt _ e.symm).1; omega)).trans (HB.out.1.alloc _)
   have hB4 : Below w.heap.size w w4 := (bel_alloc HB.out.2.2 _).grown HG4.out (by simp; omega) (fun j hj => by have := (hO.out.lt j hj).1; omega)
   have HX := Lib.hid (And.intro ha4 hB4); clear ha4 hB4
   go_wp2_with fail
   go_roundw
   case rel => exact ⟨k + 1, _, by omega, by go_num, HX.out.1.other (by simp) _, by have := HB4.out.set 8 (.slice (some ⟨g', 0, none⟩) (k + 1) cap'); simpa using this, Lib.hid (by rw [HSL.out]; exact own_setOther HO4.out (by simp) _), HX.out.2.setCell (by simp) _⟩
   case measure => simp [intOf]; omega
  ·have hk8 : k = 8 := by omega
   subst hk8
   have ca := ba.cell
   have la := ba.lt
   have HCC := Lib.hid (HCK.out u wr (OwnS.sl (base := w.heap.size + 1 + 1) (by show wr.ownsRow _ 24 8 u (List.replicate 8 (1 : Sol)).length _; exact hO.out)))
   have HB := Lib.hid (And.intro ba hbel); clear ba bw hbel
   go_wp2_with fail
   refine HCC.out.mono ?_
   rintro e w2 ⟨rfl, hb2⟩
   have hb := bel_trans HB.out.2 hb2
   have ca2 := (HB.out.1.grow hb2).cell
   have la2 := (HB.out.1.grow hb2).lt
   have HB2 := Lib.hid hb; clear hb hb2 ca la cw lw
   go_wp2_with fail
   refine (HSW.out w2 HB2.out).mono ?_
   rintro e w3 ⟨rfl, hb3⟩
   have HB3 := Lib.hid (bel_trans HB2.out hb3); clear hb3
   have hln : (hexS (plN s 0)).length ≤ 17 := hexN_len 16 _
   go_wp2_with fail
   refine bodyPost_ret (v := .tuple #[.string ((⟨#[99, 117, 116, 32]⟩ : ByteArray) ++ (⟨(hexS (plN s 0)).toArray⟩ : ByteArray)), .int .i64 0]) (by simp [results, Tryz.results81, go_sem]) rfl ⟨?_, HB3.out⟩
   rw [cut_str]
   rfl
end Go.Proofs.YtccnkebkgegohaaGreatDoor
end
