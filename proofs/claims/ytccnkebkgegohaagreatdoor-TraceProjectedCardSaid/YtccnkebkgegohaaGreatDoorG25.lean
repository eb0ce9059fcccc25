import Derived.Test.YtccnkebkgegohaaGreatDoorG24
/-
  Given contracts of functions of the program, and laws for them, one behind the other.
-/
set_option linter.unusedVariables false
set_option linter.unusedSimpArgs false
set_option linter.unusedSectionVars false
section
namespace Go.Proofs.YtccnkebkgegohaaGreatDoor
open Go.RowKit Go.Rel
set_option maxRecDepth 100000
theorem pl_one0 : pl 1 0 = 1 := by kernel_rfl
theorem pl_one1 : pl 1 1 = 0 := by kernel_rfl
theorem pl_one2 : pl 1 2 = 0 := by kernel_rfl
theorem pl_one3 : pl 1 3 = 0 := by kernel_rfl
theorem pl_one4 : pl 1 4 = 0 := by kernel_rfl
theorem pl_one5 : pl 1 5 = 0 := by kernel_rfl
theorem pl_one6 : pl 1 6 = 0 := by kernel_rfl
theorem pl_one7 : pl 1 7 = 0 := by kernel_rfl
theorem chk_whole (a : Ac) (hf : fits 8 a = true) : chkAc 1 (List.replicate 8 (1 : Sol)) a = 0 := by
  have h1 : chkPat 1 (List.replicate 8 (1 : Sol)) = 0 := by decide +kernel
  unfold chkAc
  rw [if_pos h1, List.length_replicate, if_pos hf]
theorem cut_str (L : List UInt8) : ((⟨#[99, 117, 116, 32]⟩ : ByteArray) ++ (⟨L.toArray⟩ : ByteArray)) = ⟨(([99, 117, 116, 32] : List UInt8) ++ L).toArray⟩ := by
  apply ByteArray.ext
  simp [ByteArray.data_append]
set_option maxHeartbeats 8000000 in
theorem Write_one (p : Int) (s : Sol) (hf : fits 8 (1, p, s) = true) (hs : ∀ k, 1 ≤ k → k < 8 → plN s k = 0) (w : World) (hT : w.cell? ⟨5, 15, none⟩ = some (.int .u8 4)) :
    Calls Tryz.prog 81 #[.agg #[.int .u8 1, .int .i64 p, .int .u64 (pl s 0), .int .u64 (pl s 1), .int .u64 (pl s 2), .int .u64 (pl s 3), .int .u64 (pl s 4), .int .u64 (pl s 5), .int .u64 (pl s 6), .int .u64 (pl s 7)]] w fun e w' => e = .returned (.tuple #[.string ⟨(([99, 117, 116, 32] : List UInt8) ++ hexS (plN s 0)).toArray⟩, .int .i64 0]) ∧ Below w.heap.size w w' := by
  have l5 := block_lt_of_cell hT
  have HSW : Hid (∀ W, Below w.heap.size w W → Calls Tryz.prog 132 #[.agg #[.int .u64 (pl s 0), .int .u64 (pl s 1), .int .u64 (pl s 2), .int .u64 (pl s 3), .int .u64 (pl s 4), .int .u64 (pl s 5), .int .u64 (pl s 6), .int .u64 (pl s 7)]] W fun e w' => e = .returned (.string ⟨(hexS (plN s 0)).toArray⟩) ∧ Below W.heap.size W w') := Lib.hid fun W hb => solidWrite_one s hs W ((hb.cell (p := ⟨5, 15, none⟩) l5).trans hT)
  have HCK : Hid (∀ u W, SlS W u (List.replicate 8 (1 : Sol)) → Calls Tryz.prog 36 #[.agg #[.int .u64 1, .int .u64 0, .int .u64 0, .int .u64 0, .int .u64 0, .int .u64 0, .int .u64 0, .int .u64 0, u], .agg #[.int .u8 1, .int .i64 p, .int .u64 (pl s 0), .int .u64 (pl s 1), .int .u64 (pl s 2), .int .u64 (pl s 3), .int .u64 (pl s 4), .int .u64 (pl s 5), .int .u64 (pl s 6), .int .u64 (pl s 7)]] W fun e w' => e = .returned (.int .i64 0) ∧ Below W.heap.size W w') := Lib.hid fun u W hu => by
    have := CheckAction_spec 1 u (List.replicate 8 (1 : Sol)) (1, p, s) W hu
    rw [chk_whole _ hf] at this
    simp only [pl_one0, pl_one1, pl_one2, pl_one3, pl_one4, pl_one5, pl_one6, pl_one7] at this
    exact this
  obtain ⟨i24, hi, hz0, hz1, hz2⟩ := info_parts info24
  have HI24 := Lib.hid (And.intro hi (And.intro hz0 (And.intro hz1 hz2))); clear hi hz0 hz1 hz2
  have HSL : Hid (∀ k, ((List.replicate (k + 1) (1 : Sol)).map solL).flatten = ((List.replicate k (1 : Sol)).map solL).flatten ++ [.int .u64 1, .int .u64 0, .int .u64 0, .int .u64 0, .int .u64 0, .int .u64 0, .int .u64 0, .int .u64 0]) := Lib.hid fun k => by
    rw [List.replicate_succ', List.map_append, List.flatten_append]
    simp only [List.map_cons, List.map_nil, List.flatten_cons, List.flatten_nil, List.append_nil, solL, pl_one0, pl_one1, pl_one2, pl_one3, pl_one4, pl_one5, pl_one6, pl_one7]
  clear hT l5 hs hf
  go_enter Tryz.func81, Tryz.ntmps81
  go_wp2_with fail
  go_loopw [8] (fun y wr => ∃ (k : Nat) (u : Value), k ≤ 8 ∧ y = .int .i64 k ∧ Blk wr w.heap.size #[.int .u8 1, .int .i64 p, .int .u64 (pl s 0), .int .u64 (pl s 1), .int .u64 (pl s 2), .int .u64 (pl s 3), .int .u64 (pl s 4), .int .u64 (pl s 5), .int .u64 (pl s 6), .int .u64 (pl s 7)] 46 ∧ Blk wr (w.heap.size + 1) #[.int .u64 1, .int .u64 0, .int .u64 0, .int .u64 0, .int .u64 0, .int .u64 0, .int .u64 0, .int .u64 0, u] 27 ∧ Hid (wr.ownsRow (w.heap.size + 1 + 1) 24 8 u k ((List.replicate k (1 : Sol)).map solL).flatten) ∧ Below w.heap.size w wr) (fun y _ => 8 - (intOf y).toNat)
  case atStart => exact ⟨0, _, by omega, rfl, (by repeat (first | with_reducible assumption | (refine Blk.at _ _ ?_; (simp; done)) | with_reducible refine Blk.alloc ?_ _ | with_reducible refine Blk.drew ?_ | with_reducible refine Blk.rowS ?_ _ | with_reducible refine Blk.rowO ?_ _ (by simp))), (by repeat (first | with_reducible assumption | (refine Blk.at _ _ ?_; (simp; done)) | with_reducible refine Blk.alloc ?_ _ | with_reducible refine Blk.drew ?_ | with_reducible refine Blk.rowS ?_ _ | with_reducible refine Blk.rowO ?_ _ (by simp))), Lib.hid (World.ownsRow_nil _ _ _ _), (by repeat (first | with_reducible exact bel_refl _ | with_reducible assumption | with_reducible refine bel_drewN ?_ _ | with_reducible refine bel_drew ?_ | with_reducible refine bel_alloc ?_ _ | with_reducible refine bel_row ?_ ?_ _ | with_reducible refine bel_set ?_ ?_ _ | refine bel_trans ?_ (by with_reducible assumption) | (simp; done) | (simp; omega)))⟩
  case round =>
    obtain ⟨k, u, hk, rfl, ba, bw, hO, hbel⟩ := hrel
    have cw := bw.cell
    have lw := bw.lt
    by_cases hlt : k < 8
    · have HB := Lib.hid (And.intro ba (And.intro bw hbel)); clear ba bw hbel
      have hsz := HB.out.2.2.size
      go_wp2_with (first
        | (at_builtin; refine wpList_append_own _ rfl _ _ 25 rfl (w.heap.size + 1 + 1) 24 i24 (.agg #[.int .u64 0, .int .u64 0, .int .u64 0, .int .u64 0, .int .u64 0, .int .u64 0, .int .u64 0, .int .u64 0]) 8 64 Tryz.underlying25 HI24.out.1 HI24.out.2.1 HI24.out.2.2.1 HI24.out.2.2.2 rfl (by decide) _ _ _ rfl (hO.out.alloc _) ⟨wr.heap.size, 0, none⟩ 1 1 [.int .u64 1, .int .u64 0, .int .u64 0, .int .u64 0, .int .u64 0, .int .u64 0, .int .u64 0, .int .u64 0] rfl rfl (cells_new _ _ _) (fun z hz => by simp at hz; rcases hz with rfl | rfl <;> rfl) (by unfold maxLen; omega) (by omega) (by simp; omega) ?_; intro v' w4 hown' hgrow4 hnil4; obtain ⟨g', cap', rfl⟩ := ownsRow_succ hown'; have b4 : Blk w4 (w.heap.size + 1) #[.int .u64 1, .int .u64 0, .int .u64 0, .int .u64 0, .int .u64 0, .int .u64 0, .int .u64 0, .int .u64 0, u] 27 := (hgrow4.block (w.heap.size + 1) (by simp; omega) (fun e => by have := (hO.out.lt _ e.symm).1; omega)).trans (HB.out.2.1.alloc _); have c8 := b4.cell 8; have f8 := b4.free 8; have l8 := b4.lt; have HB4 := Lib.hid b4; have HG4 := Lib.hid hgrow4; have HO4 := Lib.hid hown'; clear b4 hown' hgrow4 hnil4))
      have ha4 : Blk w4 w.heap.size #[.int .u8 1, .int .i64 p, .int .u64 (pl s 0), .int .u64 (pl s 1), .int .u64 (pl s 2), .int .u64 (pl s 3), .int .u64 (pl s 4), .int .u64 (pl s 5), .int .u64 (pl s 6), .int .u64 (pl s 7)] 46 := (HG4.out.block w.heap.size (by simp; omega) (fun e => by have := (hO.out.lt _ e.symm).1; omega)).trans (HB.out.1.alloc _)
      have hB4 : Below w.heap.size w w4 := (bel_alloc HB.out.2.2 _).grown HG4.out (by simp; omega) (fun j hj => by have := (hO.out.lt j hj).1; omega)
      have HX := Lib.hid (And.intro ha4 hB4); clear ha4 hB4
      go_wp2_with fail
      go_roundw
      case rel => exact ⟨k + 1, _, by omega, by go_num, HX.out.1.other (by simp) _, by have := HB4.out.set 8 (.slice (some ⟨g', 0, none⟩) (k + 1) cap'); simpa using this, Lib.hid (by rw [HSL.out]; exact own_setOther HO4.out (by simp) _), HX.out.2.setCell (by simp) _⟩
      case measure => simp [intOf]; omega
    · have hk8 : k = 8 := by omega
      subst hk8
      have ca := ba.cell
      have la := ba.lt
      have HCC := Lib.hid (HCK.out u wr (OwnS.sl (base := w.heap.size + 1 + 1) (by show wr.ownsRow _ 24 8 u (List.replicate 8 (1 : Sol)).length _; exact hO.out)))
      have HB := Lib.hid (And.intro ba hbel); clear ba bw hbel
      go_wp2_with fail
      refine HCC.out.mono ?_
      rintro e w2 ⟨rfl, hb2⟩
      have hb := bel_trans HB.out.2 hb2
      have ca2 := (HB.out.1.grow hb2).cell
      have la2 := (HB.out.1.grow hb2).lt
      have HB2 := Lib.hid hb; clear hb hb2 ca la cw lw
      go_wp2_with fail
      refine (HSW.out w2 HB2.out).mono ?_
      rintro e w3 ⟨rfl, hb3⟩
      have HB3 := Lib.hid (bel_trans HB2.out hb3); clear hb3
      have hln : (hexS (plN s 0)).length ≤ 17 := hexN_len 16 _
      go_wp2_with fail
      refine bodyPost_ret (v := .tuple #[.string ((⟨#[99, 117, 116, 32]⟩ : ByteArray) ++ (⟨(hexS (plN s 0)).toArray⟩ : ByteArray)), .int .i64 0]) (by simp [results, Tryz.results81, go_sem]) rfl ⟨?_, HB3.out⟩
      rw [cut_str]
      rfl
end Go.Proofs.YtccnkebkgegohaaGreatDoor
end
