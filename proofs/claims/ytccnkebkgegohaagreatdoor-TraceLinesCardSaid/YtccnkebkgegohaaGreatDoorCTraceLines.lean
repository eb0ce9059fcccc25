import Derived.Test.YtccnkebkgegohaaGreatDoorG00
import Derived.Test.YtccnkebkgegohaaGreatDoorG01
import Derived.Test.YtccnkebkgegohaaGreatDoorG02
import Derived.Test.YtccnkebkgegohaaGreatDoorG03
import Derived.Test.YtccnkebkgegohaaGreatDoorG04
import Derived.Test.YtccnkebkgegohaaGreatDoorG05
import Derived.Test.YtccnkebkgegohaaGreatDoorG06
import Derived.Test.YtccnkebkgegohaaGreatDoorG07
import Derived.Test.YtccnkebkgegohaaGreatDoorG08
import Derived.Test.YtccnkebkgegohaaGreatDoorG09
import Derived.Test.YtccnkebkgegohaaGreatDoorG10
import Derived.Test.YtccnkebkgegohaaGreatDoorG11
import Derived.Test.YtccnkebkgegohaaGreatDoorG12
import Derived.Test.YtccnkebkgegohaaGreatDoorG13
import Derived.Test.YtccnkebkgegohaaGreatDoorG14
import Derived.Test.YtccnkebkgegohaaGreatDoorG15
import Derived.Test.YtccnkebkgegohaaGreatDoorG16
import Derived.Test.YtccnkebkgegohaaGreatDoorG17
import Derived.Test.YtccnkebkgegohaaGreatDoorG18
import Derived.Test.YtccnkebkgegohaaGreatDoorG19
import Derived.Test.YtccnkebkgegohaaGreatDoorG20
import Derived.Test.YtccnkebkgegohaaGreatDoorG21
import Derived.Test.YtccnkebkgegohaaGreatDoorG22
import Derived.Test.YtccnkebkgegohaaGreatDoorG23
import Derived.Test.YtccnkebkgegohaaGreatDoorL5
import Derived.Test.YtccnkebkgegohaaGreatDoorL6
/-
  For every input that is opened, the statement TraceLines returns true and the input reads as before; with the contracts and laws that this wants. No conditions beyond the row.
-/
namespace Go.Proofs.YtccnkebkgegohaaGreatDoor
open Go.ChangeShapes Go.WideShapes Go.ChangeAt Go.RowKit
set_option maxRecDepth 100000
set_option maxHeartbeats 4000000
namespace TraceLines
theorem pl_ln (s : Sol) (k : Nat) : Ln.pl s k = pl s k := by unfold Ln.pl pl Go.Draw.plv plv; rfl
theorem act_ln (a : Ac) : acV a = Ln.actX (a.1, a.2.1, a.2.2) := by simp only [acV, Ln.actX, pl_ln]
theorem sols_ln (l : List Sol) : l.map Ln.solL = l.map solL := List.map_congr_left fun s _ => by simp only [Ln.solL, solL, pl_ln]
theorem sls_ln {W : World} {u : Value} {l : List Sol} (h : Ln.SlS W u l) : SlS W u l := by
  have h' : Ln.Sl W 8 u (l.map Ln.solL) := h
  rw [sols_ln] at h'
  exact h'
theorem chk_ln (K : Nat) (p : Int) (s : Sol) : chkAc 1 (List.replicate 8 (1 : Sol)) (K, p, s) = if Ln.fitX (K, p, s) = true then 0 else 1 := by
  have h1 : chkPat 1 (List.replicate 8 (1 : Sol)) = 0 := by decide +kernel
  unfold chkAc
  rw [if_pos h1, List.length_replicate]
  rfl
theorem ck_ln (K : Nat) (p : Int) (s : Sol) (u : Value) (W : World) (h : Ln.SlS W u (List.replicate 8 (1 : Sol))) : Calls Tryz.prog 36 #[.agg #[.int .u64 1, .int .u64 0, .int .u64 0, .int .u64 0, .int .u64 0, .int .u64 0, .int .u64 0, .int .u64 0, u], .agg #[.int .u8 K, .int .i64 p, .int .u64 (Ln.pl s 0), .int .u64 (Ln.pl s 1), .int .u64 (Ln.pl s 2), .int .u64 (Ln.pl s 3), .int .u64 (Ln.pl s 4), .int .u64 (Ln.pl s 5), .int .u64 (Ln.pl s 6), .int .u64 (Ln.pl s 7)]] W fun e w' => e = .returned (.int .i64 (if Ln.fitX (K, p, s) = true then 0 else 1)) ∧ Below W.heap.size W w' := by
  have h2 := CheckAction_spec 1 u (List.replicate 8 (1 : Sol)) (K, p, s) W (sls_ln h)
  rw [chk_ln] at h2
  simp only [pl_one0, pl_one1, pl_one2, pl_one3, pl_one4, pl_one5, pl_one6, pl_one7] at h2
  simp only [pl_ln]
  exact h2
theorem tab_ln {W : World} (h : Ln.Tab W) : W.cell? ⟨5, 15, none⟩ = some (.int .u8 4) := h 15 (by omega)
theorem alive_ln {w : World} (h : Ln.Tab w) (W : World) (hb : Below w.heap.size w W) : Calls Tryz.prog 20 #[] W fun e w' => e = .returned (.bool true) ∧ Below W.heap.size W w' :=
  alive_spec W ((hb.cell (p := ⟨5, 15, none⟩) (block_lt_of_cell (tab_ln h))).trans (tab_ln h))
theorem contract (H : Type) (enc : TypeId × Value → H) (W : World) (base : Nat) (args : Array Value) (ds gs : List (DataW H)) (before : List MemPlace)
    (hval : ∀ (j : Nat) t v, Tryz.f18.params[j]? = some t → args[j]? = some v → Value.okWide Tryz.prog W .any base t v)
    (hW : DataW.Whole enc Tryz.prog Tryz.f18.params.toList Rows.traceLinesSpec.vars false W args.toList ds gs before) (hL : laidMetH Tryz.prog Rows.traceLinesRow.laid W) (hS : W.ShapedOpen Tryz.prog) :
    Calls Tryz.prog 18 args W fun e W' => ∃ v, e = .returned v ∧ Rows.traceLinesSpec.post enc Tryz.prog Tryz.f18 false true false false W args v W' := by
  have hW' := hW
  obtain ⟨p, q, hA0, hV, rfl, hfz, hnd⟩ := hW
  have hA : DataW.TrodAll enc Tryz.prog W 0 (fun _ => true) true Tryz.f18.params.toList args.toList ds p := hA0
  rw [Tryz.params18] at hA hval
  obtain ⟨v0, v1, d0, d1, p0, p1, rfl, rfl, rfl, h0, h1⟩ := trodAll_two hA
  obtain ⟨rfl, rfl⟩ := trodVars_none hV
  obtain ⟨a0, rfl⟩ := open_act (hval 0 46 v0 rfl rfl) h0
  obtain ⟨s1, rfl⟩ := Ln.open_text (hval 1 9 v1 rfl rfl) h1
  clear hA0
  simp only [List.append_nil] at hW'
  have hlt : ∀ x ∈ p0 ++ p1, x.block < W.heap.size := fun x hx => by simpa using hW'.lt x (by simpa using hx)
  have hwk := Ln.TraceLines_walk a0.1 a0.2.1 a0.2.2 s1 W (Ln.envX_of hL hS) (Ln.table7 hL) (alive_ln (Ln.table7 hL)) ck_ln
  rw [← act_ln a0] at hwk
  refine hwk.mono fun e W' ⟨he, hb⟩ => ?_
  subst he
  exact ⟨_, rfl, _, _, _, [], p0 ++ p1, [], hW', trodAll_mk1 (shut_bool Tryz.underlying4 _), trodAll_mk2 (Below.trod laidO (by kernel_rfl) (of_decide_eq_true (by kernel_rfl)) h0 hb (fun x hx => hlt x (by simp [hx]))) (Below.trod laidO (by kernel_rfl) (of_decide_eq_true (by kernel_rfl)) h1 hb (fun x hx => hlt x (by simp [hx]))), rfl, hb.frame _, fun h => by cases h⟩
/-- a call for the witness -/
abbrev wargs : Array Value := #[.agg #[.int .u8 0, .int .i64 0, .int .u64 0, .int .u64 0, .int .u64 0, .int .u64 0, .int .u64 0, .int .u64 0, .int .u64 0, .int .u64 0], .string ⟨#[]⟩]
theorem reads (os : Os) {H : Type} (enc : TypeId × Value → H) : ∃ places, DataW.whole enc Tryz.prog ((Ln.laidWorld7 os).forCall (fun _ _ => 0) ⟨#[], wargs, []⟩).memory Tryz.f18.params.toList Rows.traceLinesSpec.vars false wargs.toList 8 = some ([.agg [.lit (.int .u8 0), .lit (.int .i64 0), .agg [.lit (.int .u64 0), .lit (.int .u64 0), .lit (.int .u64 0), .lit (.int .u64 0), .lit (.int .u64 0), .lit (.int .u64 0), .lit (.int .u64 0), .lit (.int .u64 0)]], .lit (.string [])], [], places) :=
  ⟨[], by kernel_rfl⟩
theorem lifted (os : Os) (started : os.Started) (H : Type) (enc : TypeId × Value → H) (F : Stop.Interp) :
    ReturnsInHanded {} Tryz.checked os 18 .any ((OpenSpec.ofChange Rows.traceLinesSpec).preRow enc Tryz.prog Tryz.f18 Rows.traceLinesRow.domain false Rows.traceLinesRow.laid) (((OpenSpec.ofChange Rows.traceLinesSpec).at F).post enc Tryz.prog Tryz.f18 false true false false) := by
  obtain ⟨places, hx⟩ := reads os enc
  refine returnsInHanded_of_row (C := Tryz.checked) (s := OpenSpec.ofChange Rows.traceLinesSpec) ownK started (by as_aux_lemma => kernel_rfl) Tryz.func18
    (witness_row_at (enc := enc) (C := Tryz.checked) false (Ln.laidWorld7 os) wargs rfl (by as_aux_lemma => kernel_rfl) (by as_aux_lemma => kernel_rfl) (by as_aux_lemma => kernel_rfl)
      (OpenSpec.preRow_of_cond 8 hx (by as_aux_lemma => kernel_rfl) (fun k hk => by cases hk) (by as_aux_lemma => kernel_rfl) (Ln.laid_met7 os _))) ?_
  intro W base args ds gs before hval hW _ _ _ hL hS _
  exact contract H enc W base args ds gs before hval hW hL hS
theorem fIn : (Rows.traceLinesRow.inPlace == Tryz.prog.inPlace 18) = true := by kernel_rfl
theorem fUn : (Rows.traceLinesRow.unfollowed == Tryz.prog.unfollowed 18) = true := by kernel_rfl
theorem fRe : (Rows.traceLinesRow.recurses == Tryz.prog.recurses 18) = true := by kernel_rfl
theorem fNa : (Rows.traceLinesRow.named == Tryz.prog.varsNamed 18) = true := by kernel_rfl
theorem facts : joinedFacts Tryz.prog 18 Tryz.f18 (OpenSpec.ofChange Rows.traceLinesSpec).bare Rows.traceLinesRow = true := by
  unfold joinedFacts
  repeat' with_reducible apply and_t
  all_goals first | with_reducible exact fIn | with_reducible exact fUn | with_reducible exact fRe | with_reducible exact fNa | with_reducible exact laidO | with_reducible exact gMaps | with_reducible exact gStops | with_reducible exact gKnobs | with_reducible exact gHeard | with_reducible exact gEnter | (as_aux_lemma => kernel_rfl)
theorem fNm : Tryz.prog.funcNamed "strickle/stricklelaw04.TraceLines" = some 18 := by kernel_rfl
theorem said : Rows.TraceLinesSaid :=
  OpenClaim.holds_of_cond 18 Tryz.f18 rfl rfl rfl rfl rfl rfl rfl ⟨rfl, rfl, rfl, rfl, rfl⟩ rfl rfl rfl rfl rfl fNm Tryz.func18 facts
    (of_decide_eq_true (by as_aux_lemma => kernel_rfl)) (by unfold Func.isWrapper; first | (rw [if_pos (by decide +kernel)]; kernel_rfl) | (rw [if_neg (by decide +kernel)]; exact ⟨rfl, rfl⟩))
    (fun os started H enc _ F => by rw [OpenClaim.pre_eq_preRow]; exact lifted os started H enc F)
theorem cWf : Rows.traceLinesRow.wfByText (OpenSpec.ofChange Rows.traceLinesSpec) = true := by kernel_rfl
theorem cGoes : false = Rows.traceLinesRow.goesBy Tryz.pinned.checked.prog := by kernel_rfl
theorem cLooks : true = Tryz.pinned.checked.prog.looks [] := by kernel_rfl
theorem plain (f : FuncId) (fn : Func) (hf : Tryz.pinned.checked.prog.funcNamed "strickle/stricklelaw04.TraceLines" = some f) (hfn : Tryz.pinned.checked.prog.funcs[f]? = some fn) :
    true = Tryz.pinned.checked.prog.looks [] ∧ ∀ (j : Nat) t, fn.params[j]? = some t → Tryz.pinned.checked.prog.wantsStandIn t = false := by
  obtain rfl : f = 18 := Option.some.inj (fNm.symm.trans hf) |>.symm
  obtain rfl : fn = Tryz.f18 := (Option.some.inj (Tryz.func18.symm.trans hfn)).symm
  refine ⟨cLooks, fun j t ht => ?_⟩
  rw [Tryz.params18] at ht
  have hm := Array.mem_of_getElem? ht
  simp only [List.mem_toArray, List.mem_cons, List.not_mem_nil, or_false] at hm
  rcases hm with rfl | rfl
  · exact (show Tryz.prog.wantsStandIn 46 = false by as_aux_lemma => kernel_rfl)
  · exact (show Tryz.prog.wantsStandIn 9 = false by as_aux_lemma => kernel_rfl)
theorem card : Rows.TraceLinesCardSaid :=
  Claim7.holds_tied_plain_at .later [] _ _ _ _ said (fun _ h => by cases h) cWf (fun _ h => by cases h) traceLines_row_tie rfl ⟨rfl, rfl⟩ cMain rfl plain cGoes
#print axioms card
end TraceLines
end Go.Proofs.YtccnkebkgegohaaGreatDoor
