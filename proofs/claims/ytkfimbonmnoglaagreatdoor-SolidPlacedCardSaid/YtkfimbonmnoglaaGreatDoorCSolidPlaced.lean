import Derived.Test.YtkfimbonmnoglaaGreatDoorRPlaced35
import Derived.Deep.Cut
import Derived.Laws.AppendOwn
/-
  For every input that is opened, the statement SolidPlaced returns true and the input reads as before; with the contracts and laws that this wants. No conditions beyond the row.
-/
set_option linter.unusedVariables false
set_option linter.unusedSimpArgs false
set_option linter.unusedSectionVars false
section
namespace Go.Proofs.YtkfimbonmnoglaaGreatDoor
open Go.ChangeShapes Go.WideShapes Go.ChangeAt Go.RowKit Go.Draw Go.Solid
set_option maxRecDepth 100000
set_option maxHeartbeats 4000000
namespace SolidPlaced
theorem contract (H : Type) (enc : TypeId × Value → H) (W : World) (base : Nat) (args : Array Value) (ds gs : List (DataW H)) (before : List MemPlace)
  (hval : ∀ (j : Nat) t v, Tryz.f16.params[j]? = some t → args[j]? = some v → Value.okWide Tryz.prog W .any base t v)
  (hW : DataW.Whole enc Tryz.prog Tryz.f16.params.toList Rows.solidPlacedSpec.vars false W args.toList ds gs before) (hL : laidMetH Tryz.prog Rows.solidPlacedRow.laid W) (hS : W.ShapedOpen Tryz.prog) :
  Calls Tryz.prog 16 args W fun e W' => ∃ v, e = .returned v ∧ Rows.solidPlacedSpec.post enc Tryz.prog Tryz.f16 false true false false W args v W' := by
 have hW' := hW
 obtain ⟨p, q, hA0, hV, rfl, hfz, hnd⟩ := hW
 have hA : DataW.TrodAll enc Tryz.prog W 0 (fun _ => true) true Tryz.f16.params.toList args.toList ds p := hA0
 rw [Tryz.params16] at hA hval
 obtain ⟨v0, v1, v2, d0, d1, d2, p0, p1, p2, rfl, rfl, rfl, h0, h1, h2⟩ := trodAll_three hA
 obtain ⟨rfl, rfl⟩ := trodVars_none hV
 obtain ⟨s0, rfl⟩ := open_sol (hval 0 26 v0 rfl rfl) h0
 obtain ⟨s1, rfl⟩ := open_sol (hval 1 26 v1 rfl rfl) h1
 obtain ⟨n2, c2, rfl⟩ := open_mo (hval 2 23 v2 rfl rfl) h2
 obtain ⟨⟨mx, hmx⟩, _⟩ := env_of hL hS
 clear hA0
 simp only [List.append_nil] at hW'
 have hlt : ∀ x ∈ p0 ++ (p1 ++ p2), x.block < W.heap.size := fun x hx => by simpa using hW'.lt x (by simpa using hx)
 refine (SolidPlaced_walk s0 s1 n2 c2 W (table7 hL) (carved_up (table7 hL) hmx)).mono fun e W' ⟨he, hb⟩ => ?_
 subst he
 exact ⟨_, rfl, _, _, _, [], p0 ++ (p1 ++ p2), [], hW', trodAll_mk1 (shut_bool Tryz.underlying4 _), trodAll_mk3 (Below.trod laidO (by kernel_rfl) (of_decide_eq_true (by kernel_rfl)) h0 hb (fun x hx => hlt x (by simp [hx]))) (Below.trod laidO (by kernel_rfl) (of_decide_eq_true (by kernel_rfl)) h1 hb (fun x hx => hlt x (by simp [hx]))) (Below.trod laidO (by kernel_rfl) (of_decide_eq_true (by kernel_rfl)) h2 hb (fun x hx => hlt x (by simp [hx]))), rfl, hb.frame _, fun h => by cases h⟩
/-- a call for the witness -/
abbrev wargs : Array Value := #[.agg #[.int .u64 0, .int .u64 0, .int .u64 0, .int .u64 0, .int .u64 0, .int .u64 0, .int .u64 0, .int .u64 0], .agg #[.int .u64 0, .int .u64 0, .int .u64 0, .int .u64 0, .int .u64 0, .int .u64 0, .int .u64 0, .int .u64 0], .agg #[.int .i64 0, .int .i64 0, .int .i64 0, .int .i64 0]]
theorem reads (os : Os) {H : Type} (enc : TypeId × Value → H) : ∃ places, DataW.whole enc Tryz.prog ((laidWorld7 os).forCall (fun _ _ => 0) ⟨#[], wargs, []⟩).memory Tryz.f16.params.toList Rows.solidPlacedSpec.vars false wargs.toList 8 = some ([.agg [.lit (.int .u64 0), .lit (.int .u64 0), .lit (.int .u64 0), .lit (.int .u64 0), .lit (.int .u64 0), .lit (.int .u64 0), .lit (.int .u64 0), .lit (.int .u64 0)], .agg [.lit (.int .u64 0), .lit (.int .u64 0), .lit (.int .u64 0), .lit (.int .u64 0), .lit (.int .u64 0), .lit (.int .u64 0), .lit (.int .u64 0), .lit (.int .u64 0)], .agg [.lit (.int .i64 0), .lit (.int .i64 0), .lit (.int .i64 0), .lit (.int .i64 0)]], [], places) :=
 ⟨[], by kernel_rfl⟩
theorem lifted (os : Os) (started : os.Started) (H : Type) (enc : TypeId × Value → H) (F : Stop.Interp) :
  ReturnsInHanded {} Tryz.checked os 16 .any ((OpenSpec.ofChange Rows.solidPlacedSpec).preRow enc Tryz.prog Tryz.f16 Rows.solidPlacedRow.domain false Rows.solidPlacedRow.laid) (((OpenSpec.ofChange Rows.solidPlacedSpec).at F).post enc Tryz.prog Tryz.f16 false true false false) := by
 obtain ⟨places, hx⟩ := reads os enc
 refine returnsInHanded_of_row (C := Tryz.checked) (s := OpenSpec.ofChange Rows.solidPlacedSpec) ownK started (by as_aux_lemma => kernel_rfl) Tryz.func16
  (witness_row_at (enc := enc) (C := Tryz.checked) false (laidWorld7 os) wargs rfl (by as_aux_lemma => kernel_rfl) (by as_aux_lemma => kernel_rfl) (by as_aux_lemma => kernel_rfl)
   (OpenSpec.preRow_of_cond 8 hx (by as_aux_lemma => kernel_rfl) (fun k hk => by cases hk) (by as_aux_lemma => kernel_rfl) (laid_met7 os _))) ?_
 intro W base args ds gs before hval hW _ _ _ hL hS _
 exact contract H enc W base args ds gs before hval hW hL hS
theorem fIn : (Rows.solidPlacedRow.inPlace == Tryz.prog.inPlace 16) = true := by kernel_rfl
theorem fUn : (Rows.solidPlacedRow.unfollowed == Tryz.prog.unfollowed 16) = true := by kernel_rfl
theorem fRe : (Rows.solidPlacedRow.recurses == Tryz.prog.recurses 16) = true := by kernel_rfl
theorem fNa : (Rows.solidPlacedRow.named == Tryz.prog.varsNamed 16) = true := by kernel_rfl
theorem facts : joinedFacts Tryz.prog 16 Tryz.f16 (OpenSpec.ofChange Rows.solidPlacedSpec).bare Rows.solidPlacedRow = true := by
 unfold joinedFacts
 repeat' with_reducible apply and_t
 all_goals first | with_reducible exact fIn | with_reducible exact fUn | with_reducible exact fRe | with_reducible exact fNa | with_reducible exact laidO | with_reducible exact gMaps | with_reducible exact gStops | with_reducible exact gKnobs | with_reducible exact gHeard | with_reducible exact gEnter | (as_aux_lemma => kernel_rfl)
theorem fNm : Tryz.prog.funcNamed "strickle/stricklelaw02.SolidPlaced" = some 16 := by kernel_rfl
theorem said : Rows.SolidPlacedSaid :=
 OpenClaim.holds_of_cond 16 Tryz.f16 rfl rfl rfl rfl rfl rfl rfl ⟨rfl, rfl, rfl, rfl, rfl⟩ rfl rfl rfl rfl rfl fNm Tryz.func16 facts
  (of_decide_eq_true (by as_aux_lemma => kernel_rfl)) (by unfold Func.isWrapper; first | (rw [if_pos (by decide +kernel)]; kernel_rfl) | (rw [if_neg (by decide +kernel)]; exact ⟨rfl, rfl⟩))
  (fun os started H enc _ F => by rw [OpenClaim.pre_eq_preRow]; exact lifted os started H enc F)
theorem cWf : Rows.solidPlacedRow.wfByText (OpenSpec.ofChange Rows.solidPlacedSpec) = true := by kernel_rfl
theorem cGoes : false = Rows.solidPlacedRow.goesBy Tryz.pinned.checked.prog := by kernel_rfl
theorem cLooks : true = Tryz.pinned.checked.prog.looks [] := by kernel_rfl
theorem plain (f : FuncId) (fn : Func) (hf : Tryz.pinned.checked.prog.funcNamed "strickle/stricklelaw02.SolidPlaced" = some f) (hfn : Tryz.pinned.checked.prog.funcs[f]? = some fn) :
  true = Tryz.pinned.checked.prog.looks [] ∧ ∀ (j : Nat) t, fn.params[j]? = some t → Tryz.pinned.checked.prog.wantsStandIn t = false := by
 obtain rfl : f = 16 := Option.some.inj (fNm.symm.trans hf) |>.symm
 obtain rfl : fn = Tryz.f16 := (Option.some.inj (Tryz.func16.symm.trans hfn)).symm
 refine ⟨cLooks, fun j t ht => ?_⟩
 rw [Tryz.params16] at ht
 have hm := Array.mem_of_getElem? ht
 simp only [List.mem_toArray, List.mem_cons, List.not_mem_nil, or_false] at hm
 rcases hm with rfl | rfl | rfl
 ·exact (show Tryz.prog.wantsStandIn 26 = false by as_aux_lemma => kernel_rfl)
 ·exact (show Tryz.prog.wantsStandIn 26 = false by as_aux_lemma => kernel_rfl)
 ·exact (show Tryz.prog.wantsStandIn 23 = false by as_aux_lemma => kernel_rfl)
theorem card : Rows.SolidPlacedCardSaid :=
 Claim7.holds_tied_plain_at .later [] _ _ _ _ said (fun _ h => by cases h) cWf (fun _ h => by cases h) solidPlaced_row_tie rfl ⟨rfl, rfl⟩ cMain rfl plain cGoes
#print axioms card
end SolidPlaced
end Go.Proofs.YtkfimbonmnoglaaGreatDoor
end
