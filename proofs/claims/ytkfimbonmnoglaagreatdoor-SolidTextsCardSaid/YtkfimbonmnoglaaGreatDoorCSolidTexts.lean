import Derived.Test.YtkfimbonmnoglaaGreatDoorRTexts31
import Derived.Deep.Cut
/-
  For every input that is opened, the statement SolidTexts returns true and the input reads as before; with the contracts and laws that this wants. No conditions beyond the row.
-/
set_option linter.unusedVariables false
set_option linter.unusedSimpArgs false
set_option linter.unusedSectionVars false
section
namespace Go.Proofs.YtkfimbonmnoglaaGreatDoor
open Go.ChangeShapes Go.WideShapes Go.ChangeAt Go.RowKit Go.Draw Go.Solid
set_option maxRecDepth 100000
set_option maxHeartbeats 4000000
namespace SolidTexts
theorem contract (H : Type) (enc : TypeId × Value → H) (W : World) (base : Nat) (args : Array Value) (ds gs : List (DataW H)) (before : List MemPlace)
  (hval : ∀ (j : Nat) t v, Tryz.f6.params[j]? = some t → args[j]? = some v → Value.okWide Tryz.prog W .any base t v)
  (hW : DataW.Whole enc Tryz.prog Tryz.f6.params.toList Rows.solidTextsSpec.vars false W args.toList ds gs before) (hL : laidMetH Tryz.prog Rows.solidTextsRow.laid W) (hS : W.ShapedOpen Tryz.prog) :
  Calls Tryz.prog 6 args W fun e W' => ∃ v, e = .returned v ∧ Rows.solidTextsSpec.post enc Tryz.prog Tryz.f6 false true false false W args v W' := by
 have hW' := hW
 obtain ⟨p, q, hA0, hV, rfl, hfz, hnd⟩ := hW
 have hA : DataW.TrodAll enc Tryz.prog W 0 (fun _ => true) true Tryz.f6.params.toList args.toList ds p := hA0
 rw [Tryz.params6] at hA hval
 obtain ⟨v0, v1, d0, d1, p0, p1, rfl, rfl, rfl, h0, h1⟩ := trodAll_two hA
 obtain ⟨rfl, rfl⟩ := trodVars_none hV
 obtain ⟨s0, rfl⟩ := open_sol (hval 0 26 v0 rfl rfl) h0
 obtain ⟨s1, rfl⟩ := open_bytes (hval 1 9 v1 rfl rfl) h1
 obtain ⟨⟨mx, hmx⟩, hE1, hE2⟩ := env_of hL hS
 clear hA0
 simp only [List.append_nil] at hW'
 have hlt : ∀ x ∈ p0 ++ p1, x.block < W.heap.size := fun x hx => by simpa using hW'.lt x (by simpa using hx)
 refine (SolidTexts_walk s0 ⟨s1.toArray⟩ W ⟨⟨mx, hmx⟩, hE1, hE2⟩ (table7 hL) (carved_up (table7 hL) hmx)).mono fun e W' ⟨he, hb⟩ => ?_
 subst he
 exact ⟨_, rfl, _, _, _, [], p0 ++ p1, [], hW', trodAll_mk1 (shut_bool Tryz.underlying4 _), trodAll_mk2 (Below.trod laidO (by kernel_rfl) (of_decide_eq_true (by kernel_rfl)) h0 hb (fun x hx => hlt x (by simp [hx]))) (Below.trod laidO (by kernel_rfl) (of_decide_eq_true (by kernel_rfl)) h1 hb (fun x hx => hlt x (by simp [hx]))), rfl, hb.frame _, fun h => by cases h⟩
/-- a call for the witness -/
abbrev wargs : Array Value := #[.agg #[.int .u64 0, .int .u64 0, .int .u64 0, .int .u64 0, .int .u64 0, .int .u64 0, .int .u64 0, .int .u64 0], .string ⟨#[]⟩]
theorem reads (os : Os) {H : Type} (enc : TypeId × Value → H) : ∃ places, DataW.whole enc Tryz.prog ((laidWorld7 os).forCall (fun _ _ => 0) ⟨#[], wargs, []⟩).memory Tryz.f6.params.toList Rows.solidTextsSpec.vars false wargs.toList 8 = some ([.agg [.lit (.int .u64 0), .lit (.int .u64 0), .lit (.int .u64 0), .lit (.int .u64 0), .lit (.int .u64 0), .lit (.int .u64 0), .lit (.int .u64 0), .lit (.int .u64 0)], .lit (.string [])], [], places) :=
 ⟨[], by kernel_rfl⟩
theorem lifted (os : Os) (started : os.Started) (H : Type) (enc : TypeId × Value → H) (F : Stop.Interp) :
  ReturnsInHanded {} Tryz.checked os 6 .any ((OpenSpec.ofChange Rows.solidTextsSpec).preRow enc Tryz.prog Tryz.f6 Rows.solidTextsRow.domain false Rows.solidTextsRow.laid) (((OpenSpec.ofChange Rows.solidTextsSpec).at F).post enc Tryz.prog Tryz.f6 false true false false) := by
 obtain ⟨places, hx⟩ := reads os enc
 refine returnsInHanded_of_row (C := Tryz.checked) (s := OpenSpec.ofChange Rows.solidTextsSpec) ownK started (by as_aux_lemma => kernel_rfl) Tryz.func6
  (witness_row_at (enc := enc) (C := Tryz.checked) false (laidWorld7 os) wargs rfl (by as_aux_lemma => kernel_rfl) (by as_aux_lemma => kernel_rfl) (by as_aux_lemma => kernel_rfl)
   (OpenSpec.preRow_of_cond 8 hx (by as_aux_lemma => kernel_rfl) (fun k hk => by cases hk) (by as_aux_lemma => kernel_rfl) (laid_met7 os _))) ?_
 intro W base args ds gs before hval hW _ _ _ hL hS _
 exact contract H enc W base args ds gs before hval hW hL hS
theorem fIn : (Rows.solidTextsRow.inPlace == Tryz.prog.inPlace 6) = true := by kernel_rfl
theorem fUn : (Rows.solidTextsRow.unfollowed == Tryz.prog.unfollowed 6) = true := by kernel_rfl
theorem fRe : (Rows.solidTextsRow.recurses == Tryz.prog.recurses 6) = true := by kernel_rfl
theorem fNa : (Rows.solidTextsRow.named == Tryz.prog.varsNamed 6) = true := by kernel_rfl
theorem facts : joinedFacts Tryz.prog 6 Tryz.f6 (OpenSpec.ofChange Rows.solidTextsSpec).bare Rows.solidTextsRow = true := by
 unfold joinedFacts
 repeat' with_reducible apply and_t
 all_goals first | with_reducible exact fIn | with_reducible exact fUn | with_reducible exact fRe | with_reducible exact fNa | with_reducible exact laidO | with_reducible exact gMaps | with_reducible exact gStops | with_reducible exact gKnobs | with_reducible exact gHeard | with_reducible exact gEnter | (as_aux_lemma => kernel_rfl)
theorem fNm : Tryz.prog.funcNamed "strickle/stricklelaw02.SolidTexts" = some 6 := by kernel_rfl
theorem said : Rows.SolidTextsSaid :=
 OpenClaim.holds_of_cond 6 Tryz.f6 rfl rfl rfl rfl rfl rfl rfl ⟨rfl, rfl, rfl, rfl, rfl⟩ rfl rfl rfl rfl rfl fNm Tryz.func6 facts
  (of_decide_eq_true (by as_aux_lemma => kernel_rfl)) (by unfold Func.isWrapper; first | (rw [if_pos (by decide +kernel)]; kernel_rfl) | (rw [if_neg (by decide +kernel)]; exact ⟨rfl, rfl⟩))
  (fun os started H enc _ F => by rw [OpenClaim.pre_eq_preRow]; exact lifted os started H enc F)
theorem cWf : Rows.solidTextsRow.wfByText (OpenSpec.ofChange Rows.solidTextsSpec) = true := by kernel_rfl
theorem cGoes : false = Rows.solidTextsRow.goesBy Tryz.pinned.checked.prog := by kernel_rfl
theorem cLooks : true = Tryz.pinned.checked.prog.looks [] := by kernel_rfl
theorem plain (f : FuncId) (fn : Func) (hf : Tryz.pinned.checked.prog.funcNamed "strickle/stricklelaw02.SolidTexts" = some f) (hfn : Tryz.pinned.checked.prog.funcs[f]? = some fn) :
  true = Tryz.pinned.checked.prog.looks [] ∧ ∀ (j : Nat) t, fn.params[j]? = some t → Tryz.pinned.checked.prog.wantsStandIn t = false := by
 obtain rfl : f = 6 := Option.some.inj (fNm.symm.trans hf) |>.symm
 obtain rfl : fn = Tryz.f6 := (Option.some.inj (Tryz.func6.symm.trans hfn)).symm
 refine ⟨cLooks, fun j t ht => ?_⟩
 rw [Tryz.params6] at ht
 have hm := Array.mem_of_getElem? ht
 simp only [List.mem_toArray, List.mem_cons, List.not_mem_nil, or_false] at hm
 rcases hm with rfl | rfl
 ·exact (show Tryz.prog.wantsStandIn 26 = false by as_aux_lemma => kernel_rfl)
 ·exact (show Tryz.prog.wantsStandIn 9 = false by as_aux_lemma => kernel_rfl)
theorem card : Rows.SolidTextsCardSaid :=
 Claim7.holds_tied_plain_at .later [] _ _ _ _ said (fun _ h => by cases h) cWf (fun _ h => by cases h) solidTexts_row_tie rfl ⟨rfl, rfl⟩ cMain rfl plain cGoes
#print axioms card
end SolidTexts
end Go.Proofs.YtkfimbonmnoglaaGreatDoor
end
