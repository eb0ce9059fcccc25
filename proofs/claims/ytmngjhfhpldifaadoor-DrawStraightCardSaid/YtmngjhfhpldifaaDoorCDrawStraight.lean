import Derived.Test.YtmngjhfhpldifaaDoorHL10
/-
  For every input that is opened, the statement DrawStraight returns true and the input reads as before; with the contracts and laws that this wants. No conditions beyond the row.
-/
set_option linter.unusedVariables false
set_option linter.unusedSimpArgs false
set_option linter.unusedSectionVars false
section
namespace Go.Proofs.YtmngjhfhpldifaaDoor
open Go.ChangeShapes Go.WideShapes Go.ChangeAt Go.RowKit Go.Draw
set_option maxRecDepth 100000
set_option maxHeartbeats 4000000
namespace DrawStraight
theorem contract (H : Type) (enc : TypeId × Value → H) (W : World) (base : Nat) (args : Array Value) (ds gs : List (DataW H)) (before : List MemPlace)
  (hval : ∀ (j : Nat) t v, Tryd.f6.params[j]? = some t → args[j]? = some v → Value.okWide Tryd.prog W .any base t v)
  (hW : DataW.Whole enc Tryd.prog Tryd.f6.params.toList Rows.drawStraightSpec.vars false W args.toList ds gs before) (hL : laidMetH Tryd.prog Rows.drawStraightRow.laid W) :
  Calls Tryd.prog 6 args W fun e W' => ∃ v, e = .returned v ∧ Rows.drawStraightSpec.post enc Tryd.prog Tryd.f6 false true false false W args v W' := by
 have hW' := hW
 obtain ⟨p, q, hA0, hV, rfl, hfz, hnd⟩ := hW
 have hA : DataW.TrodAll enc Tryd.prog W 0 (fun _ => true) true Tryd.f6.params.toList args.toList ds p := hA0
 rw [Tryd.params6] at hA hval
 obtain ⟨v0, d0, rfl, rfl, h0⟩ := trodAll_one hA
 obtain ⟨rfl, rfl⟩ := trodVars_none hV
 obtain ⟨s0, rfl⟩ := open_sol (hval 0 41 v0 rfl rfl) h0
 clear hA0
 simp only [List.append_nil] at hW'
 have hlt : ∀ x ∈ p, x.block < W.heap.size := fun x hx => by simpa using hW'.lt x (by simpa using hx)
 refine (DrawStraight_walk  (table hL)).mono fun e W' ⟨he, hb⟩ => ?_
 subst he
 exact ⟨_, rfl, _, _, _, [], p, [], hW', trodAll_mk1 (shut_bool Tryd.underlying4 _), trodAll_mk1 (Below.trod laidO (by kernel_rfl) (of_decide_eq_true (by kernel_rfl)) h0 hb (fun x hx => hlt x (by simp [hx]))), rfl, hb.frame _, fun h => by cases h⟩
/-- a call for the witness -/
abbrev wargs : Array Value := #[.agg #[.int .u64 0, .int .u64 0, .int .u64 0, .int .u64 0, .int .u64 0, .int .u64 0, .int .u64 0, .int .u64 0]]
theorem reads (os : Os) {H : Type} (enc : TypeId × Value → H) : ∃ places, DataW.whole enc Tryd.prog ((laidWorld os).forCall (fun _ _ => 0) ⟨#[], wargs, []⟩).memory Tryd.f6.params.toList Rows.drawStraightSpec.vars false wargs.toList 8 = some ([.agg [.lit (.int .u64 0), .lit (.int .u64 0), .lit (.int .u64 0), .lit (.int .u64 0), .lit (.int .u64 0), .lit (.int .u64 0), .lit (.int .u64 0), .lit (.int .u64 0)]], [], places) :=
 ⟨[], by kernel_rfl⟩
theorem lifted (os : Os) (started : os.Started) (H : Type) (enc : TypeId × Value → H) (F : Stop.Interp) :
  ReturnsInHanded {} Tryd.checked os 6 .any ((OpenSpec.ofChange Rows.drawStraightSpec).preRow enc Tryd.prog Tryd.f6 Rows.drawStraightRow.domain false Rows.drawStraightRow.laid) (((OpenSpec.ofChange Rows.drawStraightSpec).at F).post enc Tryd.prog Tryd.f6 false true false false) := by
 obtain ⟨places, hx⟩ := reads os enc
 refine returnsInHanded_of_row (C := Tryd.checked) (s := OpenSpec.ofChange Rows.drawStraightSpec) ownK started (by as_aux_lemma => kernel_rfl) Tryd.func6
  (witness_row_at (enc := enc) (C := Tryd.checked) false (laidWorld os) wargs rfl (by as_aux_lemma => kernel_rfl) (by as_aux_lemma => kernel_rfl) (by as_aux_lemma => kernel_rfl)
   (OpenSpec.preRow_of_cond 8 hx (by as_aux_lemma => kernel_rfl) (fun k hk => by cases hk) (by as_aux_lemma => kernel_rfl) (laid_met os _))) ?_
 intro W base args ds gs before hval hW _ _ _ hL _ _
 exact contract H enc W base args ds gs before hval hW hL
theorem fIn : (Rows.drawStraightRow.inPlace == Tryd.prog.inPlace 6) = true := by kernel_rfl
theorem fUn : (Rows.drawStraightRow.unfollowed == Tryd.prog.unfollowed 6) = true := by kernel_rfl
theorem fRe : (Rows.drawStraightRow.recurses == Tryd.prog.recurses 6) = true := by kernel_rfl
theorem fNa : (Rows.drawStraightRow.named == Tryd.prog.varsNamed 6) = true := by kernel_rfl
theorem facts : joinedFacts Tryd.prog 6 Tryd.f6 (OpenSpec.ofChange Rows.drawStraightSpec).bare Rows.drawStraightRow = true := by
 unfold joinedFacts
 repeat' with_reducible apply and_t
 all_goals first | with_reducible exact fIn | with_reducible exact fUn | with_reducible exact fRe | with_reducible exact fNa | with_reducible exact laidO | with_reducible exact gMaps | with_reducible exact gStops | with_reducible exact gKnobs | with_reducible exact gHeard | with_reducible exact gEnter | (as_aux_lemma => kernel_rfl)
theorem fNm : Tryd.prog.funcNamed "strickle/stricklelaw03.DrawStraight" = some 6 := by kernel_rfl
theorem said : Rows.DrawStraightSaid :=
 OpenClaim.holds_of_cond 6 Tryd.f6 rfl rfl rfl rfl rfl rfl rfl ⟨rfl, rfl, rfl, rfl, rfl⟩ rfl rfl rfl rfl rfl fNm Tryd.func6 facts
  (of_decide_eq_true (by as_aux_lemma => kernel_rfl)) (by unfold Func.isWrapper; first | (rw [if_pos (by decide +kernel)]; kernel_rfl) | (rw [if_neg (by decide +kernel)]; exact ⟨rfl, rfl⟩))
  (fun os started H enc _ F => by rw [OpenClaim.pre_eq_preRow]; exact lifted os started H enc F)
theorem cWf : Rows.drawStraightRow.wfByText (OpenSpec.ofChange Rows.drawStraightSpec) = true := by kernel_rfl
theorem cGoes : false = Rows.drawStraightRow.goesBy Tryd.pinned.checked.prog := by kernel_rfl
theorem cLooks : false = Tryd.pinned.checked.prog.looks [] := by kernel_rfl
theorem plain (f : FuncId) (fn : Func) (hf : Tryd.pinned.checked.prog.funcNamed "strickle/stricklelaw03.DrawStraight" = some f) (hfn : Tryd.pinned.checked.prog.funcs[f]? = some fn) :
  false = Tryd.pinned.checked.prog.looks [] ∧ ∀ (j : Nat) t, fn.params[j]? = some t → Tryd.pinned.checked.prog.wantsStandIn t = false := by
 obtain rfl : f = 6 := Option.some.inj (fNm.symm.trans hf) |>.symm
 obtain rfl : fn = Tryd.f6 := (Option.some.inj (Tryd.func6.symm.trans hfn)).symm
 refine ⟨cLooks, fun j t ht => ?_⟩
 rw [Tryd.params6] at ht
 have hm := Array.mem_of_getElem? ht
 simp only [List.mem_toArray, List.mem_cons, List.not_mem_nil, or_false] at hm
 subst hm
 exact (show Tryd.prog.wantsStandIn 41 = false by as_aux_lemma => kernel_rfl)
theorem card : Rows.DrawStraightCardSaid :=
 Claim7.holds_tied_plain_at .later [] _ _ _ _ said (fun _ h => by cases h) cWf (fun _ h => by cases h) drawStraight_row_tie rfl ⟨rfl, rfl⟩ cMain rfl plain cGoes
#print axioms card
end DrawStraight
end Go.Proofs.YtmngjhfhpldifaaDoor
end
