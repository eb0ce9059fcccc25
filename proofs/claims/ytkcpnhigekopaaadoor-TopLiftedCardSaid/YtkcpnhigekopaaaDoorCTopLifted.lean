import Derived.Test.YtkcpnhigekopaaaDoorHT4
/-
  For every input that is opened, the statement TopLifted returns true and the input reads as before; with the contracts and laws that this wants. No conditions beyond the row.
-/
set_option linter.unusedVariables false
set_option linter.unusedSimpArgs false
set_option linter.unusedSectionVars false
section
namespace Go.Proofs.YtkcpnhigekopaaaDoor
open Go.ChangeShapes Go.WideShapes Go.ChangeAt Go.RowKit Go.Draw
set_option maxRecDepth 100000
set_option maxHeartbeats 4000000
namespace TopLifted
theorem contract (H : Type) (enc : TypeId × Value → H) (W : World) (base : Nat) (args : Array Value) (ds gs : List (DataW H)) (before : List MemPlace)
  (hval : ∀ (j : Nat) t v, Tryd.f3.params[j]? = some t → args[j]? = some v → Value.okWide Tryd.prog W .any base t v)
  (hW : DataW.Whole enc Tryd.prog Tryd.f3.params.toList Rows.topLiftedSpec.vars false W args.toList ds gs before) (hL : laidMetH Tryd.prog Rows.topLiftedRow.laid W) :
  Calls Tryd.prog 3 args W fun e W' => ∃ v, e = .returned v ∧ Rows.topLiftedSpec.post enc Tryd.prog Tryd.f3 false true false false W args v W' := by
 have hW' := hW
 obtain ⟨p, q, hA0, hV, rfl, hfz, hnd⟩ := hW
 have hA : DataW.TrodAll enc Tryd.prog W 0 (fun _ => true) true Tryd.f3.params.toList args.toList ds p := hA0
 rw [Tryd.params3] at hA hval
 obtain ⟨v0, v1, v2, v3, d0, d1, d2, d3, p0, p1, p2, p3, rfl, rfl, rfl, h0, h1, h2, h3⟩ := trodAll_four hA
 obtain ⟨rfl, rfl⟩ := trodVars_none hV
 obtain ⟨l0, S0⟩ := open_sols (hval 0 22 v0 rfl rfl) h0
 obtain ⟨l1, S1⟩ := open_mvs (hval 1 23 v1 rfl rfl) h1
 obtain ⟨n2, rfl, hn2⟩ := open_u8 (hval 2 5 v2 rfl rfl) h2
 obtain ⟨n3, rfl⟩ := open_i64 (hval 3 3 v3 rfl rfl) h3
 clear hA0
 simp only [List.append_nil] at hW'
 have hlt : ∀ x ∈ p0 ++ (p1 ++ (p2 ++ p3)), x.block < W.heap.size := fun x hx => by simpa using hW'.lt x (by simpa using hx)
 refine (TopLifted_walk hn2 S0 S1 (table hL)).mono fun e W' ⟨he, hb⟩ => ?_
 subst he
 exact ⟨_, rfl, _, _, _, [], p0 ++ (p1 ++ (p2 ++ p3)), [], hW', trodAll_mk1 (shut_bool Tryd.underlying4 _), trodAll_mk4 (Below.trod laidO (by kernel_rfl) (of_decide_eq_true (by kernel_rfl)) h0 hb (fun x hx => hlt x (by simp [hx]))) (Below.trod laidO (by kernel_rfl) (of_decide_eq_true (by kernel_rfl)) h1 hb (fun x hx => hlt x (by simp [hx]))) (Below.trod laidO (by kernel_rfl) (of_decide_eq_true (by kernel_rfl)) h2 hb (fun x hx => hlt x (by simp [hx]))) (Below.trod laidO (by kernel_rfl) (of_decide_eq_true (by kernel_rfl)) h3 hb (fun x hx => hlt x (by simp [hx]))), rfl, hb.frame _, fun h => by cases h⟩
/-- a call for the witness -/
abbrev wargs : Array Value := #[.slice none 0 0, .slice none 0 0, .int .u8 0, .int .i64 0]
theorem reads (os : Os) {H : Type} (enc : TypeId × Value → H) : ∃ places, DataW.whole enc Tryd.prog ((laidWorld os).forCall (fun _ _ => 0) ⟨#[], wargs, []⟩).memory Tryd.f3.params.toList Rows.topLiftedSpec.vars false wargs.toList 8 = some ([.nil, .nil, .lit (.int .u8 0), .lit (.int .i64 0)], [], places) :=
 ⟨[], by kernel_rfl⟩
theorem lifted (os : Os) (started : os.Started) (H : Type) (enc : TypeId × Value → H) (F : Stop.Interp) :
  ReturnsInHanded {} Tryd.checked os 3 .any ((OpenSpec.ofChange Rows.topLiftedSpec).preRow enc Tryd.prog Tryd.f3 Rows.topLiftedRow.domain false Rows.topLiftedRow.laid) (((OpenSpec.ofChange Rows.topLiftedSpec).at F).post enc Tryd.prog Tryd.f3 false true false false) := by
 obtain ⟨places, hx⟩ := reads os enc
 refine returnsInHanded_of_row (C := Tryd.checked) (s := OpenSpec.ofChange Rows.topLiftedSpec) ownK started (by as_aux_lemma => kernel_rfl) Tryd.func3
  (witness_row_at (enc := enc) (C := Tryd.checked) false (laidWorld os) wargs rfl (by as_aux_lemma => kernel_rfl) (by as_aux_lemma => kernel_rfl) (by as_aux_lemma => kernel_rfl)
   (OpenSpec.preRow_of_cond 8 hx (by as_aux_lemma => kernel_rfl) (fun k hk => by cases hk) (by as_aux_lemma => kernel_rfl) (laid_met os _))) ?_
 intro W base args ds gs before hval hW _ _ _ hL _ _
 exact contract H enc W base args ds gs before hval hW hL
theorem fIn : (Rows.topLiftedRow.inPlace == Tryd.prog.inPlace 3) = true := by kernel_rfl
theorem fUn : (Rows.topLiftedRow.unfollowed == Tryd.prog.unfollowed 3) = true := by kernel_rfl
theorem fRe : (Rows.topLiftedRow.recurses == Tryd.prog.recurses 3) = true := by kernel_rfl
theorem fNa : (Rows.topLiftedRow.named == Tryd.prog.varsNamed 3) = true := by kernel_rfl
theorem facts : joinedFacts Tryd.prog 3 Tryd.f3 (OpenSpec.ofChange Rows.topLiftedSpec).bare Rows.topLiftedRow = true := by
 unfold joinedFacts
 repeat' with_reducible apply and_t
 all_goals first | with_reducible exact fIn | with_reducible exact fUn | with_reducible exact fRe | with_reducible exact fNa | with_reducible exact laidO | with_reducible exact gMaps | with_reducible exact gStops | with_reducible exact gKnobs | with_reducible exact gHeard | with_reducible exact gEnter | (as_aux_lemma => kernel_rfl)
theorem fNm : Tryd.prog.funcNamed "strickle/strickletop.TopLifted" = some 3 := by kernel_rfl
theorem said : Rows.TopLiftedSaid :=
 OpenClaim.holds_of_cond 3 Tryd.f3 rfl rfl rfl rfl rfl rfl rfl ⟨rfl, rfl, rfl, rfl, rfl⟩ rfl rfl rfl rfl rfl fNm Tryd.func3 facts
  (of_decide_eq_true (by as_aux_lemma => kernel_rfl)) (by unfold Func.isWrapper; first | (rw [if_pos (by decide +kernel)]; kernel_rfl) | (rw [if_neg (by decide +kernel)]; exact ⟨rfl, rfl⟩))
  (fun os started H enc _ F => by rw [OpenClaim.pre_eq_preRow]; exact lifted os started H enc F)
theorem cWf : Rows.topLiftedRow.wfByText (OpenSpec.ofChange Rows.topLiftedSpec) = true := by kernel_rfl
theorem cGoes : false = Rows.topLiftedRow.goesBy Tryd.pinned.checked.prog := by kernel_rfl
theorem cLooks : false = Tryd.pinned.checked.prog.looks [] := by kernel_rfl
theorem plain (f : FuncId) (fn : Func) (hf : Tryd.pinned.checked.prog.funcNamed "strickle/strickletop.TopLifted" = some f) (hfn : Tryd.pinned.checked.prog.funcs[f]? = some fn) :
  false = Tryd.pinned.checked.prog.looks [] ∧ ∀ (j : Nat) t, fn.params[j]? = some t → Tryd.pinned.checked.prog.wantsStandIn t = false := by
 obtain rfl : f = 3 := Option.some.inj (fNm.symm.trans hf) |>.symm
 obtain rfl : fn = Tryd.f3 := (Option.some.inj (Tryd.func3.symm.trans hfn)).symm
 refine ⟨cLooks, fun j t ht => ?_⟩
 rw [Tryd.params3] at ht
 have hm := Array.mem_of_getElem? ht
 simp only [List.mem_toArray, List.mem_cons, List.not_mem_nil, or_false] at hm
 rcases hm with rfl | rfl | rfl | rfl
 ·exact (show Tryd.prog.wantsStandIn 22 = false by as_aux_lemma => kernel_rfl)
 ·exact (show Tryd.prog.wantsStandIn 23 = false by as_aux_lemma => kernel_rfl)
 ·exact (show Tryd.prog.wantsStandIn 5 = false by as_aux_lemma => kernel_rfl)
 ·exact (show Tryd.prog.wantsStandIn 3 = false by as_aux_lemma => kernel_rfl)
theorem card : Rows.TopLiftedCardSaid :=
 Claim7.holds_tied_plain_at .later [] _ _ _ _ said (fun _ h => by cases h) cWf (fun _ h => by cases h) topLifted_row_tie rfl ⟨rfl, rfl⟩ cMain rfl plain cGoes
#print axioms card
end TopLifted
end Go.Proofs.YtkcpnhigekopaaaDoor
end
