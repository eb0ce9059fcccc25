import Derived.Test.YtmngjhfhpldifaaDoorHL4
/-
  Given contracts of functions of the program, and laws for them, one behind the other.
-/
set_option linter.unusedVariables false
set_option linter.unusedSimpArgs false
set_option linter.unusedSectionVars false
section
namespace Go.Proofs.YtmngjhfhpldifaaDoor
open Go.ChangeShapes Go.WideShapes Go.ChangeAt Go.RowKit Go.Draw
set_option maxRecDepth 100000
set_option maxHeartbeats 4000000
namespace DrawUnions
theorem contract (H : Type) (enc : TypeId × Value → H) (W : World) (base : Nat) (args : Array Value) (ds gs : List (DataW H)) (before : List MemPlace)
  (hval : ∀ (j : Nat) t v, Tryd.f3.params[j]? = some t → args[j]? = some v → Value.okWide Tryd.prog W .any base t v)
  (hW : DataW.Whole enc Tryd.prog Tryd.f3.params.toList Rows.drawUnionsSpec.vars false W args.toList ds gs before) (hL : laidMetH Tryd.prog Rows.drawUnionsRow.laid W) :
  Calls Tryd.prog 3 args W fun e W' => ∃ v, e = .returned v ∧ Rows.drawUnionsSpec.post enc Tryd.prog Tryd.f3 false true false false W args v W' := by
 have hW' := hW
 obtain ⟨p, q, hA0, hV, rfl, hfz, hnd⟩ := hW
 have hA : DataW.TrodAll enc Tryd.prog W 0 (fun _ => true) true Tryd.f3.params.toList args.toList ds p := hA0
 rw [Tryd.params3] at hA hval
 obtain ⟨v0, v1, v2, d0, d1, d2, p0, p1, p2, rfl, rfl, rfl, h0, h1, h2⟩ := trodAll_three hA
 obtain ⟨rfl, rfl⟩ := trodVars_none hV
 obtain ⟨l0, S0⟩ := open_sols (hval 0 22 v0 rfl rfl) h0
 obtain ⟨l1, S1⟩ := open_is (hval 1 23 v1 rfl rfl) h1
 obtain ⟨l2, S2⟩ := open_is (hval 2 23 v2 rfl rfl) h2
 clear hA0
 simp only [List.append_nil] at hW'
 have hlt : ∀ x ∈ p0 ++ (p1 ++ p2), x.block < W.heap.size := fun x hx => by simpa using hW'.lt x (by simpa using hx)
 refine (DrawUnions_walk S0 S1 S2 (table hL)).mono fun e W' ⟨he, hb⟩ => ?_
 subst he
 exact ⟨_, rfl, _, _, _, [], p0 ++ (p1 ++ p2), [], hW', trodAll_mk1 (shut_bool Tryd.underlying4 _), trodAll_mk3 (Below.trod laidO (by kernel_rfl) (of_decide_eq_true (by kernel_rfl)) h0 hb (fun x hx => hlt x (by simp [hx]))) (Below.trod laidO (by kernel_rfl) (of_decide_eq_true (by kernel_rfl)) h1 hb (fun x hx => hlt x (by simp [hx]))) (Below.trod laidO (by kernel_rfl) (of_decide_eq_true (by kernel_rfl)) h2 hb (fun x hx => hlt x (by simp [hx]))), rfl, hb.frame _, fun h => by cases h⟩
/-- a call for the witness -/
abbrev wargs : Array Value := #[.slice none 0 0, .slice none 0 0, .slice none 0 0]
theorem reads (os : Os) {H : Type} (enc : TypeId × Value → H) : ∃ places, DataW.whole enc Tryd.prog ((laidWorld os).forCall (fun _ _ => 0) ⟨#[], wargs, []⟩).memory Tryd.f3.params.toList Rows.drawUnionsSpec.vars false wargs.toList 8 = some ([.nil, .nil, .nil], [], places) :=
 ⟨[], by kernel_rfl⟩
theorem lifted (os : Os) (started : os.Started) (H : Type) (enc : TypeId × Value → H) (F : Stop.Interp) :
  ReturnsInHanded {} Tryd.checked os 3 .any ((OpenSpec.ofChange Rows.drawUnionsSpec).preRow enc Tryd.prog Tryd.f3 Rows.drawUnionsRow.domain false Rows.drawUnionsRow.laid) (((OpenSpec.ofChange Rows.drawUnionsSpec).at F).post enc Tryd.prog Tryd.f3 false true false false) := by
 obtain ⟨places, hx⟩ := reads os enc
 refine returnsInHanded_of_row (C := Tryd.checked) (s := OpenSpec.ofChange Rows.drawUnionsSpec) ownK started (by as_aux_lemma => kernel_rfl) Tryd.func3
  (witness_row_at (enc := enc) (C := Tryd.checked) false (laidWorld os) wargs rfl (by as_aux_lemma => kernel_rfl) (by as_aux_lemma => kernel_rfl) (by as_aux_lemma => kernel_rfl)
   (OpenSpec.preRow_of_cond 8 hx (by as_aux_lemma => kernel_rfl) (fun k hk => by cases hk) (by as_aux_lemma => kernel_rfl) (laid_met os _))) ?_
 intro W base args ds gs before hval hW _ _ _ hL _ _
 exact contract H enc W base args ds gs before hval hW hL
theorem fIn : (Rows.drawUnionsRow.inPlace == Tryd.prog.inPlace 3) = true := by kernel_rfl
theorem fUn : (Rows.drawUnionsRow.unfollowed == Tryd.prog.unfollowed 3) = true := by kernel_rfl
theorem fRe : (Rows.drawUnionsRow.recurses == Tryd.prog.recurses 3) = true := by kernel_rfl
theorem fNa : (Rows.drawUnionsRow.named == Tryd.prog.varsNamed 3) = true := by kernel_rfl
theorem facts : joinedFacts Tryd.prog 3 Tryd.f3 (OpenSpec.ofChange Rows.drawUnionsSpec).bare Rows.drawUnionsRow = true := by
 unfold joinedFacts
 repeat' with_reducible apply and_t
 all_goals first | with_reducible exact fIn | with_reducible exact fUn | with_reducible exact fRe | with_reducible exact fNa | with_reducible exact laidO | with_reducible exact gMaps | with_reducible exact gStops | with_reducible exact gKnobs | with_reducible exact gHeard | with_reducible exact gEnter | (as_aux_lemma => kernel_rfl)
theorem fNm : Tryd.prog.funcNamed "strickle/stricklelaw03.DrawUnions" = some 3 := by kernel_rfl
theorem said : Rows.DrawUnionsSaid :=
 OpenClaim.holds_of_cond 3 Tryd.f3 rfl rfl rfl rfl rfl rfl rfl ⟨rfl, rfl, rfl, rfl, rfl⟩ rfl rfl rfl rfl rfl fNm Tryd.func3 facts
  (of_decide_eq_true (by as_aux_lemma => kernel_rfl)) (by unfold Func.isWrapper; first | (rw [if_pos (by decide +kernel)]; kernel_rfl) | (rw [if_neg (by decide +kernel)]; exact ⟨rfl, rfl⟩))
  (fun os started H enc _ F => by rw [OpenClaim.pre_eq_preRow]; exact lifted os started H enc F)
theorem cWf : Rows.drawUnionsRow.wfByText (OpenSpec.ofChange Rows.drawUnionsSpec) = true := by kernel_rfl
theorem cGoes : false = Rows.drawUnionsRow.goesBy Tryd.pinned.checked.prog := by kernel_rfl
theorem cLooks : false = Tryd.pinned.checked.prog.looks [] := by kernel_rfl
theorem plain (f : FuncId) (fn : Func) (hf : Tryd.pinned.checked.prog.funcNamed "strickle/stricklelaw03.DrawUnions" = some f) (hfn : Tryd.pinned.checked.prog.funcs[f]? = some fn) :
  false = Tryd.pinned.checked.prog.looks [] ∧ ∀ (j : Nat) t, fn.params[j]? = some t → Tryd.pinned.checked.prog.wantsStandIn t = false := by
 obtain rfl : f = 3 := Option.some.inj (fNm.symm.trans hf) |>.symm
 obtain rfl : fn = Tryd.f3 := (Option.some.inj (Tryd.func3.symm.trans hfn)).symm
 refine ⟨cLooks, fun j t ht => ?_⟩
 rw [Tryd.params3] at ht
 have hm := Array.mem_of_getElem? ht
 simp only [List.mem_toArray, List.mem_cons, List.not_mem_nil, or_false] at hm
 rcases hm with rfl | rfl | rfl
 ·exact (show Tryd.prog.wantsStandIn 22 = false by as_aux_lemma => kernel_rfl)
 ·exact (show Tryd.prog.wantsStandIn 23 = false by as_aux_lemma => kernel_rfl)
 ·exact (show Tryd.prog.wantsStandIn 23 = false by as_aux_lemma => kernel_rfl)
theorem card : Rows.DrawUnionsCardSaid :=
 Claim7.holds_tied_plain_at .later [] _ _ _ _ said (fun _ h => by cases h) cWf (fun _ h => by cases h) drawUnions_row_tie rfl ⟨rfl, rfl⟩ cMain rfl plain cGoes
#print axioms card
end DrawUnions
end Go.Proofs.YtmngjhfhpldifaaDoor
end
section
namespace Go.Proofs.YtmngjhfhpldifaaDoor
open Go.ChangeShapes Go.WideShapes Go.ChangeAt Go.RowKit Go.Draw
set_option maxRecDepth 100000
set_option maxHeartbeats 4000000
namespace DrawBefore
theorem contract (H : Type) (enc : TypeId × Value → H) (W : World) (base : Nat) (args : Array Value) (ds gs : List (DataW H)) (before : List MemPlace)
  (hval : ∀ (j : Nat) t v, Tryd.f4.params[j]? = some t → args[j]? = some v → Value.okWide Tryd.prog W .any base t v)
  (hW : DataW.Whole enc Tryd.prog Tryd.f4.params.toList Rows.drawBeforeSpec.vars false W args.toList ds gs before) (hL : laidMetH Tryd.prog Rows.drawBeforeRow.laid W) :
  Calls Tryd.prog 4 args W fun e W' => ∃ v, e = .returned v ∧ Rows.drawBeforeSpec.post enc Tryd.prog Tryd.f4 false true false false W args v W' := by
 have hW' := hW
 obtain ⟨p, q, hA0, hV, rfl, hfz, hnd⟩ := hW
 have hA : DataW.TrodAll enc Tryd.prog W 0 (fun _ => true) true Tryd.f4.params.toList args.toList ds p := hA0
 rw [Tryd.params4] at hA hval
 obtain ⟨v0, v1, d0, d1, p0, p1, rfl, rfl, rfl, h0, h1⟩ := trodAll_two hA
 obtain ⟨rfl, rfl⟩ := trodVars_none hV
 obtain ⟨l0, S0⟩ := open_sols (hval 0 22 v0 rfl rfl) h0
 obtain ⟨n1, rfl⟩ := open_i64 (hval 1 3 v1 rfl rfl) h1
 clear hA0
 simp only [List.append_nil] at hW'
 have hlt : ∀ x ∈ p0 ++ p1, x.block < W.heap.size := fun x hx => by simpa using hW'.lt x (by simpa using hx)
 refine (DrawBefore_walk S0 (table hL)).mono fun e W' ⟨he, hb⟩ => ?_
 subst he
 exact ⟨_, rfl, _, _, _, [], p0 ++ p1, [], hW', trodAll_mk1 (shut_bool Tryd.underlying4 _), trodAll_mk2 (Below.trod laidO (by kernel_rfl) (of_decide_eq_true (by kernel_rfl)) h0 hb (fun x hx => hlt x (by simp [hx]))) (Below.trod laidO (by kernel_rfl) (of_decide_eq_true (by kernel_rfl)) h1 hb (fun x hx => hlt x (by simp [hx]))), rfl, hb.frame _, fun h => by cases h⟩
/-- a call for the witness -/
abbrev wargs : Array Value := #[.slice none 0 0, .int .i64 0]
theorem reads (os : Os) {H : Type} (enc : TypeId × Value → H) : ∃ places, DataW.whole enc Tryd.prog ((laidWorld os).forCall (fun _ _ => 0) ⟨#[], wargs, []⟩).memory Tryd.f4.params.toList Rows.drawBeforeSpec.vars false wargs.toList 8 = some ([.nil, .lit (.int .i64 0)], [], places) :=
 ⟨[], by kernel_rfl⟩
theorem lifted (os : Os) (started : os.Started) (H : Type) (enc : TypeId × Value → H) (F : Stop.Interp) :
  ReturnsInHanded {} Tryd.checked os 4 .any ((OpenSpec.ofChange Rows.drawBeforeSpec).preRow enc Tryd.prog Tryd.f4 Rows.drawBeforeRow.domain false Rows.drawBeforeRow.laid) (((OpenSpec.ofChange Rows.drawBeforeSpec).at F).post enc Tryd.prog Tryd.f4 false true false false) := by
 obtain ⟨places, hx⟩ := reads os enc
 refine returnsInHanded_of_row (C := Tryd.checked) (s := OpenSpec.ofChange Rows.drawBeforeSpec) ownK started (by as_aux_lemma => kernel_rfl) Tryd.func4
  (witness_row_at (enc := enc) (C := Tryd.checked) false (laidWorld os) wargs rfl (by as_aux_lemma => kernel_rfl) (by as_aux_lemma => kernel_rfl) (by as_aux_lemma => kernel_rfl)
   (OpenSpec.preRow_of_cond 8 hx (by as_aux_lemma => kernel_rfl) (fun k hk => by cases hk) (by as_aux_lemma => kernel_rfl) (laid_met os _))) ?_
 intro W base args ds gs before hval hW _ _ _ hL _ _
 exact contract H enc W base args ds gs before hval hW hL
theorem fIn : (Rows.drawBeforeRow.inPlace == Tryd.prog.inPlace 4) = true := by kernel_rfl
theorem fUn : (Rows.drawBeforeRow.unfollowed == Tryd.prog.unfollowed 4) = true := by kernel_rfl
theorem fRe : (Rows.drawBeforeRow.recurses == Tryd.prog.recurses 4) = true := by kernel_rfl
theorem fNa : (Rows.drawBeforeRow.named == Tryd.prog.varsNamed 4) = true := by kernel_rfl
theorem facts : joinedFacts Tryd.prog 4 Tryd.f4 (OpenSpec.ofChange Rows.drawBeforeSpec).bare Rows.drawBeforeRow = true := by
 unfold joinedFacts
 repeat' with_reducible apply and_t
 all_goals first | with_reducible exact fIn | with_reducible exact fUn | with_reducible exact fRe | with_reducible exact fNa | with_reducible exact laidO | with_reducible exact gMaps | with_reducible exact gStops | with_reducible exact gKnobs | with_reducible exact gHeard | with_reducible exact gEnter | (as_aux_lemma => kernel_rfl)
theorem fNm : Tryd.prog.funcNamed "strickle/stricklelaw03.DrawBefore" = some 4 := by kernel_rfl
theorem said : Rows.DrawBeforeSaid :=
 OpenClaim.holds_of_cond 4 Tryd.f4 rfl rfl rfl rfl rfl rfl rfl ⟨rfl, rfl, rfl, rfl, rfl⟩ rfl rfl rfl rfl rfl fNm Tryd.func4 facts
  (of_decide_eq_true (by as_aux_lemma => kernel_rfl)) (by unfold Func.isWrapper; first | (rw [if_pos (by decide +kernel)]; kernel_rfl) | (rw [if_neg (by decide +kernel)]; exact ⟨rfl, rfl⟩))
  (fun os started H enc _ F => by rw [OpenClaim.pre_eq_preRow]; exact lifted os started H enc F)
theorem cWf : Rows.drawBeforeRow.wfByText (OpenSpec.ofChange Rows.drawBeforeSpec) = true := by kernel_rfl
theorem cGoes : false = Rows.drawBeforeRow.goesBy Tryd.pinned.checked.prog := by kernel_rfl
theorem cLooks : false = Tryd.pinned.checked.prog.looks [] := by kernel_rfl
theorem plain (f : FuncId) (fn : Func) (hf : Tryd.pinned.checked.prog.funcNamed "strickle/stricklelaw03.DrawBefore" = some f) (hfn : Tryd.pinned.checked.prog.funcs[f]? = some fn) :
  false = Tryd.pinned.checked.prog.looks [] ∧ ∀ (j : Nat) t, fn.params[j]? = some t → Tryd.pinned.checked.prog.wantsStandIn t = false := by
 obtain rfl : f = 4 := Option.some.inj (fNm.symm.trans hf) |>.symm
 obtain rfl : fn = Tryd.f4 := (Option.some.inj (Tryd.func4.symm.trans hfn)).symm
 refine ⟨cLooks, fun j t ht => ?_⟩
 rw [Tryd.params4] at ht
 have hm := Array.mem_of_getElem? ht
 simp only [List.mem_toArray, List.mem_cons, List.not_mem_nil, or_false] at hm
 rcases hm with rfl | rfl
 ·exact (show Tryd.prog.wantsStandIn 22 = false by as_aux_lemma => kernel_rfl)
 ·exact (show Tryd.prog.wantsStandIn 3 = false by as_aux_lemma => kernel_rfl)
theorem card : Rows.DrawBeforeCardSaid :=
 Claim7.holds_tied_plain_at .later [] _ _ _ _ said (fun _ h => by cases h) cWf (fun _ h => by cases h) drawBefore_row_tie rfl ⟨rfl, rfl⟩ cMain rfl plain cGoes
#print axioms card
end DrawBefore
end Go.Proofs.YtmngjhfhpldifaaDoor
end
