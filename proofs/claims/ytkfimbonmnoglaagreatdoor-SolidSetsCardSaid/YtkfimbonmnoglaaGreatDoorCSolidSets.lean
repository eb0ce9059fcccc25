import Derived.Test.YtkfimbonmnoglaaGreatDoorRSets32
import Derived.Deep.Cut
/-
  For every input that is opened, the statement SolidSets returns true and the input reads as before; with the contracts and laws that this wants. No conditions beyond the row.
-/
set_option linter.unusedVariables false
set_option linter.unusedSimpArgs false
set_option linter.unusedSectionVars false
section
namespace Go.Proofs.YtkfimbonmnoglaaGreatDoor
open Go.ChangeShapes Go.WideShapes Go.ChangeAt Go.RowKit Go.Draw Go.Solid
set_option maxRecDepth 100000
set_option maxHeartbeats 4000000
namespace SolidSets
theorem contract (H : Type) (enc : TypeId × Value → H) (W : World) (base : Nat) (args : Array Value) (ds gs : List (DataW H)) (before : List MemPlace)
  (hval : ∀ (j : Nat) t v, Tryz.f19.params[j]? = some t → args[j]? = some v → Value.okWide Tryz.prog W .any base t v)
  (hW : DataW.Whole enc Tryz.prog Tryz.f19.params.toList Rows.solidSetsSpec.vars false W args.toList ds gs before) (hL : laidMetH Tryz.prog Rows.solidSetsRow.laid W) (hS : W.ShapedOpen Tryz.prog) :
  Calls Tryz.prog 19 args W fun e W' => ∃ v, e = .returned v ∧ Rows.solidSetsSpec.post enc Tryz.prog Tryz.f19 false true false false W args v W' := by
 have hW' := hW
 obtain ⟨p, q, hA0, hV, rfl, hfz, hnd⟩ := hW
 have hA : DataW.TrodAll enc Tryz.prog W 0 (fun _ => true) true Tryz.f19.params.toList args.toList ds p := hA0
 rw [Tryz.params19] at hA hval
 obtain ⟨v0, v1, v2, v3, d0, d1, d2, d3, p0, p1, p2, p3, rfl, rfl, rfl, h0, h1, h2, h3⟩ := trodAll_four hA
 obtain ⟨rfl, rfl⟩ := trodVars_none hV
 obtain ⟨s0, rfl⟩ := open_sol (hval 0 26 v0 rfl rfl) h0
 obtain ⟨s1, rfl⟩ := open_sol (hval 1 26 v1 rfl rfl) h1
 obtain ⟨c2, rfl⟩ := open_cl (hval 2 60 v2 rfl rfl) h2
 obtain ⟨l3, S3⟩ := open_cls (hval 3 71 v3 rfl rfl) h3
 obtain ⟨⟨mx, hmx⟩, _⟩ := env_of hL hS
 clear hA0
 simp only [List.append_nil] at hW'
 have hlt : ∀ x ∈ p0 ++ (p1 ++ (p2 ++ p3)), x.block < W.heap.size := fun x hx => by simpa using hW'.lt x (by simpa using hx)
 refine (SolidSets_walk s0 s1 c2 S3 (table7 hL) (carved_up (table7 hL) hmx)).mono fun e W' ⟨he, hb⟩ => ?_
 subst he
 exact ⟨_, rfl, _, _, _, [], p0 ++ (p1 ++ (p2 ++ p3)), [], hW', trodAll_mk1 (shut_bool Tryz.underlying4 _), trodAll_mk4 (Below.trod laidO (by kernel_rfl) (of_decide_eq_true (by kernel_rfl)) h0 hb (fun x hx => hlt x (by simp [hx]))) (Below.trod laidO (by kernel_rfl) (of_decide_eq_true (by kernel_rfl)) h1 hb (fun x hx => hlt x (by simp [hx]))) (Below.trod laidO (by kernel_rfl) (of_decide_eq_true (by kernel_rfl)) h2 hb (fun x hx => hlt x (by simp [hx]))) (Below.trod laidO (by kernel_rfl) (of_decide_eq_true (by kernel_rfl)) h3 hb (fun x hx => hlt x (by simp [hx]))), rfl, hb.frame _, fun h => by cases h⟩
/-- a call for the witness -/
abbrev wargs : Array Value := #[.agg #[.int .u64 0, .int .u64 0, .int .u64 0, .int .u64 0, .int .u64 0, .int .u64 0, .int .u64 0, .int .u64 0], .agg #[.int .u64 0, .int .u64 0, .int .u64 0, .int .u64 0, .int .u64 0, .int .u64 0, .int .u64 0, .int .u64 0], .agg #[.int .i64 0, .int .i64 0, .int .i64 0], .slice none 0 0]
theorem reads (os : Os) {H : Type} (enc : TypeId × Value → H) : ∃ places, DataW.whole enc Tryz.prog ((laidWorld7 os).forCall (fun _ _ => 0) ⟨#[], wargs, []⟩).memory Tryz.f19.params.toList Rows.solidSetsSpec.vars false wargs.toList 8 = some ([.agg [.lit (.int .u64 0), .lit (.int .u64 0), .lit (.int .u64 0), .lit (.int .u64 0), .lit (.int .u64 0), .lit (.int .u64 0), .lit (.int .u64 0), .lit (.int .u64 0)], .agg [.lit (.int .u64 0), .lit (.int .u64 0), .lit (.int .u64 0), .lit (.int .u64 0), .lit (.int .u64 0), .lit (.int .u64 0), .lit (.int .u64 0), .lit (.int .u64 0)], .agg [.lit (.int .i64 0), .lit (.int .i64 0), .lit (.int .i64 0)], .nil], [], places) :=
 ⟨[], by kernel_rfl⟩
theorem lifted (os : Os) (started : os.Started) (H : Type) (enc : TypeId × Value → H) (F : Stop.Interp) :
  ReturnsInHanded {} Tryz.checked os 19 .any ((OpenSpec.ofChange Rows.solidSetsSpec).preRow enc Tryz.prog Tryz.f19 Rows.solidSetsRow.domain false Rows.solidSetsRow.laid) (((OpenSpec.ofChange Rows.solidSetsSpec).at F).post enc Tryz.prog Tryz.f19 false true false false) := by
 obtain ⟨places, hx⟩ := reads os enc
 refine returnsInHanded_of_row (C := Tryz.checked) (s := OpenSpec.ofChange Rows.solidSetsSpec) ownK started (by as_aux_lemma => kernel_rfl) Tryz.func19
  (witness_row_at (enc := enc) (C := Tryz.checked) false (laidWorld7 os) wargs rfl (by as_aux_lemma => kernel_rfl) (by as_aux_lemma => kernel_rfl) (by as_aux_lemma => kernel_rfl)
   (OpenSpec.preRow_of_cond 8 hx (by as_aux_lemma => kernel_rfl) (fun k hk => by cases hk) (by as_aux_lemma => kernel_rfl) (laid_met7 os _))) ?_
 intro W base args ds gs before hval hW _ _ _ hL hS _
 exact contract H enc W base args ds gs before hval hW hL hS
theorem fIn : (Rows.solidSetsRow.inPlace == Tryz.prog.inPlace 19) = true := by kernel_rfl
theorem fUn : (Rows.solidSetsRow.unfollowed == Tryz.prog.unfollowed 19) = true := by kernel_rfl
theorem fRe : (Rows.solidSetsRow.recurses == Tryz.prog.recurses 19) = true := by kernel_rfl
theorem fNa : (Rows.solidSetsRow.named == Tryz.prog.varsNamed 19) = true := by kernel_rfl
theorem facts : joinedFacts Tryz.prog 19 Tryz.f19 (OpenSpec.ofChange Rows.solidSetsSpec).bare Rows.solidSetsRow = true := by
 unfold joinedFacts
 repeat' with_reducible apply and_t
 all_goals first | with_reducible exact fIn | with_reducible exact fUn | with_reducible exact fRe | with_reducible exact fNa | with_reducible exact laidO | with_reducible exact gMaps | with_reducible exact gStops | with_reducible exact gKnobs | with_reducible exact gHeard | with_reducible exact gEnter | (as_aux_lemma => kernel_rfl)
theorem fNm : Tryz.prog.funcNamed "strickle/stricklelaw02.SolidSets" = some 19 := by kernel_rfl
theorem said : Rows.SolidSetsSaid :=
 OpenClaim.holds_of_cond 19 Tryz.f19 rfl rfl rfl rfl rfl rfl rfl ⟨rfl, rfl, rfl, rfl, rfl⟩ rfl rfl rfl rfl rfl fNm Tryz.func19 facts
  (of_decide_eq_true (by as_aux_lemma => kernel_rfl)) (by unfold Func.isWrapper; first | (rw [if_pos (by decide +kernel)]; kernel_rfl) | (rw [if_neg (by decide +kernel)]; exact ⟨rfl, rfl⟩))
  (fun os started H enc _ F => by rw [OpenClaim.pre_eq_preRow]; exact lifted os started H enc F)
theorem cWf : Rows.solidSetsRow.wfByText (OpenSpec.ofChange Rows.solidSetsSpec) = true := by kernel_rfl
theorem cGoes : false = Rows.solidSetsRow.goesBy Tryz.pinned.checked.prog := by kernel_rfl
theorem cLooks : true = Tryz.pinned.checked.prog.looks [] := by kernel_rfl
theorem plain (f : FuncId) (fn : Func) (hf : Tryz.pinned.checked.prog.funcNamed "strickle/stricklelaw02.SolidSets" = some f) (hfn : Tryz.pinned.checked.prog.funcs[f]? = some fn) :
  true = Tryz.pinned.checked.prog.looks [] ∧ ∀ (j : Nat) t, fn.params[j]? = some t → Tryz.pinned.checked.prog.wantsStandIn t = false := by
 obtain rfl : f = 19 := Option.some.inj (fNm.symm.trans hf) |>.symm
 obtain rfl : fn = Tryz.f19 := (Option.some.inj (Tryz.func19.symm.trans hfn)).symm
 refine ⟨cLooks, fun j t ht => ?_⟩
 rw [Tryz.params19] at ht
 have hm := Array.mem_of_getElem? ht
 simp only [List.mem_toArray, List.mem_cons, List.not_mem_nil, or_false] at hm
 rcases hm with rfl | rfl | rfl | rfl
 ·exact (show Tryz.prog.wantsStandIn 26 = false by as_aux_lemma => kernel_rfl)
 ·exact (show Tryz.prog.wantsStandIn 26 = false by as_aux_lemma => kernel_rfl)
 ·exact (show Tryz.prog.wantsStandIn 60 = false by as_aux_lemma => kernel_rfl)
 ·exact (show Tryz.prog.wantsStandIn 71 = false by as_aux_lemma => kernel_rfl)
theorem card : Rows.SolidSetsCardSaid :=
 Claim7.holds_tied_plain_at .later [] _ _ _ _ said (fun _ h => by cases h) cWf (fun _ h => by cases h) solidSets_row_tie rfl ⟨rfl, rfl⟩ cMain rfl plain cGoes
#print axioms card
end SolidSets
end Go.Proofs.YtkfimbonmnoglaaGreatDoor
end
