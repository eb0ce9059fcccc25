import Derived.Test.YtccnkebkgegohaaGreatDoorG16
import Derived.RegionTactic
import Derived.ChangeAlike
/-
  Given contracts of functions of the program, and laws for them, one behind the other.
-/
set_option linter.unusedVariables false
set_option linter.unusedSimpArgs false
set_option linter.unusedSectionVars false
section
namespace Go.Proofs.YtccnkebkgegohaaGreatDoor
open Go.RowKit Go.Rel
set_option maxRecDepth 100000
set_option maxHeartbeats 4000000 in
theorem Needs_bad {blank : Sol} {v av : Value} {l : List Sol} {acts : List Ac} {x : Nat × Int} (h : begunM blank l acts = .inl x) (i : Int) (w : World) (Hv : SlS w v l) (Hav : SlA w av acts) :
    Calls Tryz.prog 50 #[.agg #[.int .u64 (pl blank 0), .int .u64 (pl blank 1), .int .u64 (pl blank 2), .int .u64 (pl blank 3), .int .u64 (pl blank 4), .int .u64 (pl blank 5), .int .u64 (pl blank 6), .int .u64 (pl blank 7), v, av], .int .i64 i] w fun e w' => e = .returned (.tuple #[.slice none 0 0, .int .i64 x.2]) ∧ Below w.heap.size w w' := by
  have H := Lib.hid fun w' (hb : Below w.heap.size w w') => acted_bad h i w' (Hv.mono hb) (Hav.mono hb)
  have hne := begunM_bad h
  clear h Hv Hav
  go_enter Tryz.func50, Tryz.ntmps50
  go_wp2_with fail
  refine (H.out _ bel_by).mono ?_
  rintro e w1 ⟨rfl, hb⟩
  have hB1 : Below w.heap.size w w1 := bel_trans bel_by hb
  go_wp2_with fail
  refine bodyPost_ret (by simp [results, Tryz.results50, go_sem]) rfl ⟨rfl, hB1⟩
set_option maxHeartbeats 4000000 in
theorem Needs_err {blank : Sol} {v av : Value} {l : List Sol} {acts : List Ac} {s : Stn} (h : begunM blank l acts = .inr s) (i : Int) (hi : i < 0 ∨ (acts.length : Int) ≤ i) (w : World) (Hv : SlS w v l) (Hav : SlA w av acts) :
    Calls Tryz.prog 50 #[.agg #[.int .u64 (pl blank 0), .int .u64 (pl blank 1), .int .u64 (pl blank 2), .int .u64 (pl blank 3), .int .u64 (pl blank 4), .int .u64 (pl blank 5), .int .u64 (pl blank 6), .int .u64 (pl blank 7), v, av], .int .i64 i] w fun e w' => e = .returned (.tuple #[.slice none 0 0, .int .i64 1]) ∧ Below w.heap.size w w' := by
  have H := Lib.hid fun w' (hb : Below w.heap.size w w') => acted_good h i w' (Hv.mono hb) (Hav.mono hb)
  have he : actedE acts.length i = 1 := by unfold actedE; rw [if_pos hi]
  rw [he] at H
  clear h Hv Hav he hi
  go_enter Tryz.func50, Tryz.ntmps50
  go_wp2_with fail
  refine (H.out _ bel_by).mono ?_
  rintro e w1 ⟨bp, rfl, hP, hb⟩
  have hB1 : Below w.heap.size w w1 := bel_trans bel_by hb
  go_wp2_with fail
  refine bodyPost_ret (by simp [results, Tryz.results50, go_sem]) rfl ⟨rfl, hB1⟩
set_option maxHeartbeats 4000000 in
theorem Needs_good {blank : Sol} {v av : Value} {l : List Sol} {acts : List Ac} {s : Stn} (h : begunM blank l acts = .inr s) (i : Nat) (hi : i < acts.length) (w : World) (Hv : SlS w v l) (Hav : SlA w av acts) :
    Calls Tryz.prog 50 #[.agg #[.int .u64 (pl blank 0), .int .u64 (pl blank 1), .int .u64 (pl blank 2), .int .u64 (pl blank 3), .int .u64 (pl blank 4), .int .u64 (pl blank 5), .int .u64 (pl blank 6), .int .u64 (pl blank 7), v, av], .int .i64 i] w fun e w' => ∃ u, e = .returned (.tuple #[u, .int .i64 0]) ∧ OwnI w' w.heap.size u (needsM (depN (cellsOf l acts)) i) ∧ Below w.heap.size w w' := by
  have H := Lib.hid fun w' (hb : Below w.heap.size w w') => acted_good h i w' (Hv.mono hb) (Hav.mono hb)
  have he : actedE acts.length i = 0 := by unfold actedE; rw [if_neg (by omega)]
  have hn := (begunM_good h).2.1
  rw [he] at H
  clear h Hv Hav he
  go_enter Tryz.func50, Tryz.ntmps50
  go_wp2_with fail
  refine (H.out _ bel_by).mono ?_
  rintro e w1 ⟨bp, rfl, hP, hb⟩
  have hB1 : Below w.heap.size w w1 := bel_trans bel_by hb
  have HN := Lib.hid (needs_spec w1 hP i hi hn); clear hP
  have hs := hb.size
  simp only [World.size_alloc] at hs
  go_wp2_with fail
  refine HN.out.mono ?_
  rintro e w2 ⟨u, rfl, hO, hb2⟩
  have HO := Lib.hid (And.intro hO (bel_trans hB1 hb2)); clear hO hb2
  go_wp2_with fail
  refine bodyPost_ret (by simp [results, Tryz.results50, go_sem]) rfl ⟨_, rfl, own_weak HO.out.1 (by omega), HO.out.2⟩
end Go.Proofs.YtccnkebkgegohaaGreatDoor
end
section
namespace Go.Proofs.YtccnkebkgegohaaGreatDoor
open Go.RowKit Go.Rel
set_option maxRecDepth 100000
/-- whether two acts are the fitting and the taking of one piece -/
def oppA (a b : Ac) : Bool := (a.2.1 == b.2.1) && ((decide (min a.1 b.1 = 2)) && decide (max a.1 b.1 = 3))
theorem oppA_iff {a b : Ac} : oppA a b = true ↔ a.2.1 = b.2.1 ∧ min a.1 b.1 = 2 ∧ max a.1 b.1 = 3 := by simp [oppA]
set_option maxHeartbeats 8000000 in
theorem opposite_spec {bp : Nat} {blank : Sol} {v av : Value} {l : List Sol} {acts : List Ac} {s : Stn} (w : World) (HP : PastAt bp blank v av l acts s w) (Ha : SlA w av acts) (i j : Nat) (x y : Ac) (hx : acts[i]? = some x) (hy : acts[j]? = some y) :
    Calls Tryz.prog 145 #[.pointer (some ⟨bp, 0, none⟩), .int .i64 i, .int .i64 j] w fun e w' => e = .returned (.bool (oppA x y)) ∧ Below w.heap.size w w' := by
  obtain ⟨dv, hpast, _⟩ := HP.past
  have cp := hpast.cell
  have lp := hpast.lt
  have hil : i < acts.length := (List.getElem?_eq_some_iff.1 hx).1
  have hjl : j < acts.length := (List.getElem?_eq_some_iff.1 hy).1
  rcases Ha.cases with ⟨h, _⟩ | ⟨b, off, ca, rfl, h2, h3, _, hcs⟩
  · have : acts = [] := by simpa using h
    subst this; simp at hil
  rw [List.length_map] at *
  have ci := ac_cells hcs hx
  have cj := ac_cells hcs hy
  have lb := hcs.1
  clear HP hpast Ha hcs hx hy
  generalize acts.length = n at *
  obtain ⟨a0, a1, a2, a3, a4, a5, a6, a7, a8, a9⟩ := ci
  obtain ⟨b0, b1, b2, b3, b4, b5, b6, b7, b8, b9⟩ := cj
  go_enter Tryz.func145, Tryz.ntmps145
  go_wp2_with fail
  go_region
  all_goals go_wp2_with fail
  all_goals clear cp a0 a1 a2 a3 a4 a5 a6 a7 a8 a9 b0 b1 b2 b3 b4 b5 b6 b7 b8 b9
  all_goals go_ret
  all_goals refine ⟨ret_bool ?_, ((((Below.refl _ _).drew.alloc (Nat.le_refl _) _).alloc (by simp) _))⟩
  all_goals (rw [Bool.eq_iff_iff, oppA_iff]; simp only [beq_iff_eq, Bool.false_eq_true]; first | omega | exact ⟨False.elim, fun hh => absurd hh (by omega)⟩)
end Go.Proofs.YtccnkebkgegohaaGreatDoor
end
section
namespace Go.Rel
open Go.RowKit
variable {P : Program}
/-- no statement here is a defer -/
def noDefer (l : List Oper) : Bool := l.all fun o => match o.op with | .defer _ => false | _ => true
theorem noDefer_get {l : List Oper} (h : noDefer l = true) {i : Nat} {o : Oper} (hi : l.toArray[i]? = some o) : ∀ c, o.op ≠ .defer c := by
  intro c hc
  have hm : o ∈ l := List.mem_of_getElem? (by simpa using hi)
  have := List.all_eq_true.1 h o hm
  simp [hc] at this
/-- only what goes on -/
def normalOnly (Q : Exit → Act → World → Prop) : Exit → Act → World → Prop
  | .normal, a, w => Q .normal a w
  | _, _, _ => False
theorem wpOpsIn_of_plain {l : List Oper} (hnd : noDefer l = true) {Q : Exit → Act → World → Prop} {r n : Nat} : ∀ (is : List Nat) (a : Act) (w : World), wpOps P l.toArray (normalOnly Q) is a w → wpOpsIn (Fence.wide.inRound r) n P l.toArray (normalOnly Q) is a w
  | [], a, w, h => h
  | i :: is, a, w, h => by
    simp only [wpOps] at h
    simp only [wpOpsIn]
    cases ho : l.toArray[i]? with
    | none =>
      simp only [ho] at h ⊢
      exact wpOpsIn_of_plain hnd is a w h
    | some o =>
      simp only [ho] at h ⊢
      split at h
      · next hw =>
        rw [if_pos hw]
        rcases h with h | ⟨_, h⟩
        · refine ⟨fun _ _ => trivial, ?_⟩
          rw [Oper.semAt_eq _ _ _ (noDefer_get hnd ho)]
          unfold Oper.wp at h
          revert h
          generalize (execOp a.eval o).run P w = x
          intro h
          unfold Oper.upon at h
          unfold Oper.uponIn
          split at h
          · exact wpOpsIn_of_plain hnd is _ _ h
          · exact wpOpsIn_of_plain hnd is _ _ h
          · exact wpOpsIn_of_plain hnd is _ _ h
          · refine ⟨fun h => (by cases h), CallsIn.inRound r (callsIn_wide.2 ?_)⟩
            refine Calls.mono h fun e w' he => ?_
            cases e with
            | returned v => exact wpOpsIn_of_plain hnd is _ _ he
            | panicked c => exact he
            | outgrown => obtain ⟨_, _, hf⟩ := he; exact hf.elim
          · refine ⟨fun h => (by cases h), fun c cs _ => ?_⟩
            obtain ⟨v, w', h1, h2⟩ := h c cs
            exact ⟨v, w', wpOpsIn_of_plain hnd is _ _ h1, stepsIn_wide.2 h2⟩
          · exact h
          · exact h.elim
        · obtain ⟨_, _, hf⟩ := h; exact hf.elim
      · next hw =>
        rw [if_neg hw]
        exact ⟨fun _ _ => trivial, wpOpsIn_of_plain hnd is _ _ h⟩
/-- a region that draws, in a round, by what holds of it outside one -/
theorem wpIn_of_any {id r n : Nat} {Q : Exit → Act → World → Prop} {a : Act} {w : World} {l : List Oper} (hnd : noDefer l = true) (hm : P.follows .mixedOrders = true)
    (h : wpAny P .any l.toArray (normalOnly Q) l.toArray.size (Array.replicate l.toArray.size false) a { w with drawn := w.drawn + 1 }) : (Code.region id l.toArray true).wpIn (Fence.wide.inRound r) n P Q a w := by
  refine wpIn_mono (Q := normalOnly Q) (wpIn_region_draw fun t => ?_) ?_
  · simp only [Region.schedule, hm, Bool.true_or, if_true]
    exact wpOpsIn_of_plain hnd _ _ _ (wpAny_sound l.toArray.size t _ a _ h)
  · intro e a' w' hq
    cases e with
    | normal => exact hq
    | _ => exact hq.elim
theorem wpIn_region_inv {id r n : Nat} {Q : Exit → Act → World → Prop} {a : Act} {w : World} {l : List Oper} (R : World → World → Prop) (I : (Nat → Bool) → World → Prop) (Vs : List (Value → World → Prop))
    (hnd : noDefer l = true) (hm : P.follows .mixedOrders = true) (hB : okI l.toArray = true) (hlen : Vs.length = l.length) (hrefl : ∀ w, R w w) (htrans : ∀ x y z, R x y → R y z → R x z)
    (hst : ∀ φ ∈ Vs, ∀ v w w', φ v w → R w w' → φ v w') (w0 : World) (h0 : R w0 w.drew) (hI : I (fun _ => false) w.drew)
    (h : wpInv P l.toArray R I w0 (fun a' w' => Q .normal a' w') l Vs 0 a (fun _ _ => True)) : (Code.region id l.toArray true).wpIn (Fence.wide.inRound r) n P Q a w := by
  refine wpIn_of_any hnd hm ?_
  have hL0 : listedL (Array.replicate l.toArray.size false) = fun _ => false := by
    funext j; unfold listedL; rw [getD_replicate_false]
  have hc : cnt l.length (Array.replicate l.toArray.size false) = l.length := by
    unfold cnt
    rw [List.filter_eq_self.2]
    · simp
    · intro j hj
      have hj' : j < l.length := List.mem_range.1 hj
      have := getD_in (listed := Array.replicate l.toArray.size false) (i := j) (by simpa using hj') (getD_replicate_false _ _)
      rw [this]; rfl
  have := any_of_inv (Q := normalOnly Q) (okI_of hB) hlen hrefl htrans hst h l.length _ a { w with drawn := w.drawn + 1 } (fun _ => undef)
    ⟨by simp, fun j oj _ hl => (by rw [getD_replicate_false] at hl; cases hl)⟩ hc ⟨rfl, rfl, fun t => by
    unfold slotI
    split
    · rw [hL0]; simp
    · rfl⟩ h0 (by rw [hL0]; exact hI) (fun j φ hl => by rw [getD_replicate_false] at hl; cases hl)
  simpa using this
end Go.Rel
end
