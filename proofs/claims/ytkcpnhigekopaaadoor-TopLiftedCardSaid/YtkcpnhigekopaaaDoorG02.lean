import Derived.Test.YtkcpnhigekopaaaDoorG01
import Derived.RangeFuncNested
import Derived.RangeFuncBound
import Derived.RangeFuncCalls
import Derived.RangeFuncLeaves
import Derived.Shelf.Abstract
import Derived.Shelf.RegionOpen
import Derived.WalkKit
import Derived.OwnWalkIn
import Derived.TacticsInMore
import Derived.LoopNIn
import Derived.LoopIn
/-
  Given contracts of functions of the program, and laws for them, one behind the other.
-/
set_option linter.unusedVariables false
set_option linter.unusedSimpArgs false
set_option linter.unusedSectionVars false
section
namespace Go.Rel
open Go Go.RowKit
/-! A range over a function whose iterator writes cells of its own (K blocks, laid as it begins), and whose body writes the blocks of wr alone (beside new ones). -/
def KeepsBut (wr : Nat → Prop) (W W' : World) : Prop := W.heap.size ≤ W'.heap.size ∧ ∀ k, k < W.heap.size → ¬ wr k → W'.heap[k]? = W.heap[k]?
theorem KeepsBut.refl (wr : Nat → Prop) (W : World) : KeepsBut wr W W := ⟨Nat.le_refl _, fun _ _ _ => rfl⟩
theorem KeepsBut.trans {wr : Nat → Prop} {A B C : World} (h : KeepsBut wr A B) (k : KeepsBut wr B C) : KeepsBut wr A C :=
 ⟨Nat.le_trans h.1 k.1, fun i hi hn => (k.2 i (Nat.lt_of_lt_of_le hi h.1) hn).trans (h.2 i hi hn)⟩
theorem KeepsBut.gb {wr : Nat → Prop} {W W' : World} {row : Option Nat} (h : W.grownBy W' row) (hr : ∀ r, row = some r → wr r) : KeepsBut wr W W' :=
 ⟨h.size, fun k hk hn => h.block k hk (fun e => hn (hr k e.symm))⟩
theorem KeepsBut.bel {wr : Nat → Prop} {W W' : World} (h : Below W.heap.size W W') : KeepsBut wr W W' := ⟨h.size, fun k hk _ => h.block k hk⟩
theorem KeepsBut.alloc (wr : Nat → Prop) (W : World) (o : Obj) : KeepsBut wr W (W.alloc o) := .gb (World.grownBy_alloc W o none) (fun _ e => by cases e)
theorem KeepsBut.put {wr : Nat → Prop} {W : World} {l : Nat} (o : Obj) (hw : wr l) : KeepsBut wr W (W.putObj l o) := .gb (grownBy_putObj' W l o) (fun r e => by cases e; exact hw)
/-- what abides that blocks lo .. hi - 1 are turned, and new ones laid -/
def AbidesC {β : Type} (lo hi : Nat) (J : β → World → Prop) : Prop := ∀ s W W' row, J s W → W.grownBy W' row → (∀ r, row = some r → lo ≤ r ∧ r < hi) → J s W'
theorem AbidesC.put {β : Type} {lo hi : Nat} {J : β → World → Prop} (h : AbidesC lo hi J) {s : β} {W : World} {l : Nat} (o : Obj) (hs : J s W) (h1 : lo ≤ l) (h2 : l < hi) : J s (W.putObj l o) :=
 h s W _ (some l) hs (grownBy_putObj' W l o) (fun r e => by cases e; exact ⟨h1, h2⟩)
theorem AbidesC.alloc {β : Type} {lo hi : Nat} {J : β → World → Prop} (h : AbidesC lo hi J) {s : β} {W : World} (o : Obj) (hs : J s W) : J s (W.alloc o) :=
 h s W _ none hs (World.grownBy_alloc W o none) (fun r e => by cases e)
theorem AbidesC.bel {β : Type} {lo hi : Nat} {J : β → World → Prop} (h : AbidesC lo hi J) {s : β} {W W' : World} (hs : J s W) (hb : Below W.heap.size W W') : J s W' :=
 h s W _ none hs ⟨hb.os, hb.tape, hb.output, hb.size, fun k hk _ => hb.block k hk⟩ (fun r e => by cases e)
theorem AbidesC.and {β : Type} {lo hi : Nat} {I J : β → World → Prop} (h : AbidesC lo hi I) (k : AbidesC lo hi J) : AbidesC lo hi (fun s W => I s W ∧ J s W) :=
 fun s W W' row hs hg hr => ⟨h s W W' row hs.1 hg hr, k s W W' row hs.2 hg hr⟩
theorem AbidesC.pure {β : Type} (lo hi : Nat) (p : β → Prop) : AbidesC lo hi (fun s (_ : World) => p s) := fun _ _ _ _ hs _ _ => hs
/-- the contract of such an iterator, called in world W -/
def SeqC {α : Type} (F : Fence) (n : Nat) (P : Program) (g : Nat) (lb : Array Value) (encs : α → Array Value) (wr : Nat → Prop) (K : Nat) (S Sp : List α → Prop) (N : Nat) (W : World) : Prop :=
 ∀ (l : Nat) (J Jx : List α → World → Prop), AbidesC W.heap.size (W.heap.size + K) J → AbidesC W.heap.size (W.heap.size + K) Jx → (∀ r, W.heap.size ≤ r → r < W.heap.size + K → ¬ wr r) →
  (∀ pre x W1, J pre W1 → W.heap.size + K ≤ W1.heap.size → pre.length < N → YieldAt F (n - 1) P l (encs x) W1 fun e W' =>
   (e = .returned (.bool true) ∧ J (pre ++ [x]) W' ∧ KeepsBut wr W1 W') ∨ (e = .returned (.bool false) ∧ Jx (pre ++ [x]) W')) →
  J [] W →
  CallsIn F n P g (#[.func (.yield l) #[] #[]] ++ lb) W fun e W' => (∃ v, e = .returned v) ∧ ((∃ xs, S xs ∧ J xs W') ∨ (∃ pre, Sp pre ∧ Jx pre W'))
/-- how the body of a round may be left -/
def postC {α : Type} (wr : Nat → Prop) (I : List α → World → Prop) (Ix : Code → List α → World → Prop) (xs : List α) (W : World) : Exit → Act → World → Prop
 | .normal, _, W' => KeepsBut wr W W' ∧ I xs W'
 | .ret, _, W' => KeepsBut wr W W' ∧ Ix .ret xs W'
 | .exit id, _, W' => KeepsBut wr W W' ∧ Ix (.exit id) xs W'
 | .goto t, _, W' => KeepsBut wr W W' ∧ Ix (.goto t) xs W'
 | .panic _, _, _ => False
 | .outgrown, _, _ => False
variable {F : Fence} {n : Nat} {P : Program}
theorem wpIn_rangeFunc_C {α : Type} {g : Operand} {ps : Array Tmp} {assign body : Code} {Q : Exit → Act → World → Prop} {a : Act} {w : World}
  (hro : F.round = none) (h1 : 1 ≤ n) {gf : Nat} {lb : Array Value} (hg : a.eval g = .func (.func gf) #[] lb) (hFg : F.fn gf) (eg : ∀ args w, (callFunc gf args).run P w = .ok (.enter gf args) w)
  {encs : α → Array Value} {wr : Nat → Prop} (K : Nat) {S Sp : List α → Prop} {N : Nat} (hseq : ∀ W, Below w.heap.size w W → W.heap.size = w.heap.size + 1 + 1 → SeqC F (n - 1) P gf lb encs wr K S Sp N W)
  (hwr : ∀ r, w.heap.size ≤ r → r < w.heap.size + 1 + 1 + K → ¬ wr r) (hps : ∀ x, (encs x).size = ps.size)
  (I : List α → World → Prop) (Ix : Code → List α → World → Prop) (hI : AbidesC w.heap.size (w.heap.size + 1 + 1 + K) I) (hIx : ∀ c, AbidesC w.heap.size (w.heap.size + 1 + 1 + K) (Ix c)) (h0 : I [] w)
  (Ax : α → Act → World → Prop) (hAx : ∀ x a', AbidesC w.heap.size (w.heap.size + 1 + 1 + K) (fun (_ : Unit) W => Ax x a' W))
  (hassign : ∀ (l : Nat) (pre : List α) (x : α) (W : World) (Z : Act → World → Prop), I pre W → w.heap.size + 1 + 1 + K ≤ W.heap.size → (∀ a' W', KeepsBut wr W W' → I pre W' → Ax x a' W' → Z a' W') →
   assign.wpIn (F.inRound l) (n - 1 - 1) P (Exit.then Z (fun _ _ _ => False)) { tmps := (ps.zip (encs x)).foldl (fun t (p, v) => t.setIfInBounds p v) a.tmps, defers := [] } W)
  (hbody : ∀ (l : Nat) (pre : List α) (x : α) (a' : Act) (W : World), w.heap.size + 1 + 1 + K ≤ W.heap.size → I pre W → Ax x a' W → pre.length < N → body.wpIn (F.inRound l) (n - 1 - 1) P (postC wr I Ix (pre ++ [x]) W) a' W)
  (hdone : ∀ (D : Nat) (xs : List α) (W : World), D = w.heap.size → S xs → I xs W → W.heap[D]? = some (.deferred (some [])) → Q .normal { a with defers := { target := .collected D, args := #[] } :: a.defers } W)
  (hstop : ∀ (D : Nat) (c : Code) (pre : List α) (W : World), D = w.heap.size → Sp pre → Ix c pre W → W.heap[D]? = some (.deferred (some [])) → c.wpIn F n P Q { a with defers := { target := .collected D, args := #[] } :: a.defers } W) :
  (Code.rangeFunc g ps assign body).wpIn F n P Q a w := by
 refine wpIn_rangeFunc ?_
 intro fn hfn
 rw [hro]
 obtain ⟨rec, hrec⟩ : ∃ rec : LoopState → Option Code → Loop, rec = fun st pe => { state := st, pending := pe, fn, tmps := a.tmps, params := ps, assign, body, defers := w.heap.size } := ⟨_, rfl⟩
 obtain ⟨W1, hW1⟩ : ∃ W1, (w.alloc (.deferred (some []))).alloc (.loop (rec .ready none)) = W1 := ⟨_, rfl⟩
 have hs1 : W1.heap.size = w.heap.size + 1 + 1 := by rw [← hW1]; simp
 have hL1 : W1.heap[w.heap.size + 1]? = some (.loop (rec .ready none)) := by
  rw [← hW1]; have := World.alloc_heap_new (w.alloc (.deferred (some []))) (.loop (rec .ready none)); rwa [World.size_alloc] at this
 have hK1 : W1.heap[w.heap.size]? = some (.deferred (some [])) := by
  rw [← hW1]; exact (Below.heap_alloc _ _ _ (by simp)).trans (World.alloc_heap_new w _)
 have hI1 : I [] W1 := by rw [← hW1]; exact hI.alloc _ (hI.alloc _ h0)
 have hb1 : Below w.heap.size w W1 := by rw [← hW1]; exact (((Below.refl _ w).alloc (Nat.le_refl _) _).alloc (by simp) _)
 refine ⟨w.heap.size + 1, [{ target := .collected w.heap.size, args := #[] }], W1, { target := .fn (.func gf) lb, args := #[.func (.yield (w.heap.size + 1)) #[] #[]] }, W1, gf,
  #[.func (.yield (w.heap.size + 1)) #[] #[]] ++ lb, W1, ?_, ?_, ?_, ?_, fun _ => h1, ?_⟩
 ·rw [← hW1, hrec]; exact run_enterLoop_outer _ _ _ _ _
 ·simp only [resolve, hg]
  simp [go_sem]
 ·intro f' hf'; simp [Target.leads] at hf'; subst hf'; exact hFg
 ·simp [invoke, go_sem, eg]
 ·refine (hseq W1 hb1 hs1 (w.heap.size + 1)
   (fun pre W => I pre W ∧ W.heap[w.heap.size + 1]? = some (.loop (rec .ready none)) ∧ W.heap[w.heap.size]? = some (.deferred (some [])))
   (fun pre W => ∃ c, Ix c pre W ∧ W.heap[w.heap.size + 1]? = some (.loop (rec .done (some c))) ∧ W.heap[w.heap.size]? = some (.deferred (some [])))
   (fun s A B row hs hgr hr => ⟨hI s A B row hs.1 hgr (fun r e => by have := hr r e; omega), (hgr.block _ (Array.getElem?_eq_some_iff.1 hs.2.1).1 (fun e => by have := hr _ e.symm; omega)).trans hs.2.1, (hgr.block _ (Array.getElem?_eq_some_iff.1 hs.2.2).1 (fun e => by have := hr _ e.symm; omega)).trans hs.2.2⟩)
   (fun s A B row hs hgr hr => by
    obtain ⟨c, hc, hl, hk⟩ := hs
    exact ⟨c, hIx c s A B row hc hgr (fun r e => by have := hr r e; omega), (hgr.block _ (Array.getElem?_eq_some_iff.1 hl).1 (fun e => by have := hr _ e.symm; omega)).trans hl, (hgr.block _ (Array.getElem?_eq_some_iff.1 hk).1 (fun e => by have := hr _ e.symm; omega)).trans hk⟩)
   (fun r h1 h2 => hwr r (by omega) (by omega)) ?_ ⟨hI1, hL1, hK1⟩).mono ?_
  ·rintro pre x W ⟨hi, hl, hk⟩ hsz hlen
   have hy := run_yield (P := P) (args := encs x) hl (by rw [hrec]; exact hps x)
   rw [hrec] at hy
   refine ⟨fn, _, assign, body, hy, roundIn_of_wpIn hfn (hassign _ pre x W _ hi (by omega) ?_)⟩
   clear hy
   intro a' Wa hka hia hax
   have hla := (hka.2 _ (Array.getElem?_eq_some_iff.1 hl).1 (hwr _ (by omega) (by omega))).trans hl
   have hda := (hka.2 _ (Array.getElem?_eq_some_iff.1 hk).1 (hwr _ (by omega) (by omega))).trans hk
   have hlta : w.heap.size + 1 < Wa.heap.size := (Array.getElem?_eq_some_iff.1 hla).1
   refine ⟨_, run_beginRound hla (by rw [hrec]), ?_⟩
   obtain ⟨busy, hbusy⟩ : ∃ o : Obj, o = .loop { rec .ready none with state := .busy } := ⟨_, rfl⟩
   obtain ⟨Wb, hWb⟩ : ∃ Wb, Wb = Wa.putObj (w.heap.size + 1) (.loop { rec .ready none with state := .busy }) := ⟨_, rfl⟩
   have hlb : Wb.heap[w.heap.size + 1]? = some (.loop { rec .ready none with state := .busy }) := by rw [hWb]; exact World.putObj_heap_same hlta
   have hdb : Wb.heap[w.heap.size]? = some (.deferred (some [])) := by rw [hWb]; exact (World.putObj_heap_other (by omega)).trans hda
   have hib : I pre Wb := by rw [hWb]; exact hI.put _ hia (by omega) (by omega)
   have haxb : Ax x a' Wb := by rw [hWb]; exact (hAx x a').put (s := ()) _ hax (by omega) (by omega)
   have hszb : Wb.heap.size = Wa.heap.size := by rw [hWb]; simp [World.putObj]
   have hsame : ∀ k, k ≠ w.heap.size + 1 → Wb.heap[k]? = Wa.heap[k]? := fun k hk => by rw [hWb]; exact World.putObj_heap_other hk
   rw [← hWb]
   refine wpIn_mono (hbody _ pre x a' Wb (by have := hka.1; omega) hib haxb hlen) ?_
   have fin : ∀ (jump : Option Code) (W3 : World), KeepsBut wr Wb W3 →
     (Instr.endRound (w.heap.size + 1) jump).run P W3 = .ok (.bool jump.isNone) (W3.putObj (w.heap.size + 1) (.loop (rec (if jump.isNone then .ready else .done) jump))) ∧
     (W3.putObj (w.heap.size + 1) (.loop (rec (if jump.isNone then .ready else .done) jump))).heap[w.heap.size + 1]? = some (.loop (rec (if jump.isNone then .ready else .done) jump)) ∧
     (W3.putObj (w.heap.size + 1) (.loop (rec (if jump.isNone then .ready else .done) jump))).heap[w.heap.size]? = some (.deferred (some [])) := fun jump W3 hk3 => by
    have hl3 := (hk3.2 _ (Array.getElem?_eq_some_iff.1 hlb).1 (hwr _ (by omega) (by omega))).trans hlb
    have hd3 := (hk3.2 _ (Array.getElem?_eq_some_iff.1 hdb).1 (hwr _ (by omega) (by omega))).trans hdb
    have := run_endRound (P := P) jump hl3
    rw [hrec] at this ⊢
    exact ⟨this, World.putObj_heap_same (Array.getElem?_eq_some_iff.1 hl3).1, (World.putObj_heap_other (by omega)).trans hd3⟩
   rintro e a3 W3 hp
   cases e with
   | normal =>
    obtain ⟨hk3, hi3⟩ := hp
    obtain ⟨hr, hl4, hk4⟩ := fin none W3 hk3
    refine ⟨_, _, hr, .inl ⟨rfl, ⟨hI.put _ hi3 (by omega) (by omega), hl4, hk4⟩, ?_⟩⟩
    refine ⟨by simp [World.putObj]; have := hka.1; have := hk3.1; omega, fun k hk hn => ?_⟩
    have hka' := hka.2 k hk hn
    by_cases e : k = w.heap.size + 1
    ·subst e
     rw [hl4, hl]; rfl
    ·rw [World.putObj_heap_other e, hk3.2 k (by have := hka.1; omega) hn, hsame k e, hka']
   | ret =>
    obtain ⟨hk3, hi3⟩ := hp
    obtain ⟨hr, hl4, hk4⟩ := fin (some .ret) W3 hk3
    exact ⟨_, _, hr, .inr ⟨rfl, .ret, (hIx _).put _ hi3 (by omega) (by omega), hl4, hk4⟩⟩
   | exit id =>
    obtain ⟨hk3, hi3⟩ := hp
    obtain ⟨hr, hl4, hk4⟩ := fin (some (.exit id)) W3 hk3
    exact ⟨_, _, hr, .inr ⟨rfl, .exit id, (hIx _).put _ hi3 (by omega) (by omega), hl4, hk4⟩⟩
   | goto t =>
    obtain ⟨hk3, hi3⟩ := hp
    obtain ⟨hr, hl4, hk4⟩ := fin (some (.goto t)) W3 hk3
    exact ⟨_, _, hr, .inr ⟨rfl, .goto t, (hIx _).put _ hi3 (by omega) (by omega), hl4, hk4⟩⟩
   | panic ch => exact hp.elim
   | outgrown => exact hp.elim
  ·rintro e W2 ⟨⟨v, rfl⟩, (⟨xs, hS, hi, hl, hk⟩ | ⟨pre, hSp, c, hi, hl, hk⟩)⟩
   ·exact ⟨none, _, by have := run_endLoop (P := P) hl (by rw [hrec]; simp); rw [hrec] at this; exact this, hdone _ xs _ rfl hS (hI.put _ hi (by omega) (by omega)) ((World.putObj_heap_other (by omega)).trans hk)⟩
   ·exact ⟨some c, _, by have := run_endLoop (P := P) hl (by rw [hrec]; simp); rw [hrec] at this; exact this, hstop _ c pre _ rfl hSp ((hIx c).put _ hi (by omega) (by omega)) ((World.putObj_heap_other (by omega)).trans hk)⟩
end Go.Rel
end
section
namespace Go.Rel
open Go Go.RowKit
variable {P : Program}
/-- no statement here is a defer -/
def noDefer (l : List Oper) : Bool := l.all fun o => match o.op with | .defer _ => false | _ => true
theorem noDefer_get {l : List Oper} (h : noDefer l = true) {i : Nat} {o : Oper} (hi : l.toArray[i]? = some o) : ∀ c, o.op ≠ .defer c := by
 intro c hc
 have hm : o ∈ l := List.mem_of_getElem? (by simpa using hi)
 have := List.all_eq_true.1 h o hm
 simp [hc] at this
/-- only what goes on -/
def normalOnly (Q : Exit → Act → World → Prop) : Exit → Act → World → Prop
 | .normal, a, w => Q .normal a w
 | _, _, _ => False
theorem wpOpsIn_of_plain {l : List Oper} (hnd : noDefer l = true) {Q : Exit → Act → World → Prop} {r n : Nat} : ∀ (is : List Nat) (a : Act) (w : World), wpOps P l.toArray (normalOnly Q) is a w → wpOpsIn (Fence.wide.inRound r) n P l.toArray (normalOnly Q) is a w
 | [], a, w, h => h
 | i :: is, a, w, h => by
  simp only [wpOps] at h
  simp only [wpOpsIn]
  cases ho : l.toArray[i]? with
  | none =>
   simp only [ho] at h ⊢
   exact wpOpsIn_of_plain hnd is a w h
  | some o =>
   simp only [ho] at h ⊢
   split at h
   ·next hw =>
    rw [if_pos hw]
    rcases h with h | ⟨_, h⟩
    ·refine ⟨fun _ _ => trivial, ?_⟩
     rw [Oper.semAt_eq _ _ _ (noDefer_get hnd ho)]
     unfold Oper.wp at h
     revert h
     generalize (execOp a.eval o).run P w = x
     intro h
     unfold Oper.upon at h
     unfold Oper.uponIn
     split at h
     ·exact wpOpsIn_of_plain hnd is _ _ h
     ·exact wpOpsIn_of_plain hnd is _ _ h
     ·exact wpOpsIn_of_plain hnd is _ _ h
     ·refine ⟨fun h => (by cases h), CallsIn.inRound r (callsIn_wide.2 ?_)⟩
      refine Calls.mono h fun e w' he => ?_
      cases e with
      | returned v => exact wpOpsIn_of_plain hnd is _ _ he
      | panicked c => exact he
      | outgrown => obtain ⟨_, _, hf⟩ := he; exact hf.elim
     ·refine ⟨fun h => (by cases h), fun c cs _ => ?_⟩
      obtain ⟨v, w', h1, h2⟩ := h c cs
      exact ⟨v, w', wpOpsIn_of_plain hnd is _ _ h1, stepsIn_wide.2 h2⟩
     ·exact h
     ·exact h.elim
    ·obtain ⟨_, _, hf⟩ := h; exact hf.elim
   ·next hw =>
    rw [if_neg hw]
    exact ⟨fun _ _ => trivial, wpOpsIn_of_plain hnd is _ _ h⟩
/-- a region that draws, in a round, by what holds of it outside one -/
theorem wpIn_of_any {id r n : Nat} {Q : Exit → Act → World → Prop} {a : Act} {w : World} {l : List Oper} (hnd : noDefer l = true) (hm : P.follows .mixedOrders = true)
  (h : wpAny P .any l.toArray (normalOnly Q) l.toArray.size (Array.replicate l.toArray.size false) a { w with drawn := w.drawn + 1 }) : (Code.region id l.toArray true).wpIn (Fence.wide.inRound r) n P Q a w := by
 refine wpIn_mono (Q := normalOnly Q) (wpIn_region_draw fun t => ?_) ?_
 ·simp only [Region.schedule, hm, Bool.true_or, if_true]
  exact wpOpsIn_of_plain hnd _ _ _ (wpAny_sound l.toArray.size t _ a _ h)
 ·intro e a' w' hq
  cases e with
  | normal => exact hq
  | _ => exact hq.elim
theorem wpIn_region_inv {id r n : Nat} {Q : Exit → Act → World → Prop} {a : Act} {w : World} {l : List Oper} (R : World → World → Prop) (I : (Nat → Bool) → World → Prop) (Vs : List (Value → World → Prop))
  (hnd : noDefer l = true) (hm : P.follows .mixedOrders = true) (hB : okI l.toArray = true) (hlen : Vs.length = l.length) (hrefl : ∀ w, R w w) (htrans : ∀ x y z, R x y → R y z → R x z)
  (hst : ∀ φ ∈ Vs, ∀ v w w', φ v w → R w w' → φ v w') (w0 : World) (h0 : R w0 w.drew) (hI : I (fun _ => false) w.drew)
  (h : wpInv P l.toArray R I w0 (fun a' w' => Q .normal a' w') l Vs 0 a (fun _ _ => True)) : (Code.region id l.toArray true).wpIn (Fence.wide.inRound r) n P Q a w := by
 refine wpIn_of_any hnd hm ?_
 have hL0 : listedL (Array.replicate l.toArray.size false) = fun _ => false := by
  funext j; unfold listedL; rw [getD_replicate_false]
 have hc : cnt l.length (Array.replicate l.toArray.size false) = l.length := by
  unfold cnt
  rw [List.filter_eq_self.2]
  ·simp
  ·intro j hj
   have hj' : j < l.length := List.mem_range.1 hj
   have := getD_in (listed := Array.replicate l.toArray.size false) (i := j) (by simpa using hj') (getD_replicate_false _ _)
   rw [this]; rfl
 have := any_of_inv (Q := normalOnly Q) (okI_of hB) hlen hrefl htrans hst h l.length _ a { w with drawn := w.drawn + 1 } (fun _ => undef)
  ⟨by simp, fun j oj _ hl => (by rw [getD_replicate_false] at hl; cases hl)⟩ hc ⟨rfl, rfl, fun t => by
  unfold slotI
  split
  ·rw [hL0]; simp
  ·rfl⟩ h0 (by rw [hL0]; exact hI) (fun j φ hl => by rw [getD_replicate_false] at hl; cases hl)
 simpa using this
theorem wpIn_region_val {id r n : Nat} {Q : Exit → Act → World → Prop} {a : Act} {w : World} {l : List Oper} (R : World → World → Prop) (I : Knows) (Vs : List (Value → World → Prop))
  (hnd : noDefer l = true) (hm : P.follows .mixedOrders = true) (hB : okI l.toArray = true) (hlen : Vs.length = l.length) (hrefl : ∀ w, R w w) (htrans : ∀ x y z, R x y → R y z → R x z)
  (hst : ∀ φ ∈ Vs, ∀ v w w', φ v w → R w w' → φ v w') (w0 : World) (h0 : R w0 w.drew) (hI : I (fun _ => false) (fun _ => undef) w.drew)
  (h : wpVal P l.toArray R I w0 (fun a' w' => Q .normal a' w') l Vs 0 a (fun _ _ => True) (fun _ => undef)) : (Code.region id l.toArray true).wpIn (Fence.wide.inRound r) n P Q a w := by
 refine wpIn_of_any hnd hm ?_
 have hL0 : listedL (Array.replicate l.toArray.size false) = fun _ => false := by
  funext j; unfold listedL; rw [getD_replicate_false]
 have hc : cnt l.length (Array.replicate l.toArray.size false) = l.length := by
  unfold cnt
  rw [List.filter_eq_self.2]
  ·simp
  ·intro j hj
   have hj' : j < l.length := List.mem_range.1 hj
   have := getD_in (listed := Array.replicate l.toArray.size false) (i := j) (by simpa using hj') (getD_replicate_false _ _)
   rw [this]; rfl
 have := any_of_val (Q := normalOnly Q) (okI_of hB) hlen hrefl htrans hst _ h l.length _ a { w with drawn := w.drawn + 1 } (fun _ => undef)
  ⟨by simp, fun j oj _ hl => (by rw [getD_replicate_false] at hl; cases hl)⟩ hc ⟨rfl, rfl, fun t => by
  unfold slotI
  split
  ·rw [hL0]; simp
  ·rfl⟩ h0 (by rw [hL0]; exact hI) (fun j φ hl => by rw [getD_replicate_false] at hl; cases hl)
 simpa using this
end Go.Rel
end
section
namespace Go.Draw
/-! ### solids as 512 bits, sets of pieces as 64 bits -/
abbrev Sol := BitVec 512
abbrev U := BitVec 64
def plv (s : Sol) (k : Nat) : U := s.extractLsb' (64 * k) 64
def mkS (f : Nat → U) : Sol := (f 0).setWidth 512 ||| (f 1).setWidth 512 <<< 64 ||| (f 2).setWidth 512 <<< 128 ||| (f 3).setWidth 512 <<< 192 ||| (f 4).setWidth 512 <<< 256 ||| (f 5).setWidth 512 <<< 320 ||| (f 6).setWidth 512 <<< 384 ||| (f 7).setWidth 512 <<< 448
theorem sol_ext {s t : Sol} (h : ∀ k, k < 8 → plv s k = plv t k) : s = t := by
 apply BitVec.eq_of_getLsbD_eq
 intro i hi
 have := congrArg (fun v => v.getLsbD (i % 64)) (h (i / 64) (by omega))
 simp only [plv, BitVec.getLsbD_extractLsb'] at this
 have e : 64 * (i / 64) + i % 64 = i := by omega
 rw [e] at this
 simpa [show i % 64 < 64 by omega] using this
theorem plane_bit (x : U) (j k i : Nat) (hj : j < 8) (hk : k < 8) (hi : i < 64) : (x.setWidth 512 <<< (64 * j)).getLsbD (64 * k + i) = (decide (j = k) && x.getLsbD i) := by
 simp only [BitVec.getLsbD_shiftLeft, BitVec.getLsbD_setWidth]
 have h1 : 64 * k + i < 512 := by omega
 by_cases e : j = k
 ·subst e
  simp [h1, show i < 512 by omega]
 ·by_cases h : j < k
  ·have : x.getLsbD (64 * k + i - 64 * j) = false := BitVec.getLsbD_of_ge _ _ (by omega)
   simp [e, this]
  ·have : 64 * k + i < 64 * j := by omega
   simp [e, this]
theorem plv_mkS (f : Nat → U) (k : Nat) (hk : k < 8) : plv (mkS f) k = f k := by
 apply BitVec.eq_of_getLsbD_eq; intro i hi
 have h0 : (f 0).setWidth 512 = (f 0).setWidth 512 <<< (64 * 0) := by simp
 unfold mkS
 rw [h0]
 simp only [plv, BitVec.getLsbD_extractLsb', BitVec.getLsbD_or, hi, decide_true, Bool.true_and]
 rw [plane_bit _ 0 k i (by omega) hk hi, plane_bit _ 1 k i (by omega) hk hi, plane_bit _ 2 k i (by omega) hk hi, plane_bit _ 3 k i (by omega) hk hi, plane_bit _ 4 k i (by omega) hk hi, plane_bit _ 5 k i (by omega) hk hi, plane_bit _ 6 k i (by omega) hk hi, plane_bit _ 7 k i (by omega) hk hi]
 obtain rfl | rfl | rfl | rfl | rfl | rfl | rfl | rfl : k = 0 ∨ k = 1 ∨ k = 2 ∨ k = 3 ∨ k = 4 ∨ k = 5 ∨ k = 6 ∨ k = 7 := by omega
 all_goals simp
theorem plv_and (a b : Sol) (k : Nat) : plv (a &&& b) k = plv a k &&& plv b k := by
 apply BitVec.eq_of_getLsbD_eq; intro i hi; simp [plv]
 cases decide (i < 64) <;> simp
theorem plv_or (a b : Sol) (k : Nat) : plv (a ||| b) k = plv a k ||| plv b k := by
 apply BitVec.eq_of_getLsbD_eq; intro i hi; simp [plv]
 cases decide (i < 64) <;> simp
theorem plv_zero (k : Nat) : plv 0 k = 0 := by
 apply BitVec.eq_of_getLsbD_eq; intro i hi; simp [plv]
theorem plv_not (a : Sol) (k : Nat) (hk : k < 8) : plv (~~~a) k = ~~~(plv a k) := by
 apply BitVec.eq_of_getLsbD_eq; intro i hi; simp [plv, hi, show 64 * k + i < 512 by omega]
/-! ### moves of a body -/
def lowXP : U := 0x0101010101010101#64
def hiXP : U := 0x8080808080808080#64
def mapS (f : U → U) (b : Sol) : Sol := mkS fun k => f (plv b k)
def orP (f : U → U) (b : Sol) : U := f (plv b 0) ||| f (plv b 1) ||| f (plv b 2) ||| f (plv b 3) ||| f (plv b 4) ||| f (plv b 5) ||| f (plv b 6) ||| f (plv b 7)
def onP : Nat → U → U
 | 1, p => (p &&& ~~~hiXP) <<< 1
 | 2, p => p <<< 8
 | 3, p => (p &&& ~~~lowXP) >>> 1
 | _, p => p >>> 8
def offP : Nat → U → U
 | 1, p => p &&& hiXP
 | 2, p => p >>> 56
 | 3, p => p &&& lowXP
 | _, p => p &&& 0xff#64
def stepS (side : Nat) (b : Sol) : Sol := mapS (onP side) b
def inS (side : Nat) (b : Sol) : Bool := orP (offP side) b == 0
def upS (b : Sol) : Sol := mkS fun k => if k = 0 then 0 else plv b (k - 1)
def meets (b c : Sol) : Bool := b &&& c != 0
def upsL : Nat → Sol → List (Sol × Bool)
 | 0, _ => []
 | n + 1, b => if upS b = 0 then [] else (upS b, true) :: upsL n (upS b)
/-- where a piece stands on its way; false: it leaves the grid -/
def wayL (side : Nat) : Nat → Sol → List (Sol × Bool)
 | 0, b => upsL 8 b
 | far + 1, b => if inS side b then (stepS side b, true) :: wayL side far (stepS side b) else [(stepS side b, false)]
/-! ### a mould -/
def allS (m : List Sol) : Sol := m.foldl (· ||| ·) 0
def sandM (m : List Sol) : Sol := ~~~(allS m)
/-- 0: a mould; 3 and so on: what is wrong -/
def goodFrom : List Sol → Sol → Bool
 | [], _ => true
 | s :: m, a => !(s == 0 || meets s a) && goodFrom m (a ||| s)
def goodM (m : List Sol) : Bool := goodFrom m 0
abbrev Mv := Nat × Nat × Nat
def bit (i : Nat) : U := 1#64 <<< i
/-- of the first k pieces those that a body meets, but piece p -/
def meetF (m : List Sol) (p : Nat) (b : Sol) (acc : U) : Nat → U
 | 0 => acc
 | k + 1 => if k ≠ p ∧ meets b (m.getD k 0) = true then meetF m p b acc k ||| bit k else meetF m p b acc k
def inStep (m : List Sol) (p : Nat) (w : U × Bool) (y : Sol × Bool) : U × Bool := (meetF m p y.1 w.1 m.length, w.2 || !y.2 || meets y.1 (sandM m))
def inWayM (m : List Sol) (x : Mv) : U × Bool := (wayL x.2.1 x.2.2 (m.getD x.1 0)).foldl (inStep m x.1) (0, false)
def freeM (m : List Sol) (x : Mv) (gone : U) : Bool := !(inWayM m x).2 && (inWayM m x).1 &&& ~~~gone == 0
def movesL (p : Nat) : List Mv := (p, 0, 0) :: (List.range 28).map fun k => (p, k / 7 + 1, k % 7 + 1)
def goesM (m : List Sol) (p : Nat) (gone : U) : Option Mv := (movesL p).find? fun x => freeM m x gone
def readyF (m : List Sol) (gone : U) : Nat → U
 | 0 => 0
 | p + 1 => if (goesM m p gone).isSome && !gone.getLsbD p then readyF m gone p ||| bit p else readyF m gone p
def readyM (m : List Sol) (gone : U) : U := readyF m gone m.length
def listU (s : U) : List Nat := (List.range 64).filter fun i => s.getLsbD i
def allU (n : Nat) : U := bit n - 1
def nextM (m : List Sol) (gone : U) : List Nat → Option (Nat × Mv)
 | [] => none
 | p :: l => match goesM m p gone with
  | some x => some (p, x)
  | none => nextM m gone l
def orderF (m : List Sol) (set : U) : Nat → U → List Mv → Option (List Mv)
 | 0, _, _ => none
 | n + 1, gone, out => if gone = set then some out else match nextM m gone (listU (set &&& ~~~gone)) with
  | some (p, x) => orderF m set n (gone ||| bit p) (out ++ [x])
  | none => none
def orderM (m : List Sol) (set : U) : Option (List Mv) := orderF m set 13 0 []
def roundsF (m : List Sol) : Nat → U → List (List Nat) → List (List Nat) × U
 | 0, gone, out => (out, allU m.length &&& ~~~gone)
 | n + 1, gone, out => if readyM m gone = 0 then (out, allU m.length &&& ~~~gone) else roundsF m n (gone ||| readyM m gone) (out ++ [listU (readyM m gone)])
def roundsM (m : List Sol) : List (List Nat) × U := roundsF m 13 0 []
def locksM (m : List Sol) (set : U) : Bool := set != 0 && readyM m (allU m.length &&& ~~~set) == 0
def setsL : Nat → Nat → U → List U
 | 0, _, s => [s]
 | n + 1, k, s => setsL n (k + 1) (s ||| bit k) ++ setsL n (k + 1) s
def cmpN : List Nat → List Nat → Int
 | [], [] => 0
 | [], _ :: _ => -1
 | _ :: _, [] => 1
 | a :: l, b :: k => if a < b then -1 else if b < a then 1 else cmpN l k
def cmpU (a b : U) : Int := if (listU a).length < (listU b).length then -1 else if (listU b).length < (listU a).length then 1 else cmpN (listU a) (listU b)
def insU (a : U) : List U → List U
 | [] => [a]
 | b :: l => if cmpU a b ≤ 0 then a :: b :: l else b :: insU a l
def sortU (l : List U) : List U := l.foldr insU []
def leastLockM (m : List Sol) : Option U := (sortU ((setsL m.length 0 0).filter (locksM m))).head?
def firstM (m : List Sol) (set : U) : Bool := (orderM m set).isSome
def pathsM (m : List Sol) (p : Nat) : List U := (sortU ((setsL m.length 0 0).filter fun s => s.getLsbD p && firstM m s)).foldl (fun out s => if out.any (fun l => l &&& ~~~s == 0) then out else out ++ [s]) []
def needsU (m : List Sol) (p : Nat) : U := (pathsM m p).foldl (· &&& ·) (allU m.length &&& ~~~(bit p))
def lastM (m : List Sol) : List Nat := if firstM m (allU m.length) then (List.range m.length).filter fun p => firstM m (allU m.length &&& ~~~(bit p)) else []
def addWays (m : List Sol) (ways : List Nat) (set : Nat) : List Nat :=
 if ways.getD set 0 = 0 then ways else (listU (readyM m (BitVec.ofNat 64 set))).foldl (fun ws p => ws.set (set ||| 2 ^ p) (min (ws.getD (set ||| 2 ^ p) 0 + ways.getD set 0) 1000000000)) ways
def ordersM (m : List Sol) : Nat := ((List.range (2 ^ m.length - 1)).foldl (addWays m) ((List.replicate (2 ^ m.length) 0).set 0 1)).getD (2 ^ m.length - 1) 0
/-- whose the first cell of a body is at which something stands -/
def atCell (m : List Sol) (own : Nat) (gone : U) (k : Nat) : Option Int :=
 if (sandM m).getLsbD k then some (-1) else ((List.range m.length).find? fun i => i != own && !gone.getLsbD i && (m.getD i 0).getLsbD k).map Int.ofNat
def atM (m : List Sol) (own : Nat) (gone : U) (b : Sol) : Option (Int × Int) :=
 (List.range 512).findSome? fun k => if b.getLsbD k then (atCell m own gone k).map fun i => ((k : Int), i) else none
def holdsM (m : List Sol) (gone : U) (x : Mv) : Option (Int × Int) :=
 (wayL x.2.1 x.2.2 (m.getD x.1 0)).findSome? fun y => if y.2 then atM m x.1 gone y.1 else some (-1, -1)
/-! ### the chapter's examples -/
def rowS (z a b : Nat) : Sol := mkS fun k => if k = z then BitVec.ofNat 64 (2 ^ (b + 1) - 2 ^ a) else 0
def mA : List Sol := [rowS 5 2 4, rowS 6 2 4 ||| rowS 7 2 4, rowS 5 5 5]
def mR : List Sol := [rowS 7 2 2 ||| rowS 6 3 3, rowS 6 2 2 ||| rowS 7 3 3]
end Go.Draw
end
section
namespace Go.Draw
set_option maxRecDepth 10000
theorem mkS_bit (f : Nat → U) (k i : Nat) (hk : k < 8) (hi : i < 64) : (mkS f).getLsbD (64 * k + i) = (f k).getLsbD i := by
 have := congrArg (fun v => v.getLsbD i) (plv_mkS f k hk)
 simp only [plv, BitVec.getLsbD_extractLsb', hi, decide_true, Bool.true_and] at this
 exact this
theorem plv_bit (s : Sol) (k i : Nat) (hi : i < 64) : (plv s k).getLsbD i = s.getLsbD (64 * k + i) := by
 simp only [plv, BitVec.getLsbD_extractLsb', hi, decide_true, Bool.true_and]
def has (s : Sol) (x y z : Int) : Bool := decide (0 ≤ x ∧ x ≤ 7 ∧ 0 ≤ y ∧ y ≤ 7 ∧ 0 ≤ z ∧ z ≤ 7) && s.getLsbD (64 * z + 8 * y + x).toNat
theorem has_bit (s : Sol) (n : Nat) (hn : n < 512) : has s (n % 8 : Nat) (n / 8 % 8 : Nat) (n / 64 : Nat) = s.getLsbD n := by
 unfold has
 rw [decide_eq_true (by omega), Bool.true_and]
 congr 1
 omega
theorem hiX_bit : ∀ j, j < 64 → hiXP.getLsbD j = (j % 8 == 7) := by decide
theorem lowX_bit : ∀ j, j < 64 → lowXP.getLsbD j = (j % 8 == 0) := by decide
theorem lowY_bit : ∀ j, j < 64 → (0xff#64).getLsbD j = decide (j < 8) := by decide
theorem on1 (p : U) (i : Nat) (hi : i < 64) : (onP 1 p).getLsbD i = (decide (i % 8 ≠ 0) && p.getLsbD (i - 1)) := by
 rw [show onP 1 p = (p &&& ~~~hiXP) <<< 1 from rfl]
 rw [BitVec.getLsbD_shiftLeft, BitVec.getLsbD_and, BitVec.getLsbD_not, hiX_bit _ (by omega)]
 by_cases h : i % 8 = 0
 ·by_cases h0 : i < 1
  ·simp [h, h0]
  ·have : (i - 1) % 8 = 7 := by omega
   simp [h, this]
 ·have h1 : ¬ i < 1 := by omega
  have : (i - 1) % 8 ≠ 7 := by omega
  simp [h, h1, hi, this, show i - 1 < 64 by omega]
theorem on2 (p : U) (i : Nat) (hi : i < 64) : (onP 2 p).getLsbD i = (decide (8 ≤ i) && p.getLsbD (i - 8)) := by
 rw [show onP 2 p = p <<< 8 from rfl]
 rw [BitVec.getLsbD_shiftLeft]
 by_cases h : 8 ≤ i
 ·simp [hi, h, show ¬ i < 8 by omega]
 ·simp [hi, h, show i < 8 by omega]
theorem on3 (p : U) (i : Nat) (hi : i < 64) : (onP 3 p).getLsbD i = (decide (i % 8 ≠ 7) && p.getLsbD (i + 1)) := by
 rw [show onP 3 p = (p &&& ~~~lowXP) >>> 1 from rfl]
 rw [BitVec.getLsbD_ushiftRight, BitVec.getLsbD_and, BitVec.getLsbD_not, show 1 + i = i + 1 by omega]
 by_cases h : i = 63
 ·subst h; simp
 ·rw [lowX_bit _ (by omega)]
  by_cases h : i % 8 = 7
  ·have : (i + 1) % 8 = 0 := by omega
   simp [h, this]
  ·have : (i + 1) % 8 ≠ 0 := by omega
   simp [h, this, show i + 1 < 64 by omega]
theorem on4 (p : U) (i : Nat) : (onP 4 p).getLsbD i = p.getLsbD (i + 8) := by
 rw [show onP 4 p = p >>> 8 from rfl]
 rw [BitVec.getLsbD_ushiftRight, show 8 + i = i + 8 by omega]
theorem zero_bits (p : U) : p = 0 ↔ ∀ i, i < 64 → p.getLsbD i = false := by
 constructor
 ·rintro rfl i _; simp
 ·intro h
  apply BitVec.eq_of_getLsbD_eq
  intro i hi
  rw [h i hi]; simp
theorem off1 (p : U) : offP 1 p = 0 ↔ ∀ i, i < 64 → i % 8 = 7 → p.getLsbD i = false := by
 rw [show offP 1 p = p &&& hiXP from rfl, zero_bits]
 constructor
 ·intro h i hi h7
  have := h i hi
  rw [BitVec.getLsbD_and, hiX_bit _ hi] at this
  simpa [h7] using this
 ·intro h i hi
  rw [BitVec.getLsbD_and, hiX_bit _ hi]
  by_cases h7 : i % 8 = 7
  ·simp [h i hi h7]
  ·simp [h7]
theorem off2 (p : U) : offP 2 p = 0 ↔ ∀ i, i < 64 → 56 ≤ i → p.getLsbD i = false := by
 rw [show offP 2 p = p >>> 56 from rfl, zero_bits]
 constructor
 ·intro h i hi h7
  have := h (i - 56) (by omega)
  rw [BitVec.getLsbD_ushiftRight] at this
  rwa [show 56 + (i - 56) = i by omega] at this
 ·intro h i hi
  rw [BitVec.getLsbD_ushiftRight]
  by_cases h7 : 56 + i < 64
  ·exact h _ h7 (by omega)
  ·exact BitVec.getLsbD_of_ge _ _ (by omega)
theorem off3 (p : U) : offP 3 p = 0 ↔ ∀ i, i < 64 → i % 8 = 0 → p.getLsbD i = false := by
 rw [show offP 3 p = p &&& lowXP from rfl, zero_bits]
 constructor
 ·intro h i hi h7
  have := h i hi
  rw [BitVec.getLsbD_and, lowX_bit _ hi] at this
  simpa [h7] using this
 ·intro h i hi
  rw [BitVec.getLsbD_and, lowX_bit _ hi]
  by_cases h7 : i % 8 = 0
  ·simp [h i hi h7]
  ·simp [h7]
theorem off4 (p : U) : offP 4 p = 0 ↔ ∀ i, i < 64 → i < 8 → p.getLsbD i = false := by
 rw [show offP 4 p = p &&& 0xff#64 from rfl, zero_bits]
 constructor
 ·intro h i hi h7
  have := h i hi
  rw [BitVec.getLsbD_and, lowY_bit _ hi] at this
  simpa [h7] using this
 ·intro h i hi
  rw [BitVec.getLsbD_and, lowY_bit _ hi]
  by_cases h7 : i < 8
  ·simp [h i hi h7]
  ·simp [h7]
def dxS : Nat → Int | 1 => 1 | 3 => -1 | _ => 0
def dyS : Nat → Int | 2 => 1 | 4 => -1 | _ => 0
theorem or_zero (a b : U) : a ||| b = 0 ↔ a = 0 ∧ b = 0 := by
 constructor
 ·intro h
  constructor <;>
  ·rw [zero_bits]; intro i hi
   have := congrArg (fun v => v.getLsbD i) h
   simp at this
   have h2 := this
   simp [hi] at h2
   first | (simp [hi]; exact h2.1) | (simp [hi]; exact h2.2)
 ·rintro ⟨rfl, rfl⟩; simp
theorem inS_iff (side : Nat) (b : Sol) : inS side b = true ↔ ∀ k, k < 8 → offP side (plv b k) = 0 := by
 unfold inS orP
 rw [beq_iff_eq]
 simp only [or_zero]
 constructor
 ·rintro ⟨⟨⟨⟨⟨⟨⟨h0, h1⟩, h2⟩, h3⟩, h4⟩, h5⟩, h6⟩, h7⟩ k hk
  obtain rfl | rfl | rfl | rfl | rfl | rfl | rfl | rfl : k = 0 ∨ k = 1 ∨ k = 2 ∨ k = 3 ∨ k = 4 ∨ k = 5 ∨ k = 6 ∨ k = 7 := by omega
  all_goals assumption
 ·intro h
  have h0 := h 0 (by omega)
  have h1 := h 1 (by omega)
  have h2 := h 2 (by omega)
  have h3 := h 3 (by omega)
  have h4 := h 4 (by omega)
  have h5 := h 5 (by omega)
  have h6 := h 6 (by omega)
  have h7 := h 7 (by omega)
  clear h
  simp only [h0, h1, h2, h3, h4, h5, h6, h7, and_self]
/-- the cells of a body that has gone one cell further -/
theorem step_bit (side : Nat) (hs : 1 ≤ side ∧ side ≤ 4) (b : Sol) (n : Nat) (hn : n < 512) : (stepS side b).getLsbD n = has b ((n % 8 : Nat) - dxS side) ((n / 8 % 8 : Nat) - dyS side) (n / 64 : Nat) := by
 have e : n = 64 * (n / 64) + n % 64 := by omega
 have hk : n / 64 < 8 := by omega
 have hi : n % 64 < 64 := by omega
 have h8 : n % 64 % 8 = n % 8 := by omega
 have e0 : (stepS side b).getLsbD n = (onP side (plv b (n / 64))).getLsbD (n % 64) := by
  conv => lhs; rw [e]
  unfold stepS mapS
  rw [mkS_bit _ _ _ hk hi]
 rw [e0]
 unfold has
 obtain rfl | rfl | rfl | rfl : side = 1 ∨ side = 2 ∨ side = 3 ∨ side = 4 := by omega
 ·rw [on1 _ _ hi]
  simp only [dxS, dyS]
  by_cases h : n % 8 = 0
  ·rw [decide_eq_false (by omega : ¬ (n % 64 % 8 ≠ 0)), decide_eq_false (by omega)]; simp
  ·rw [decide_eq_true (by omega : n % 64 % 8 ≠ 0), decide_eq_true (by omega), Bool.true_and, Bool.true_and, plv_bit _ _ _ (by omega)]
   congr 1; omega
 ·rw [on2 _ _ hi]
  simp only [dxS, dyS]
  by_cases h : 8 ≤ n % 64
  ·rw [decide_eq_true h, decide_eq_true (by omega), Bool.true_and, Bool.true_and, plv_bit _ _ _ (by omega)]
   congr 1; omega
  ·rw [decide_eq_false h, decide_eq_false (by omega)]; simp
 ·rw [on3 _ _ hi]
  simp only [dxS, dyS]
  by_cases h : n % 8 = 7
  ·rw [decide_eq_false (by omega : ¬ (n % 64 % 8 ≠ 7)), decide_eq_false (by omega)]; simp
  ·rw [decide_eq_true (by omega : n % 64 % 8 ≠ 7), decide_eq_true (by omega), Bool.true_and, Bool.true_and, plv_bit _ _ _ (by omega)]
   congr 1; omega
 ·rw [on4]
  simp only [dxS, dyS]
  by_cases h : n % 64 + 8 < 64
  ·rw [decide_eq_true (by omega), Bool.true_and, plv_bit _ _ _ (by omega)]
   congr 1; omega
  ·rw [decide_eq_false (by omega), BitVec.getLsbD_of_ge _ _ (by omega)]; simp
/-- a body leaves the grid exactly if a cell does -/
theorem in_iff (side : Nat) (hs : 1 ≤ side ∧ side ≤ 4) (b : Sol) : inS side b = true ↔ ∀ n, n < 512 → b.getLsbD n = true → 0 ≤ ((n % 8 : Nat) : Int) + dxS side ∧ ((n % 8 : Nat) : Int) + dxS side ≤ 7 ∧ 0 ≤ ((n / 8 % 8 : Nat) : Int) + dyS side ∧ ((n / 8 % 8 : Nat) : Int) + dyS side ≤ 7 := by
 rw [inS_iff]
 have key : ∀ (q : Nat → Prop), (∀ k, k < 8 → ∀ i, i < 64 → q i → (plv b k).getLsbD i = false) ↔ ∀ n, n < 512 → b.getLsbD n = true → ¬ q (n % 64) := by
  intro q
  constructor
  ·intro h n hn hb hq
   have := h (n / 64) (by omega) (n % 64) (by omega) hq
   rw [plv_bit _ _ _ (by omega), show 64 * (n / 64) + n % 64 = n by omega, hb] at this
   cases this
  ·intro h k hk i hi hq
   rw [plv_bit _ _ _ hi]
   cases hb : b.getLsbD (64 * k + i)
   ·rfl
   ·exact absurd (show q ((64 * k + i) % 64) by rw [show (64 * k + i) % 64 = i by omega]; exact hq) (h _ (by omega) hb)
 obtain rfl | rfl | rfl | rfl : side = 1 ∨ side = 2 ∨ side = 3 ∨ side = 4 := by omega
 ·simp only [off1, key (fun i => i % 8 = 7), dxS, dyS]
  constructor
  ·intro h n hn hb; have := h n hn hb; omega
  ·intro h n hn hb; have := h n hn hb; omega
 ·simp only [off2, key (fun i => 56 ≤ i), dxS, dyS]
  constructor
  ·intro h n hn hb; have := h n hn hb; omega
  ·intro h n hn hb; have := h n hn hb; omega
 ·simp only [off3, key (fun i => i % 8 = 0), dxS, dyS]
  constructor
  ·intro h n hn hb; have := h n hn hb; omega
  ·intro h n hn hb; have := h n hn hb; omega
 ·simp only [off4, key (fun i => i < 8), dxS, dyS]
  constructor
  ·intro h n hn hb; have := h n hn hb; omega
  ·intro h n hn hb; have := h n hn hb; omega
theorem up_bit (b : Sol) (n : Nat) (hn : n < 512) : (upS b).getLsbD n = (decide (64 ≤ n) && b.getLsbD (n - 64)) := by
 have e : n = 64 * (n / 64) + n % 64 := by omega
 have e0 : (upS b).getLsbD n = (if n / 64 = 0 then 0 else plv b (n / 64 - 1) : U).getLsbD (n % 64) := by
  conv => lhs; rw [e]
  unfold upS
  rw [mkS_bit _ _ _ (by omega) (by omega)]
 rw [e0]
 by_cases h : n / 64 = 0
 ·rw [if_pos h, decide_eq_false (by omega)]; simp
 ·rw [if_neg h, decide_eq_true (by omega), plv_bit _ _ _ (by omega), Bool.true_and]
  congr 1; omega
end Go.Draw
end
