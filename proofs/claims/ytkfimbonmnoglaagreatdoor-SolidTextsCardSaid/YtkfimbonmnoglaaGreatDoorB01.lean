import Derived.Test.YtkfimbonmnoglaaGreatDoorB00
import Derived.RangeFuncNested
import Derived.RangeFuncBound
import Derived.RangeFuncCalls
import Derived.RangeFuncLeaves
import Derived.Shelf.Abstract
import Derived.Shelf.RegionOpen
import Derived.WalkKit
import Derived.OwnWalkIn
import Derived.TacticsInMore
import Derived.LoopNIn
import Derived.LoopIn
/-
  Given contracts of functions of the program, and laws for them, one behind the other.
-/
set_option linter.unusedVariables false
set_option linter.unusedSimpArgs false
set_option linter.unusedSectionVars false
section
namespace Go.Rel
variable {P : Program} {ops : Array Oper}
def upd (vs : Nat → Value) (k : Nat) (v : Value) : Nat → Value := fun j => if j = k then v else vs j
abbrev Knows := (Nat → Bool) → (Nat → Value) → World → Prop
def wpVal (P : Program) (ops : Array Oper) (R : World → World → Prop) (I : Knows) (w0 : World) (Q : Act → World → Prop) :
  List Oper → List (Value → World → Prop) → Nat → Act → (Nat → World → Prop) → (Nat → Value) → Prop
 | o :: rest, φ :: φs, k, a, F, us =>
   (∀ L vs w, (∀ j, j < k → vs j = us j) → At ops k L → R w0 w → I L vs w → factsI F o w → step P ops R o a (fun v w' => I (fun j => j == k || L j) (upd vs k v) w' ∧ φ v w') w) ∧
   ∀ v, wpVal P ops R I w0 Q rest φs (k + 1) (a.put o.dst v) (fun j w => if j = k then φ v w else F j w) (upd us k v)
 | _, _, k, a, F, us => ∀ vs w, (∀ j, j < k → vs j = us j) → R w0 w → I (fun j => decide (j < k)) vs w → (∀ j, j < k → F j w) → Q a w
theorem wpVal_get {R : World → World → Prop} {I : Knows} {w0 : World} {Q : Act → World → Prop} (vs : Nat → Value) :
  ∀ (l : List Oper) (Vs : List (Value → World → Prop)) (k : Nat) (a : Act) (F : Nat → World → Prop) (us : Nat → Value), l.length = Vs.length →
   (∀ j, j < k → vs j = us j) → wpVal P ops R I w0 Q l Vs k a F us →
   (∀ (i : Nat) (o : Oper) (φ : Value → World → Prop), l[i]? = some o → Vs[i]? = some φ → ∀ L w, At ops (k + i) L → R w0 w → I L vs w →
    (∀ e ∈ o.after.toList, Region.binds .any e = true → (if e.on < k then F e.on w else ∀ ψ, e.on < k + i → Vs[e.on - k]? = some ψ → ψ (vs e.on) w)) →
    (∀ e ∈ o.after.toList, Region.binds .any e = true → e.on < k + i) →
    step P ops R o (putAll vs (l.take i) k a) (fun v w' => I (fun j => j == k + i || L j) (upd vs (k + i) v) w' ∧ φ v w') w) ∧
   (∀ w, R w0 w → I (fun j => decide (j < k + l.length)) vs w → (∀ j, j < k → F j w) → (∀ (j : Nat) (φ : Value → World → Prop), Vs[j]? = some φ → φ (vs (k + j)) w) → Q (putAll vs l k a) w)
 | [], Vs, k, a, F, us, hlen, hus, h => by
  have : Vs = [] := List.length_eq_zero_iff.1 hlen.symm
  subst this
  refine ⟨fun i o φ h => by simp at h, fun w hw hI hF _ => ?_⟩
  simp only [wpVal] at h
  exact h vs w hus hw hI hF
 | o :: l, [], k, a, F, us, hlen, _, h => by simp at hlen
 | o :: l, φ :: Vs, k, a, F, us, hlen, hus, h => by
  simp only [wpVal] at h
  obtain ⟨hs, hr⟩ := h
  obtain ⟨g1, g2⟩ := wpVal_get vs l Vs (k + 1) (a.put o.dst (vs k)) _ (upd us k (vs k)) (by simpa using hlen) (fun j hj => by
   unfold upd
   by_cases e : j = k
   ·rw [if_pos e, e]
   ·rw [if_neg e]; exact hus j (by omega)) (hr (vs k))
  refine ⟨fun i o' φ' hi hφ L w hat hw hI hF hlt => ?_, fun w hw hI hF hV => ?_⟩
  ·cases i with
   | zero =>
    have h1 : o = o' := by simpa using hi
    have h2 : φ = φ' := by simpa using hφ
    subst h1; subst h2
    simp only [List.take_zero, putAll]
    refine hs L vs w hus hat hw hI (fun e he hb => ?_)
    have := hF e he hb
    rwa [if_pos (by have := hlt e he hb; omega)] at this
   | succ i =>
    simp only [List.take_succ_cons, putAll]
    have e1 : k + (i + 1) = k + 1 + i := by omega
    rw [e1] at hat ⊢
    refine g1 i o' φ' (by simpa using hi) (by simpa using hφ) L w hat hw hI (fun e he hb => ?_) (fun e he hb => by have := hlt e he hb; omega)
    have h1 := hF e he hb
    have h2 := hlt e he hb
    by_cases hek : e.on < k
    ·rw [if_pos hek] at h1
     rw [if_pos (by omega), if_neg (by omega)]; exact h1
    ·rw [if_neg hek] at h1
     by_cases hek' : e.on = k
     ·rw [if_pos (by omega), if_pos hek', ← hek']
      exact h1 φ h2 (by rw [hek']; simp)
     ·rw [if_neg (by omega)]
      intro ψ hlt' hψ
      refine h1 ψ (by omega) ?_
      rw [show e.on - k = (e.on - (k + 1)) + 1 by omega]
      simpa using hψ
  ·simp only [putAll]
   refine g2 w hw (by simpa [Nat.add_assoc, Nat.add_comm 1] using hI) (fun j hj => ?_) (fun j ψ hψ => ?_)
   ·by_cases hjk : j = k
    ·subst hjk; simp only [if_true]; have := hV 0 φ (by simp); simpa using this
    ·rw [if_neg hjk]; exact hF j (by omega)
   ·have := hV (j + 1) ψ (by simpa using hψ)
    rwa [show k + (j + 1) = k + 1 + j by omega] at this
theorem any_of_val {Q : Exit → Act → World → Prop} {R : World → World → Prop} {I : Knows} {w0 : World} {a : Act} {l : List Oper} {Vs : List (Value → World → Prop)}
  (hok : OkI l.toArray) (hlen : Vs.length = l.length) (hrefl : ∀ w, R w w) (htrans : ∀ x y z, R x y → R y z → R x z)
  (hst : ∀ φ ∈ Vs, ∀ v w w', φ v w → R w w' → φ v w') (u0 : Nat → Value)
  (h : wpVal P l.toArray R I w0 (fun a' w' => Q .normal a' w') l Vs 0 a (fun _ _ => True) u0) :
  ∀ (f : Nat) (listed : Array Bool) (a' : Act) (w' : World) (vs : Nat → Value), ClosedL l.toArray listed → cnt l.length listed = f → AgreeI l.toArray (listedL listed) vs a a' → R w0 w' → I (listedL listed) vs w' →
   (∀ (j : Nat) (φ : Value → World → Prop), listed.getD j false = true → Vs[j]? = some φ → φ (vs j) w') → wpAny P .any l.toArray Q f listed a' w' := by
 intro f
 induction f with
 | zero =>
  intro listed a' w' vs inv hc hag hR hI hV
  have hl0 := cnt_zero hc
  have hlf : ∀ j, j < l.length → listed.getD j false = true := by
   intro j hj
   have h1 := hl0 j hj
   have h2 : j < listed.size := by rw [inv.1]; simpa using hj
   simp [h2] at h1 ⊢; exact h1
  have hLe : listedL listed = fun j => decide (j < 0 + l.length) := by
   funext j
   by_cases hj : j < l.length
   ·simp only [listedL, hlf j hj, Nat.zero_add, hj, decide_true]
   ·have : ¬ j < listed.size := by rw [inv.1]; simpa using hj
    simp [listedL, this, hj]
  refine ⟨?_, ?_⟩
  ·rw [List.eq_nil_iff_forall_not_mem]
   intro j hj
   obtain ⟨hun, o, ho, _⟩ := mem_ready.1 hj
   have := hl0 j (by simpa using lt_of_op ho)
   rw [hun] at this; cases this
  have hfr : a' = putAll vs l 0 a := by
   obtain ⟨h1, h2, h3, h4⟩ := putAll_spec vs l 0 a
   have ht : a'.tmps = (putAll vs l 0 a).tmps := by
    apply Array.ext_getElem?
    intro t
    rw [hag.2.2 t]
    rcases srcI_cases (ops := l.toArray) t with ⟨j, o', ho', hd⟩ | hno
    ·rw [slotI_src hok ho' hd, show listedL listed j = true from hlf j (by simpa using lt_of_op ho'), if_pos rfl]
     rw [h4 j o' t (by simpa using ho') hd (fun j' o'' hlt hj' => hok.apart j o' j' o'' ho' (by simpa using hj') (by omega) t hd)]
     simp
    ·rw [slotI_none hno]
     exact (h3 t (fun j o' hj => hno j o' (by simpa using hj))).symm
   have hd : a'.defers = (putAll vs l 0 a).defers := by rw [hag.1, h1]
   cases a'; cases hp : putAll vs l 0 a
   rw [hp] at ht hd
   simp_all
  have hend := (wpVal_get vs l Vs 0 a _ u0 hlen.symm (fun j hj => by omega) h).2 w' hR (by rw [← hLe]; exact hI) (fun j hj => by omega) (fun j φ hφ => by
   rw [Nat.zero_add]
   have hjn : j < l.length := by rw [← hlen]; exact (List.getElem?_eq_some_iff.1 hφ).1
   exact hV j φ (hlf j hjn) hφ)
  rw [← hfr] at hend
  exact hend
 | succ f ih =>
  intro listed a' w' vs inv hc hag hR hI hV
  have hex : ∃ i, i < l.length ∧ listed.getD i true = false := by
   refine Classical.byContradiction fun hno => ?_
   have : cnt l.length listed = 0 := by
    unfold cnt
    rw [List.length_eq_zero_iff, List.filter_eq_nil_iff]
    intro j hj
    have hjn := List.mem_range.1 hj
    cases hl : listed.getD j true with
    | true => simp
    | false => exact absurd ⟨j, hjn, hl⟩ hno
   omega
  obtain ⟨i0, hi0, hun0⟩ := hex
  refine ⟨fun h0 => ?_, fun i hi => ?_⟩
  ·obtain ⟨j, hj⟩ := some_readyI hok inv.1 i0 i0 rfl (by simpa using hi0) hun0
   rw [h0] at hj; cases hj
  ·obtain ⟨hun, o, ho, hdep⟩ := mem_ready.1 hi
   have hin : i < l.length := by simpa using lt_of_op ho
   have hφ : ∃ φ, Vs[i]? = some φ := ⟨Vs[i]'(by omega), by simp [show i < Vs.length by omega]⟩
   obtain ⟨φ, hφ⟩ := hφ
   have hat := at_ready inv ho hun hdep
   have hstep := (wpVal_get vs l Vs 0 a _ u0 hlen.symm (fun j hj => by omega) h).1 i o φ (by simpa using ho) hφ (listedL listed) w' (by rw [Nat.zero_add]; exact hat) hR hI (fun e he hb => by
    have he' : e ∈ o.after := by simpa using he
    rw [if_neg (by omega)]
    intro ψ _ hψ
    rw [Nat.sub_zero] at hψ
    exact hV e.on ψ (hdep e he' hb) hψ) (fun e he hb => by
    have he' : e ∈ o.after := by simpa using he
    have := hok.back i o ho e he' hb; omega)
   rw [Nat.zero_add] at hstep
   have hlook := lookI_eq (L := listedL listed) hok ho hdep (getD_both hun) inv.2 hag
   have hsame := exec_same (hok.sel i o ho) hlook
   have hstep' : step P l.toArray R o a' (fun v w'' => I (fun j => j == i || listedL listed j) (upd vs i v) w'' ∧ φ v w'') w' := by
    unfold step at hstep ⊢
    rw [hsame.1, hsame.2]; exact hstep
   have his : i < listed.size := by rw [inv.1]; exact lt_of_op ho
   refine wpOp_of_step ho (hrefl w') hstep' (fun v w'' hr hjv => ?_)
   obtain ⟨hj, hv⟩ := hjv
   have hL : listedL (listed.setIfInBounds i true) = fun j => j == i || listedL listed j := by
    funext j
    by_cases hji : j = i
    ·subst hji; simp [listedL, his]
    ·simp [listedL, getD_set_ne false (Ne.symm hji), hji, Array.getElem?_setIfInBounds_ne (Ne.symm hji)]
   refine ih (listed.setIfInBounds i true) _ w'' (fun j => if j = i then v else vs j) ?_ ?_ ?_ (htrans _ _ _ hR hr) (by rw [hL]; exact hj) ?_
   ·refine ⟨by simp [inv.1], fun j oj hoj hl e he hb => ?_⟩
    by_cases hij : i = j
    ·subst hij
     have : oj = o := Option.some.inj (hoj.symm.trans ho)
     subst this
     exact getD_set_true (hdep e he hb)
    ·rw [getD_set_ne false hij] at hl
     exact getD_set_true (inv.2 j oj hoj hl e he hb)
   ·have := cnt_set hin his hun; omega
   ·refine ⟨by rw [put_defers]; exact hag.1, by rw [put_size]; exact hag.2.1, fun t => ?_⟩
    rcases srcI_cases (ops := l.toArray) t with ⟨j, o', ho', hd⟩ | hno
    ·rw [slotI_src hok ho' hd, hL]
     by_cases hji : j = i
     ·subst hji
      have : o' = o := by rw [ho] at ho'; exact (Option.some.inj ho').symm
      subst this
      rw [hd, put_tmps_same, if_pos rfl, hag.2.1]
      simp
     ·have hne : o.dst ≠ some t := fun he => hok.apart i o j o' ho ho' (Ne.symm hji) t he hd
      rw [put_tmps_other hne, hag.2.2 t, slotI_src hok ho' hd, if_neg hji]
      simp [hji]
    ·have hne : o.dst ≠ some t := hno i o ho
     rw [put_tmps_other hne, hag.2.2 t, slotI_none hno, slotI_none hno]
   ·intro j ψ hl hψ
    by_cases hji : j = i
    ·subst hji
     rw [hφ] at hψ; cases hψ
     simp only [if_true]; exact hv
    ·rw [if_neg hji]
     rw [getD_set_ne false (Ne.symm hji)] at hl
     exact hst ψ (List.mem_of_getElem? hψ) _ _ _ (hV j ψ hl hψ) hr
theorem wp_region_val {id : Nat} {Q : Exit → Act → World → Prop} {a : Act} {w : World} {l : List Oper} (R : World → World → Prop) (I : Knows) (Vs : List (Value → World → Prop))
  (hm : P.follows .mixedOrders = true) (hB : okI l.toArray = true) (hlen : Vs.length = l.length) (hrefl : ∀ w, R w w) (htrans : ∀ x y z, R x y → R y z → R x z)
  (hst : ∀ φ ∈ Vs, ∀ v w w', φ v w → R w w' → φ v w') (w0 : World) (h0 : R w0 w.drew) (hI : I (fun _ => false) (fun _ => undef) w.drew)
  (h : wpVal P l.toArray R I w0 (fun a' w' => Q .normal a' w') l Vs 0 a (fun _ _ => True) (fun _ => undef)) : (Code.region id l.toArray true).wp P Q a w := by
 refine wp_region_any hm ?_
 have hL0 : listedL (Array.replicate l.toArray.size false) = fun _ => false := by
  funext j; unfold listedL; rw [getD_replicate_false]
 have hc : cnt l.length (Array.replicate l.toArray.size false) = l.length := by
  unfold cnt
  rw [List.filter_eq_self.2]
  ·simp
  ·intro j hj
   have hj' : j < l.length := List.mem_range.1 hj
   have := getD_in (listed := Array.replicate l.toArray.size false) (i := j) (by simpa using hj') (getD_replicate_false _ _)
   rw [this]; rfl
 have := any_of_val (Q := Q) (okI_of hB) hlen hrefl htrans hst _ h l.length _ a { w with drawn := w.drawn + 1 } (fun _ => undef)
  ⟨by simp, fun j oj _ hl => (by rw [getD_replicate_false] at hl; cases hl)⟩ hc ⟨rfl, rfl, fun t => by
  unfold slotI
  split
  ·rw [hL0]; simp
  ·rfl⟩ h0 (by rw [hL0]; exact hI) (fun j φ hl => by rw [getD_replicate_false] at hl; cases hl)
 simpa using this
theorem val_cons {R : World → World → Prop} {I : Knows} {w0 : World} {Q : Act → World → Prop} {o : Oper} {rest : List Oper} {φ : Value → World → Prop} {φs : List (Value → World → Prop)} {k : Nat} {a : Act} {F : Nat → World → Prop} {us : Nat → Value}
  (h1 : ∀ L vs w, (∀ j, j < k → vs j = us j) → At ops k L → R w0 w → I L vs w → factsI F o w → step P ops R o a (fun v w' => I (fun j => j == k || L j) (upd vs k v) w' ∧ φ v w') w)
  (h2 : ∀ v, wpVal P ops R I w0 Q rest φs (k + 1) (a.put o.dst v) (fun j w => if j = k then φ v w else F j w) (upd us k v)) : wpVal P ops R I w0 Q (o :: rest) (φ :: φs) k a F us := ⟨h1, h2⟩
theorem val_nil {R : World → World → Prop} {I : Knows} {w0 : World} {Q : Act → World → Prop} {φs : List (Value → World → Prop)} {k : Nat} {a : Act} {F : Nat → World → Prop} {us : Nat → Value}
  (h : ∀ vs w, (∀ j, j < k → vs j = us j) → R w0 w → I (fun j => decide (j < k)) vs w → (∀ j, j < k → F j w) → Q a w) : wpVal P ops R I w0 Q [] φs k a F us := h
end Go.Rel
end
section
namespace Go.Rel
open Go Go.RowKit
def KeepsBut (wr : Nat → Prop) (W W' : World) : Prop := W.heap.size ≤ W'.heap.size ∧ ∀ k, k < W.heap.size → ¬ wr k → W'.heap[k]? = W.heap[k]?
theorem KeepsBut.refl (wr : Nat → Prop) (W : World) : KeepsBut wr W W := ⟨Nat.le_refl _, fun _ _ _ => rfl⟩
theorem KeepsBut.trans {wr : Nat → Prop} {A B C : World} (h : KeepsBut wr A B) (k : KeepsBut wr B C) : KeepsBut wr A C :=
 ⟨Nat.le_trans h.1 k.1, fun i hi hn => (k.2 i (Nat.lt_of_lt_of_le hi h.1) hn).trans (h.2 i hi hn)⟩
theorem KeepsBut.gb {wr : Nat → Prop} {W W' : World} {row : Option Nat} (h : W.grownBy W' row) (hr : ∀ r, row = some r → wr r) : KeepsBut wr W W' :=
 ⟨h.size, fun k hk hn => h.block k hk (fun e => hn (hr k e.symm))⟩
theorem KeepsBut.bel {wr : Nat → Prop} {W W' : World} (h : Below W.heap.size W W') : KeepsBut wr W W' := ⟨h.size, fun k hk _ => h.block k hk⟩
theorem KeepsBut.alloc (wr : Nat → Prop) (W : World) (o : Obj) : KeepsBut wr W (W.alloc o) := .gb (World.grownBy_alloc W o none) (fun _ e => by cases e)
theorem KeepsBut.put {wr : Nat → Prop} {W : World} {l : Nat} (o : Obj) (hw : wr l) : KeepsBut wr W (W.putObj l o) := .gb (grownBy_putObj' W l o) (fun r e => by cases e; exact hw)
/-- what abides that blocks lo .. hi - 1 are turned, and new ones laid -/
def AbidesC {β : Type} (lo hi : Nat) (J : β → World → Prop) : Prop := ∀ s W W' row, J s W → W.grownBy W' row → (∀ r, row = some r → lo ≤ r ∧ r < hi) → J s W'
theorem AbidesC.put {β : Type} {lo hi : Nat} {J : β → World → Prop} (h : AbidesC lo hi J) {s : β} {W : World} {l : Nat} (o : Obj) (hs : J s W) (h1 : lo ≤ l) (h2 : l < hi) : J s (W.putObj l o) :=
 h s W _ (some l) hs (grownBy_putObj' W l o) (fun r e => by cases e; exact ⟨h1, h2⟩)
theorem AbidesC.alloc {β : Type} {lo hi : Nat} {J : β → World → Prop} (h : AbidesC lo hi J) {s : β} {W : World} (o : Obj) (hs : J s W) : J s (W.alloc o) :=
 h s W _ none hs (World.grownBy_alloc W o none) (fun r e => by cases e)
theorem AbidesC.bel {β : Type} {lo hi : Nat} {J : β → World → Prop} (h : AbidesC lo hi J) {s : β} {W W' : World} (hs : J s W) (hb : Below W.heap.size W W') : J s W' :=
 h s W _ none hs ⟨hb.os, hb.tape, hb.output, hb.size, fun k hk _ => hb.block k hk⟩ (fun r e => by cases e)
theorem AbidesC.and {β : Type} {lo hi : Nat} {I J : β → World → Prop} (h : AbidesC lo hi I) (k : AbidesC lo hi J) : AbidesC lo hi (fun s W => I s W ∧ J s W) :=
 fun s W W' row hs hg hr => ⟨h s W W' row hs.1 hg hr, k s W W' row hs.2 hg hr⟩
/-- the contract of such an iterator, called in world W -/
def SeqC {α : Type} (F : Fence) (n : Nat) (P : Program) (g : Nat) (lb : Array Value) (encs : α → Array Value) (wr : Nat → Prop) (K : Nat) (S Sp : List α → Prop) (N : Nat) (W : World) : Prop :=
 ∀ (l : Nat) (J Jx : List α → World → Prop), AbidesC W.heap.size (W.heap.size + K) J → AbidesC W.heap.size (W.heap.size + K) Jx → (∀ r, W.heap.size ≤ r → r < W.heap.size + K → ¬ wr r) →
  (∀ pre x W1, J pre W1 → W.heap.size + K ≤ W1.heap.size → pre.length < N → YieldAt F (n - 1) P l (encs x) W1 fun e W' =>
   (e = .returned (.bool true) ∧ J (pre ++ [x]) W' ∧ KeepsBut wr W1 W') ∨ (e = .returned (.bool false) ∧ Jx (pre ++ [x]) W')) →
  J [] W →
  CallsIn F n P g (#[.func (.yield l) #[] #[]] ++ lb) W fun e W' => (∃ v, e = .returned v) ∧ ((∃ xs, S xs ∧ J xs W') ∨ (∃ pre, Sp pre ∧ Jx pre W'))
/-- how the body of a round may be left -/
def postC {α : Type} (wr : Nat → Prop) (I : List α → World → Prop) (Ix : Code → List α → World → Prop) (xs : List α) (W : World) : Exit → Act → World → Prop
 | .normal, _, W' => KeepsBut wr W W' ∧ I xs W'
 | .ret, _, W' => KeepsBut wr W W' ∧ Ix .ret xs W'
 | .exit id, _, W' => KeepsBut wr W W' ∧ Ix (.exit id) xs W'
 | .goto t, _, W' => KeepsBut wr W W' ∧ Ix (.goto t) xs W'
 | .panic _, _, _ => False
 | .outgrown, _, _ => False
variable {F : Fence} {n : Nat} {P : Program}
theorem wpIn_rangeFunc_C {α : Type} {g : Operand} {ps : Array Tmp} {assign body : Code} {Q : Exit → Act → World → Prop} {a : Act} {w : World}
  (hro : F.round = none) (h1 : 1 ≤ n) {gf : Nat} {lb : Array Value} (hg : a.eval g = .func (.func gf) #[] lb) (hFg : F.fn gf) (eg : ∀ args w, (callFunc gf args).run P w = .ok (.enter gf args) w)
  {encs : α → Array Value} {wr : Nat → Prop} (K : Nat) {S Sp : List α → Prop} {N : Nat} (hseq : ∀ W, Below w.heap.size w W → W.heap.size = w.heap.size + 1 + 1 → SeqC F (n - 1) P gf lb encs wr K S Sp N W)
  (hwr : ∀ r, w.heap.size ≤ r → r < w.heap.size + 1 + 1 + K → ¬ wr r) (hps : ∀ x, (encs x).size = ps.size)
  (I : List α → World → Prop) (Ix : Code → List α → World → Prop) (hI : AbidesC w.heap.size (w.heap.size + 1 + 1 + K) I) (hIx : ∀ c, AbidesC w.heap.size (w.heap.size + 1 + 1 + K) (Ix c)) (h0 : I [] w)
  (Ax : α → Act → World → Prop) (hAx : ∀ x a', AbidesC w.heap.size (w.heap.size + 1 + 1 + K) (fun (_ : Unit) W => Ax x a' W))
  (hassign : ∀ (l : Nat) (pre : List α) (x : α) (W : World) (Z : Act → World → Prop), I pre W → w.heap.size + 1 + 1 + K ≤ W.heap.size → (∀ a' W', KeepsBut wr W W' → I pre W' → Ax x a' W' → Z a' W') →
   assign.wpIn (F.inRound l) (n - 1 - 1) P (Exit.then Z (fun _ _ _ => False)) { tmps := (ps.zip (encs x)).foldl (fun t (p, v) => t.setIfInBounds p v) a.tmps, defers := [] } W)
  (hbody : ∀ (l : Nat) (pre : List α) (x : α) (a' : Act) (W : World), w.heap.size + 1 + 1 + K ≤ W.heap.size → I pre W → Ax x a' W → pre.length < N → body.wpIn (F.inRound l) (n - 1 - 1) P (postC wr I Ix (pre ++ [x]) W) a' W)
  (hdone : ∀ (D : Nat) (xs : List α) (W : World), D = w.heap.size → S xs → I xs W → W.heap[D]? = some (.deferred (some [])) → Q .normal { a with defers := { target := .collected D, args := #[] } :: a.defers } W)
  (hstop : ∀ (D : Nat) (c : Code) (pre : List α) (W : World), D = w.heap.size → Sp pre → Ix c pre W → W.heap[D]? = some (.deferred (some [])) → c.wpIn F n P Q { a with defers := { target := .collected D, args := #[] } :: a.defers } W) :
  (Code.rangeFunc g ps assign body).wpIn F n P Q a w := by
 refine wpIn_rangeFunc ?_
 intro fn hfn
 rw [hro]
 obtain ⟨rec, hrec⟩ : ∃ rec : LoopState → Option Code → Loop, rec = fun st pe => { state := st, pending := pe, fn, tmps := a.tmps, params := ps, assign, body, defers := w.heap.size } := ⟨_, rfl⟩
 obtain ⟨W1, hW1⟩ : ∃ W1, (w.alloc (.deferred (some []))).alloc (.loop (rec .ready none)) = W1 := ⟨_, rfl⟩
 have hs1 : W1.heap.size = w.heap.size + 1 + 1 := by rw [← hW1]; simp
 have hL1 : W1.heap[w.heap.size + 1]? = some (.loop (rec .ready none)) := by
  rw [← hW1]; have := World.alloc_heap_new (w.alloc (.deferred (some []))) (.loop (rec .ready none)); rwa [World.size_alloc] at this
 have hK1 : W1.heap[w.heap.size]? = some (.deferred (some [])) := by
  rw [← hW1]; exact (Below.heap_alloc _ _ _ (by simp)).trans (World.alloc_heap_new w _)
 have hI1 : I [] W1 := by rw [← hW1]; exact hI.alloc _ (hI.alloc _ h0)
 have hb1 : Below w.heap.size w W1 := by rw [← hW1]; exact (((Below.refl _ w).alloc (Nat.le_refl _) _).alloc (by simp) _)
 refine ⟨w.heap.size + 1, [{ target := .collected w.heap.size, args := #[] }], W1, { target := .fn (.func gf) lb, args := #[.func (.yield (w.heap.size + 1)) #[] #[]] }, W1, gf,
  #[.func (.yield (w.heap.size + 1)) #[] #[]] ++ lb, W1, ?_, ?_, ?_, ?_, fun _ => h1, ?_⟩
 ·rw [← hW1, hrec]; exact run_enterLoop_outer _ _ _ _ _
 ·simp only [resolve, hg]
  simp [go_sem]
 ·intro f' hf'; simp [Target.leads] at hf'; subst hf'; exact hFg
 ·simp [invoke, go_sem, eg]
 ·refine (hseq W1 hb1 hs1 (w.heap.size + 1)
   (fun pre W => I pre W ∧ W.heap[w.heap.size + 1]? = some (.loop (rec .ready none)) ∧ W.heap[w.heap.size]? = some (.deferred (some [])))
   (fun pre W => ∃ c, Ix c pre W ∧ W.heap[w.heap.size + 1]? = some (.loop (rec .done (some c))) ∧ W.heap[w.heap.size]? = some (.deferred (some [])))
   (fun s A B row hs hgr hr => ⟨hI s A B row hs.1 hgr (fun r e => by have := hr r e; omega), (hgr.block _ (Array.getElem?_eq_some_iff.1 hs.2.1).1 (fun e => by have := hr _ e.symm; omega)).trans hs.2.1, (hgr.block _ (Array.getElem?_eq_some_iff.1 hs.2.2).1 (fun e => by have := hr _ e.symm; omega)).trans hs.2.2⟩)
   (fun s A B row hs hgr hr => by
    obtain ⟨c, hc, hl, hk⟩ := hs
    exact ⟨c, hIx c s A B row hc hgr (fun r e => by have := hr r e; omega), (hgr.block _ (Array.getElem?_eq_some_iff.1 hl).1 (fun e => by have := hr _ e.symm; omega)).trans hl, (hgr.block _ (Array.getElem?_eq_some_iff.1 hk).1 (fun e => by have := hr _ e.symm; omega)).trans hk⟩)
   (fun r h1 h2 => hwr r (by omega) (by omega)) ?_ ⟨hI1, hL1, hK1⟩).mono ?_
  ·rintro pre x W ⟨hi, hl, hk⟩ hsz hlen
   have hy := run_yield (P := P) (args := encs x) hl (by rw [hrec]; exact hps x)
   rw [hrec] at hy
   refine ⟨fn, _, assign, body, hy, roundIn_of_wpIn hfn (hassign _ pre x W _ hi (by omega) ?_)⟩
   clear hy
   intro a' Wa hka hia hax
   have hla := (hka.2 _ (Array.getElem?_eq_some_iff.1 hl).1 (hwr _ (by omega) (by omega))).trans hl
   have hda := (hka.2 _ (Array.getElem?_eq_some_iff.1 hk).1 (hwr _ (by omega) (by omega))).trans hk
   have hlta : w.heap.size + 1 < Wa.heap.size := (Array.getElem?_eq_some_iff.1 hla).1
   refine ⟨_, run_beginRound hla (by rw [hrec]), ?_⟩
   obtain ⟨busy, hbusy⟩ : ∃ o : Obj, o = .loop { rec .ready none with state := .busy } := ⟨_, rfl⟩
   obtain ⟨Wb, hWb⟩ : ∃ Wb, Wb = Wa.putObj (w.heap.size + 1) (.loop { rec .ready none with state := .busy }) := ⟨_, rfl⟩
   have hlb : Wb.heap[w.heap.size + 1]? = some (.loop { rec .ready none with state := .busy }) := by rw [hWb]; exact World.putObj_heap_same hlta
   have hdb : Wb.heap[w.heap.size]? = some (.deferred (some [])) := by rw [hWb]; exact (World.putObj_heap_other (by omega)).trans hda
   have hib : I pre Wb := by rw [hWb]; exact hI.put _ hia (by omega) (by omega)
   have haxb : Ax x a' Wb := by rw [hWb]; exact (hAx x a').put (s := ()) _ hax (by omega) (by omega)
   have hszb : Wb.heap.size = Wa.heap.size := by rw [hWb]; simp [World.putObj]
   have hsame : ∀ k, k ≠ w.heap.size + 1 → Wb.heap[k]? = Wa.heap[k]? := fun k hk => by rw [hWb]; exact World.putObj_heap_other hk
   rw [← hWb]
   refine wpIn_mono (hbody _ pre x a' Wb (by have := hka.1; omega) hib haxb hlen) ?_
   have fin : ∀ (jump : Option Code) (W3 : World), KeepsBut wr Wb W3 →
     (Instr.endRound (w.heap.size + 1) jump).run P W3 = .ok (.bool jump.isNone) (W3.putObj (w.heap.size + 1) (.loop (rec (if jump.isNone then .ready else .done) jump))) ∧
     (W3.putObj (w.heap.size + 1) (.loop (rec (if jump.isNone then .ready else .done) jump))).heap[w.heap.size + 1]? = some (.loop (rec (if jump.isNone then .ready else .done) jump)) ∧
     (W3.putObj (w.heap.size + 1) (.loop (rec (if jump.isNone then .ready else .done) jump))).heap[w.heap.size]? = some (.deferred (some [])) := fun jump W3 hk3 => by
    have hl3 := (hk3.2 _ (Array.getElem?_eq_some_iff.1 hlb).1 (hwr _ (by omega) (by omega))).trans hlb
    have hd3 := (hk3.2 _ (Array.getElem?_eq_some_iff.1 hdb).1 (hwr _ (by omega) (by omega))).trans hdb
    have := run_endRound (P := P) jump hl3
    rw [hrec] at this ⊢
    exact ⟨this, World.putObj_heap_same (Array.getElem?_eq_some_iff.1 hl3).1, (World.putObj_heap_other (by omega)).trans hd3⟩
   rintro e a3 W3 hp
   cases e with
   | normal =>
    obtain ⟨hk3, hi3⟩ := hp
    obtain ⟨hr, hl4, hk4⟩ := fin none W3 hk3
    refine ⟨_, _, hr, .inl ⟨rfl, ⟨hI.put _ hi3 (by omega) (by omega), hl4, hk4⟩, ?_⟩⟩
    refine ⟨by simp [World.putObj]; have := hka.1; have := hk3.1; omega, fun k hk hn => ?_⟩
    have hka' := hka.2 k hk hn
    by_cases e : k = w.heap.size + 1
    ·subst e
     rw [hl4, hl]; rfl
    ·rw [World.putObj_heap_other e, hk3.2 k (by have := hka.1; omega) hn, hsame k e, hka']
   | ret =>
    obtain ⟨hk3, hi3⟩ := hp
    obtain ⟨hr, hl4, hk4⟩ := fin (some .ret) W3 hk3
    exact ⟨_, _, hr, .inr ⟨rfl, .ret, (hIx _).put _ hi3 (by omega) (by omega), hl4, hk4⟩⟩
   | exit id =>
    obtain ⟨hk3, hi3⟩ := hp
    obtain ⟨hr, hl4, hk4⟩ := fin (some (.exit id)) W3 hk3
    exact ⟨_, _, hr, .inr ⟨rfl, .exit id, (hIx _).put _ hi3 (by omega) (by omega), hl4, hk4⟩⟩
   | goto t =>
    obtain ⟨hk3, hi3⟩ := hp
    obtain ⟨hr, hl4, hk4⟩ := fin (some (.goto t)) W3 hk3
    exact ⟨_, _, hr, .inr ⟨rfl, .goto t, (hIx _).put _ hi3 (by omega) (by omega), hl4, hk4⟩⟩
   | panic ch => exact hp.elim
   | outgrown => exact hp.elim
  ·rintro e W2 ⟨⟨v, rfl⟩, (⟨xs, hS, hi, hl, hk⟩ | ⟨pre, hSp, c, hi, hl, hk⟩)⟩
   ·exact ⟨none, _, by have := run_endLoop (P := P) hl (by rw [hrec]; simp); rw [hrec] at this; exact this, hdone _ xs _ rfl hS (hI.put _ hi (by omega) (by omega)) ((World.putObj_heap_other (by omega)).trans hk)⟩
   ·exact ⟨some c, _, by have := run_endLoop (P := P) hl (by rw [hrec]; simp); rw [hrec] at this; exact this, hstop _ c pre _ rfl hSp ((hIx c).put _ hi (by omega) (by omega)) ((World.putObj_heap_other (by omega)).trans hk)⟩
end Go.Rel
end
section
namespace Go.Rel
open Go Go.RowKit
variable {P : Program}
/-- no statement here is a defer -/
def noDefer (l : List Oper) : Bool := l.all fun o => match o.op with | .defer _ => false | _ => true
theorem noDefer_get {l : List Oper} (h : noDefer l = true) {i : Nat} {o : Oper} (hi : l.toArray[i]? = some o) : ∀ c, o.op ≠ .defer c := by
 intro c hc
 have hm : o ∈ l := List.mem_of_getElem? (by simpa using hi)
 have := List.all_eq_true.1 h o hm
 simp [hc] at this
/-- only what goes on -/
def normalOnly (Q : Exit → Act → World → Prop) : Exit → Act → World → Prop
 | .normal, a, w => Q .normal a w
 | _, _, _ => False
theorem wpOpsIn_of_plain {l : List Oper} (hnd : noDefer l = true) {Q : Exit → Act → World → Prop} {r n : Nat} : ∀ (is : List Nat) (a : Act) (w : World), wpOps P l.toArray (normalOnly Q) is a w → wpOpsIn (Fence.wide.inRound r) n P l.toArray (normalOnly Q) is a w
 | [], a, w, h => h
 | i :: is, a, w, h => by
  simp only [wpOps] at h
  simp only [wpOpsIn]
  cases ho : l.toArray[i]? with
  | none =>
   simp only [ho] at h ⊢
   exact wpOpsIn_of_plain hnd is a w h
  | some o =>
   simp only [ho] at h ⊢
   split at h
   ·next hw =>
    rw [if_pos hw]
    rcases h with h | ⟨_, h⟩
    ·refine ⟨fun _ _ => trivial, ?_⟩
     rw [Oper.semAt_eq _ _ _ (noDefer_get hnd ho)]
     unfold Oper.wp at h
     revert h
     generalize (execOp a.eval o).run P w = x
     intro h
     unfold Oper.upon at h
     unfold Oper.uponIn
     split at h
     ·exact wpOpsIn_of_plain hnd is _ _ h
     ·exact wpOpsIn_of_plain hnd is _ _ h
     ·exact wpOpsIn_of_plain hnd is _ _ h
     ·refine ⟨fun h => (by cases h), CallsIn.inRound r (callsIn_wide.2 ?_)⟩
      refine Calls.mono h fun e w' he => ?_
      cases e with
      | returned v => exact wpOpsIn_of_plain hnd is _ _ he
      | panicked c => exact he
      | outgrown => obtain ⟨_, _, hf⟩ := he; exact hf.elim
     ·refine ⟨fun h => (by cases h), fun c cs _ => ?_⟩
      obtain ⟨v, w', h1, h2⟩ := h c cs
      exact ⟨v, w', wpOpsIn_of_plain hnd is _ _ h1, stepsIn_wide.2 h2⟩
     ·exact h
     ·exact h.elim
    ·obtain ⟨_, _, hf⟩ := h; exact hf.elim
   ·next hw =>
    rw [if_neg hw]
    exact ⟨fun _ _ => trivial, wpOpsIn_of_plain hnd is _ _ h⟩
/-- a region that draws, in a round, by what holds of it outside one -/
theorem wpIn_of_any {id r n : Nat} {Q : Exit → Act → World → Prop} {a : Act} {w : World} {l : List Oper} (hnd : noDefer l = true) (hm : P.follows .mixedOrders = true)
  (h : wpAny P .any l.toArray (normalOnly Q) l.toArray.size (Array.replicate l.toArray.size false) a { w with drawn := w.drawn + 1 }) : (Code.region id l.toArray true).wpIn (Fence.wide.inRound r) n P Q a w := by
 refine wpIn_mono (Q := normalOnly Q) (wpIn_region_draw fun t => ?_) ?_
 ·simp only [Region.schedule, hm, Bool.true_or, if_true]
  exact wpOpsIn_of_plain hnd _ _ _ (wpAny_sound l.toArray.size t _ a _ h)
 ·intro e a' w' hq
  cases e with
  | normal => exact hq
  | _ => exact hq.elim
theorem wpIn_region_val {id r n : Nat} {Q : Exit → Act → World → Prop} {a : Act} {w : World} {l : List Oper} (R : World → World → Prop) (I : Knows) (Vs : List (Value → World → Prop))
  (hnd : noDefer l = true) (hm : P.follows .mixedOrders = true) (hB : okI l.toArray = true) (hlen : Vs.length = l.length) (hrefl : ∀ w, R w w) (htrans : ∀ x y z, R x y → R y z → R x z)
  (hst : ∀ φ ∈ Vs, ∀ v w w', φ v w → R w w' → φ v w') (w0 : World) (h0 : R w0 w.drew) (hI : I (fun _ => false) (fun _ => undef) w.drew)
  (h : wpVal P l.toArray R I w0 (fun a' w' => Q .normal a' w') l Vs 0 a (fun _ _ => True) (fun _ => undef)) : (Code.region id l.toArray true).wpIn (Fence.wide.inRound r) n P Q a w := by
 refine wpIn_of_any hnd hm ?_
 have hL0 : listedL (Array.replicate l.toArray.size false) = fun _ => false := by
  funext j; unfold listedL; rw [getD_replicate_false]
 have hc : cnt l.length (Array.replicate l.toArray.size false) = l.length := by
  unfold cnt
  rw [List.filter_eq_self.2]
  ·simp
  ·intro j hj
   have hj' : j < l.length := List.mem_range.1 hj
   have := getD_in (listed := Array.replicate l.toArray.size false) (i := j) (by simpa using hj') (getD_replicate_false _ _)
   rw [this]; rfl
 have := any_of_val (Q := normalOnly Q) (okI_of hB) hlen hrefl htrans hst _ h l.length _ a { w with drawn := w.drawn + 1 } (fun _ => undef)
  ⟨by simp, fun j oj _ hl => (by rw [getD_replicate_false] at hl; cases hl)⟩ hc ⟨rfl, rfl, fun t => by
  unfold slotI
  split
  ·rw [hL0]; simp
  ·rfl⟩ h0 (by rw [hL0]; exact hI) (fun j φ hl => by rw [getD_replicate_false] at hl; cases hl)
 simpa using this
end Go.Rel
end
section
namespace Go.Draw
abbrev Sol := BitVec 512
abbrev U := BitVec 64
def plv (s : Sol) (k : Nat) : U := s.extractLsb' (64 * k) 64
def mkS (f : Nat → U) : Sol := (f 0).setWidth 512 ||| (f 1).setWidth 512 <<< 64 ||| (f 2).setWidth 512 <<< 128 ||| (f 3).setWidth 512 <<< 192 ||| (f 4).setWidth 512 <<< 256 ||| (f 5).setWidth 512 <<< 320 ||| (f 6).setWidth 512 <<< 384 ||| (f 7).setWidth 512 <<< 448
theorem sol_ext {s t : Sol} (h : ∀ k, k < 8 → plv s k = plv t k) : s = t := by
 apply BitVec.eq_of_getLsbD_eq
 intro i hi
 have := congrArg (fun v => v.getLsbD (i % 64)) (h (i / 64) (by omega))
 simp only [plv, BitVec.getLsbD_extractLsb'] at this
 have e : 64 * (i / 64) + i % 64 = i := by omega
 rw [e] at this
 simpa [show i % 64 < 64 by omega] using this
theorem plane_bit (x : U) (j k i : Nat) (hj : j < 8) (hk : k < 8) (hi : i < 64) : (x.setWidth 512 <<< (64 * j)).getLsbD (64 * k + i) = (decide (j = k) && x.getLsbD i) := by
 simp only [BitVec.getLsbD_shiftLeft, BitVec.getLsbD_setWidth]
 have h1 : 64 * k + i < 512 := by omega
 by_cases e : j = k
 ·subst e
  simp [h1, show i < 512 by omega]
 ·by_cases h : j < k
  ·have : x.getLsbD (64 * k + i - 64 * j) = false := BitVec.getLsbD_of_ge _ _ (by omega)
   simp [e, this]
  ·have : 64 * k + i < 64 * j := by omega
   simp [e, this]
theorem plv_mkS (f : Nat → U) (k : Nat) (hk : k < 8) : plv (mkS f) k = f k := by
 apply BitVec.eq_of_getLsbD_eq; intro i hi
 have h0 : (f 0).setWidth 512 = (f 0).setWidth 512 <<< (64 * 0) := by simp
 unfold mkS
 rw [h0]
 simp only [plv, BitVec.getLsbD_extractLsb', BitVec.getLsbD_or, hi, decide_true, Bool.true_and]
 rw [plane_bit _ 0 k i (by omega) hk hi, plane_bit _ 1 k i (by omega) hk hi, plane_bit _ 2 k i (by omega) hk hi, plane_bit _ 3 k i (by omega) hk hi, plane_bit _ 4 k i (by omega) hk hi, plane_bit _ 5 k i (by omega) hk hi, plane_bit _ 6 k i (by omega) hk hi, plane_bit _ 7 k i (by omega) hk hi]
 obtain rfl | rfl | rfl | rfl | rfl | rfl | rfl | rfl : k = 0 ∨ k = 1 ∨ k = 2 ∨ k = 3 ∨ k = 4 ∨ k = 5 ∨ k = 6 ∨ k = 7 := by omega
 all_goals simp
theorem plv_and (a b : Sol) (k : Nat) : plv (a &&& b) k = plv a k &&& plv b k := by
 apply BitVec.eq_of_getLsbD_eq; intro i hi; simp [plv]
 cases decide (i < 64) <;> simp
theorem plv_or (a b : Sol) (k : Nat) : plv (a ||| b) k = plv a k ||| plv b k := by
 apply BitVec.eq_of_getLsbD_eq; intro i hi; simp [plv]
 cases decide (i < 64) <;> simp
theorem plv_zero (k : Nat) : plv 0 k = 0 := by
 apply BitVec.eq_of_getLsbD_eq; intro i hi; simp [plv]
theorem plv_not (a : Sol) (k : Nat) (hk : k < 8) : plv (~~~a) k = ~~~(plv a k) := by
 apply BitVec.eq_of_getLsbD_eq; intro i hi; simp [plv, hi, show 64 * k + i < 512 by omega]
def lowXP : U := 0x0101010101010101#64
def hiXP : U := 0x8080808080808080#64
def mapS (f : U → U) (b : Sol) : Sol := mkS fun k => f (plv b k)
def orP (f : U → U) (b : Sol) : U := f (plv b 0) ||| f (plv b 1) ||| f (plv b 2) ||| f (plv b 3) ||| f (plv b 4) ||| f (plv b 5) ||| f (plv b 6) ||| f (plv b 7)
def onP : Nat → U → U
 | 1, p => (p &&& ~~~hiXP) <<< 1
 | 2, p => p <<< 8
 | 3, p => (p &&& ~~~lowXP) >>> 1
 | _, p => p >>> 8
def offP : Nat → U → U
 | 1, p => p &&& hiXP
 | 2, p => p >>> 56
 | 3, p => p &&& lowXP
 | _, p => p &&& 0xff#64
def stepS (side : Nat) (b : Sol) : Sol := mapS (onP side) b
def inS (side : Nat) (b : Sol) : Bool := orP (offP side) b == 0
def upS (b : Sol) : Sol := mkS fun k => if k = 0 then 0 else plv b (k - 1)
def bit (i : Nat) : U := 1#64 <<< i
def listU (s : U) : List Nat := (List.range 64).filter fun i => s.getLsbD i
def cmpN : List Nat → List Nat → Int
 | [], [] => 0
 | [], _ :: _ => -1
 | _ :: _, [] => 1
 | a :: l, b :: k => if a < b then -1 else if b < a then 1 else cmpN l k
def rowS (z a b : Nat) : Sol := mkS fun k => if k = z then BitVec.ofNat 64 (2 ^ (b + 1) - 2 ^ a) else 0
end Go.Draw
end
