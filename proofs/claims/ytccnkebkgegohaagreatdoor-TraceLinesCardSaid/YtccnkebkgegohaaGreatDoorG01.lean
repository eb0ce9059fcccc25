import Derived.Test.YtccnkebkgegohaaGreatDoorG00
/-
  Given contracts of functions of the program, and laws for them, one behind the other.
-/
set_option linter.unusedVariables false
set_option linter.unusedSimpArgs false
set_option linter.unusedSectionVars false
section
namespace Go.Rel
variable {P : Program} {ops : Array Oper}

/-! A REGION IN WHATEVER ORDER, STORES AMONG ITS OPERATIONS: what is known of the world (I) goes by which operations have been carried out. -/
def uponI (P : Program) (R : World → World → Prop) (J : World → Prop) (w : World) (φ : Value → World → Prop) : Result Next → Prop
 | .ok (.value v) w' => R w w' ∧ J w' ∧ φ v w'
 | .ok .skip w' => R w w' ∧ J w' ∧ φ undef w'
 | .ok (.enter f args) w' => Calls P f args w' (fun e w'' => ∃ v, e = .returned v ∧ R w w'' ∧ J w'' ∧ φ v w'')
 | _ => False
@[irreducible] def stepI (P : Program) (ops : Array Oper) (R : World → World → Prop) (J : World → Prop) (o : Oper) (a : Act) (φ : Value → World → Prop) (w : World) : Prop :=
 if Region.wanted o (yielded ops a.tmps) then uponI P R J w φ ((execOp a.eval o).run P w) else J w ∧ φ undef w
def factsI (F : Nat → World → Prop) (o : Oper) (w : World) : Prop := ∀ e ∈ o.after.toList, Region.binds .any e = true → F e.on w
/-- j waits for i, directly or through others -/
def depB (ops : Array Oper) : Nat → Nat → Nat → Bool
 | 0, _, _ => false
 | f + 1, j, i => match ops[j]? with
  | some o => o.after.any fun e => Region.binds .any e && (e.on == i || depB ops f e.on i)
  | none => false
/-- what is known of which operations have been carried out when number k comes up -/
structure At (ops : Array Oper) (k : Nat) (L : Nat → Bool) : Prop where
 self : L k = false
 later : ∀ f j, depB ops f j k = true → L j = false
 ahead : ∀ f j, depB ops f k j = true → L j = true
def wpInv (P : Program) (ops : Array Oper) (R : World → World → Prop) (I : (Nat → Bool) → World → Prop) (w0 : World) (Q : Act → World → Prop) :
  List Oper → List (Value → World → Prop) → Nat → Act → (Nat → World → Prop) → Prop
 | o :: rest, φ :: φs, k, a, F =>
   (∀ L w, At ops k L → R w0 w → I L w → factsI F o w → stepI P ops R (I (fun j => j == k || L j)) o a φ w) ∧
   ∀ v, wpInv P ops R I w0 Q rest φs (k + 1) (a.put o.dst v) (fun j w => if j = k then φ v w else F j w)
 | _, _, k, a, F => ∀ w, R w0 w → I (fun j => decide (j < k)) w → (∀ j, j < k → F j w) → Q a w

def okI (ops : Array Oper) : Bool :=
 (List.range ops.size).all fun i => match ops[i]? with
  | none => false
  | some o => (o.after.all fun e => !Region.binds .any e || decide (e.on < i)) && (match o.op with | .select .. => false | _ => true) &&
    (List.range ops.size).all fun j => match ops[j]? with
     | none => false
     | some o' => (i == j || match o.dst, o'.dst with
       | some d, some d' => d != d'
       | _, _ => true) &&
      match o'.dst with
      | none => true
      | some d => (!(o.looksAt ops).contains d || o.after.any fun e => Region.binds .any e && e.on == j) || (decide (i < j) && o'.after.any fun e => Region.binds .any e && e.on == i)

structure OkI (ops : Array Oper) : Prop where
 back : ∀ (i : Nat) (o : Oper), ops[i]? = some o → ∀ e ∈ o.after, Region.binds .any e = true → e.on < i
 sel : ∀ (i : Nat) (o : Oper), ops[i]? = some o → ∀ cs b, o.op ≠ .select cs b
 apart : ∀ (i : Nat) (o : Oper) (j : Nat) (o' : Oper), ops[i]? = some o → ops[j]? = some o' → i ≠ j → ∀ d, o.dst = some d → o'.dst ≠ some d
 looks : ∀ (i : Nat) (o : Oper) (j : Nat) (o' : Oper) (d : Tmp), ops[i]? = some o → ops[j]? = some o' → o'.dst = some d → d ∈ o.looksAt ops → (∃ e ∈ o.after, Region.binds .any e = true ∧ e.on = j) ∨ (i < j ∧ ∃ e ∈ o'.after, Region.binds .any e = true ∧ e.on = i)

theorem lt_of_op {i : Nat} {o : Oper} (h : ops[i]? = some o) : i < ops.size := (Array.getElem?_eq_some_iff.1 h).1

theorem okI_of (h : okI ops = true) : OkI ops := by
 have h1 : ∀ (i : Nat) (o : Oper), ops[i]? = some o → (∀ e ∈ o.after, Region.binds .any e = true → e.on < i) ∧ (∀ cs b, o.op ≠ .select cs b) ∧
   ∀ (j : Nat) (o' : Oper), ops[j]? = some o' → (i ≠ j → ∀ d, o.dst = some d → o'.dst ≠ some d) ∧ (∀ d, o'.dst = some d → d ∈ o.looksAt ops → (∃ e ∈ o.after, Region.binds .any e = true ∧ e.on = j) ∨ (i < j ∧ ∃ e ∈ o'.after, Region.binds .any e = true ∧ e.on = i)) := by
  intro i o ho
  have h0 := List.all_eq_true.1 h i (List.mem_range.2 (lt_of_op ho))
  rw [ho] at h0
  simp only [Bool.and_eq_true] at h0
  obtain ⟨⟨ha, hs⟩, hj⟩ := h0
  refine ⟨fun e he hb => ?_, fun cs b heq => ?_, fun j o' ho' => ?_⟩
  ·have := (Array.all_eq_true_iff_forall_mem.1 ha) e he
   rw [hb] at this
   simpa using this
  ·rw [heq] at hs; cases hs
  ·have h2 := List.all_eq_true.1 hj j (List.mem_range.2 (lt_of_op ho'))
   rw [ho'] at h2
   simp only [Bool.and_eq_true, Bool.or_eq_true, beq_iff_eq] at h2
   refine ⟨fun hne d hd hd' => ?_, fun d hd hl => ?_⟩
   ·rcases h2.1 with h3 | h3
    ·exact hne h3
    ·rw [hd, hd'] at h3; simp at h3
   ·have h3 := h2.2
    rw [hd] at h3
    simp only [Bool.or_eq_true, Bool.not_eq_true', Bool.and_eq_true] at h3
    rcases h3 with (h3 | h3) | ⟨hlt, h3⟩
    ·rw [List.contains_eq_mem] at h3; simp [hl] at h3
    ·obtain ⟨e, he, h4⟩ := Array.any_eq_true'.1 h3
     simp only [Bool.and_eq_true, beq_iff_eq] at h4
     exact .inl ⟨e, he, h4.1, h4.2⟩
    ·obtain ⟨e, he, h4⟩ := Array.any_eq_true'.1 h3
     simp only [Bool.and_eq_true, beq_iff_eq] at h4
     exact .inr ⟨of_decide_eq_true hlt, e, he, h4.1, h4.2⟩
 exact ⟨fun i o ho => (h1 i o ho).1, fun i o ho => (h1 i o ho).2.1, fun i o j o' ho ho' hne => ((h1 i o ho).2.2 j o' ho').1 hne, fun i o j o' d ho ho' => ((h1 i o ho).2.2 j o' ho').2 d⟩

/-- the slot t -/
def slotI (ops : Array Oper) (L : Nat → Bool) (vs : Nat → Value) (a : Act) (t : Tmp) : Option Value :=
 match (List.range ops.size).find? (fun j => ((ops[j]?).bind (·.dst)) == some t) with
 | some j => if L j then (if t < a.tmps.size then some (vs j) else none) else a.tmps[t]?
 | none => a.tmps[t]?
def AgreeI (ops : Array Oper) (L : Nat → Bool) (vs : Nat → Value) (a a' : Act) : Prop :=
 a'.defers = a.defers ∧ a'.tmps.size = a.tmps.size ∧ ∀ t, a'.tmps[t]? = slotI ops L vs a t

theorem findI_src {j : Nat} {o : Oper} {d : Tmp} (hok : OkI ops) (ho : ops[j]? = some o) (hd : o.dst = some d) :
  (List.range ops.size).find? (fun j => ((ops[j]?).bind (·.dst)) == some d) = some j := by
 have hj := lt_of_op ho
 rw [List.find?_eq_some_iff_append]
 refine ⟨by simp [ho, hd], List.range j, List.range' (j + 1) (ops.size - j - 1), ?_, ?_⟩
 ·rw [List.range_eq_range', List.range_eq_range', ← List.range'_succ]
  have := List.range'_append_1 (s := 0) (m := j) (n := ops.size - j - 1 + 1)
  rw [Nat.zero_add] at this
  rw [this, show j + (ops.size - j - 1 + 1) = ops.size by omega]
 ·intro k hk
  have hkj : k < j := List.mem_range.1 hk
  have ho' : ops[k]? = some (ops[k]'(by omega)) := by simp [show k < ops.size by omega]
  have := hok.apart j o k _ ho ho' (by omega) d hd
  rw [ho']
  simpa using this
theorem slotI_src {j : Nat} {o : Oper} {d : Tmp} (hok : OkI ops) (ho : ops[j]? = some o) (hd : o.dst = some d) (L : Nat → Bool) (vs : Nat → Value) (a : Act) :
  slotI ops L vs a d = if L j then (if d < a.tmps.size then some (vs j) else none) else a.tmps[d]? := by
 unfold slotI; rw [findI_src hok ho hd]
theorem slotI_none {t : Tmp} (h : ∀ (j : Nat) (o : Oper), ops[j]? = some o → o.dst ≠ some t) (L : Nat → Bool) (vs : Nat → Value) (a : Act) :
  slotI ops L vs a t = a.tmps[t]? := by
 unfold slotI
 rw [List.find?_eq_none.2]
 intro j hj
 have hj' := List.mem_range.1 hj
 have ho' : ops[j]? = some (ops[j]'hj') := by simp [hj']
 rw [ho']
 simpa using h j _ ho'
theorem srcI_cases (t : Tmp) : (∃ (j : Nat) (o : Oper), ops[j]? = some o ∧ o.dst = some t) ∨ (∀ (j : Nat) (o : Oper), ops[j]? = some o → o.dst ≠ some t) := by
 by_cases h : ∃ (j : Nat) (o : Oper), ops[j]? = some o ∧ o.dst = some t
 ·exact .inl h
 ·exact .inr fun j o ho hd => h ⟨j, o, ho, hd⟩

theorem wpInv_get {R : World → World → Prop} {I : (Nat → Bool) → World → Prop} {w0 : World} {Q : Act → World → Prop} (vs : Nat → Value) :
  ∀ (l : List Oper) (Vs : List (Value → World → Prop)) (k : Nat) (a : Act) (F : Nat → World → Prop), l.length = Vs.length → wpInv P ops R I w0 Q l Vs k a F →
   (∀ (i : Nat) (o : Oper) (φ : Value → World → Prop), l[i]? = some o → Vs[i]? = some φ → ∀ L w, At ops (k + i) L → R w0 w → I L w →
    (∀ e ∈ o.after.toList, Region.binds .any e = true → (if e.on < k then F e.on w else ∀ ψ, e.on < k + i → Vs[e.on - k]? = some ψ → ψ (vs e.on) w)) →
    (∀ e ∈ o.after.toList, Region.binds .any e = true → e.on < k + i) →
    stepI P ops R (I (fun j => j == k + i || L j)) o (putAll vs (l.take i) k a) φ w) ∧
   (∀ w, R w0 w → I (fun j => decide (j < k + l.length)) w → (∀ j, j < k → F j w) → (∀ (j : Nat) (φ : Value → World → Prop), Vs[j]? = some φ → φ (vs (k + j)) w) → Q (putAll vs l k a) w)
 | [], Vs, k, a, F, hlen, h => by
  have : Vs = [] := List.length_eq_zero_iff.1 hlen.symm
  subst this
  refine ⟨fun i o φ h => by simp at h, fun w hw hI hF _ => ?_⟩
  simp only [wpInv] at h
  exact h w hw hI hF
 | o :: l, [], k, a, F, hlen, h => by simp at hlen
 | o :: l, φ :: Vs, k, a, F, hlen, h => by
  simp only [wpInv] at h
  obtain ⟨hs, hr⟩ := h
  obtain ⟨g1, g2⟩ := wpInv_get vs l Vs (k + 1) (a.put o.dst (vs k)) _ (by simpa using hlen) (hr (vs k))
  refine ⟨fun i o' φ' hi hφ L w hat hw hI hF hlt => ?_, fun w hw hI hF hV => ?_⟩
  ·cases i with
   | zero =>
    have h1 : o = o' := by simpa using hi
    have h2 : φ = φ' := by simpa using hφ
    subst h1; subst h2
    simp only [List.take_zero, putAll]
    refine hs L w hat hw hI (fun e he hb => ?_)
    have := hF e he hb
    rwa [if_pos (by have := hlt e he hb; omega)] at this
   | succ i =>
    simp only [List.take_succ_cons, putAll]
    have e1 : k + (i + 1) = k + 1 + i := by omega
    rw [e1] at hat ⊢
    refine g1 i o' φ' (by simpa using hi) (by simpa using hφ) L w hat hw hI (fun e he hb => ?_) (fun e he hb => by have := hlt e he hb; omega)
    have h1 := hF e he hb
    have h2 := hlt e he hb
    by_cases hek : e.on < k
    ·rw [if_pos hek] at h1
     rw [if_pos (by omega), if_neg (by omega)]; exact h1
    ·rw [if_neg hek] at h1
     by_cases hek' : e.on = k
     ·rw [if_pos (by omega), if_pos hek', ← hek']
      exact h1 φ h2 (by rw [hek']; simp)
     ·rw [if_neg (by omega)]
      intro ψ hlt' hψ
      refine h1 ψ (by omega) ?_
      rw [show e.on - k = (e.on - (k + 1)) + 1 by omega]
      simpa using hψ
  ·simp only [putAll]
   refine g2 w hw (by simpa [Nat.add_assoc, Nat.add_comm 1] using hI) (fun j hj => ?_) (fun j ψ hψ => ?_)
   ·by_cases hjk : j = k
    ·subst hjk; simp only [if_true]; have := hV 0 φ (by simp); simpa using this
    ·rw [if_neg hjk]; exact hF j (by omega)
   ·have := hV (j + 1) ψ (by simpa using hψ)
    rwa [show k + (j + 1) = k + 1 + j by omega] at this

theorem lookI_eq {l : List Oper} {i : Nat} {o : Oper} {L : Nat → Bool} {vs : Nat → Value} {a a' : Act} (hok : OkI l.toArray) (ho : l.toArray[i]? = some o)
  (hdep : ∀ e ∈ o.after, Region.binds .any e = true → L e.on = true) (hun : L i = false)
  (hcl : ∀ (j : Nat) (oj : Oper), l.toArray[j]? = some oj → L j = true → ∀ e ∈ oj.after, Region.binds .any e = true → L e.on = true) (hag : AgreeI l.toArray L vs a a') : ∀ t ∈ o.looksAt l.toArray, a'.tmps[t]? = (putAll vs (l.take i) 0 a).tmps[t]? := by
 intro t ht
 obtain ⟨_, _, h3, h4⟩ := putAll_spec vs (l.take i) 0 a
 rw [hag.2.2 t]
 rcases srcI_cases (ops := l.toArray) t with ⟨j, o', ho', hd⟩ | hno
 ·rcases hok.looks i o j o' t ho ho' hd ht with ⟨e, he, hb, hej⟩ | ⟨hij, e, he, hb, hei⟩
  rotate_left
  ·have hLj : L j = false := by
    cases h : L j with
    | false => rfl
    | true => have := hcl j o' ho' h e he hb; rw [hei, hun] at this; cases this
   rw [slotI_src hok ho' hd, hLj, if_neg (by simp)]
   refine (h3 t (fun j' o'' hj' => ?_)).symm
   have hj'i : j' < i := by
    rcases Nat.lt_or_ge j' i with h | h
    ·exact h
    ·rw [List.getElem?_take, if_neg (by omega)] at hj'; cases hj'
   rw [take_get hj'i] at hj'
   exact hok.apart j o' j' o'' ho' (by simpa using hj') (by omega) t hd
  have hji : j < i := by have := hok.back i o ho e he hb; omega
  rw [slotI_src hok ho' hd, ← hej, hdep e he hb, if_pos rfl, hej]
  rw [h4 j o' t (by rw [take_get hji]; simpa using ho') hd (fun j' o'' hlt hj' => ?_)]
  ·simp
  ·have hj'i : j' < i := by
    rcases Nat.lt_or_ge j' i with h | h
    ·exact h
    ·rw [List.getElem?_take, if_neg (by omega)] at hj'; cases hj'
   rw [take_get hj'i] at hj'
   exact hok.apart j o' j' o'' ho' (by simpa using hj') (by omega) t hd
 ·rw [slotI_none hno]
  refine (h3 t (fun j o' hj => ?_)).symm
  have hji : j < i := by
   rcases Nat.lt_or_ge j i with h | h
   ·exact h
   ·rw [List.getElem?_take, if_neg (by omega)] at hj; cases hj
  rw [take_get hji] at hj
  exact hno j o' (by simpa using hj)

theorem wpOp_of_stepI {Q : Exit → Act → World → Prop} {R : World → World → Prop} {J : World → Prop} {i : Nat} {o : Oper} {a : Act} {w : World} {φ : Value → World → Prop} {K : Act → World → Prop}
  (ho : ops[i]? = some o) (hrefl : R w w) (h : stepI P ops R J o a φ w) (hK : ∀ v w', R w w' → J w' → φ v w' → K (a.put o.dst v) w') : wpOp P ops Q i K a w := by
 unfold wpOp
 simp only [ho]
 unfold stepI at h
 split
 ·rename_i hw
  rw [if_pos hw] at h
  refine .inl ?_
  unfold Oper.wp
  generalize (execOp a.eval o).run P w = r at h ⊢
  cases r with
  | ok n w' =>
   cases n <;> simp only [uponI] at h <;> simp only [Oper.upon]
   case value u => exact hK _ _ h.1 h.2.1 h.2.2
   case skip => exact hK _ _ h.1 h.2.1 h.2.2
   case enter f args =>
    exact h.mono fun e w'' ⟨v, he, hr, hj, hφ⟩ => by subst he; exact hK _ _ hr hj hφ
  | halt x w' => simp only [uponI] at h
 ·rename_i hw
  rw [if_neg hw] at h
  exact hK _ _ hrefl h.1 h.2

def listedL (listed : Array Bool) : Nat → Bool := fun j => listed.getD j false
def ClosedL (ops : Array Oper) (listed : Array Bool) : Prop :=
 listed.size = ops.size ∧ ∀ (j : Nat) (oj : Oper), ops[j]? = some oj → listed.getD j false = true → ∀ e ∈ oj.after, Region.binds .any e = true → listed.getD e.on false = true

theorem dep_ahead {listed : Array Bool} (hc : ClosedL ops listed) : ∀ (f j i : Nat), depB ops f j i = true → listed.getD j false = true → listed.getD i false = true
 | 0, _, _, h, _ => by cases h
 | f + 1, j, i, h, hl => by
  unfold depB at h
  cases ho : ops[j]? with
  | none => rw [ho] at h; cases h
  | some o =>
   rw [ho] at h
   obtain ⟨e, he, h1⟩ := Array.any_eq_true'.1 h
   simp only [Bool.and_eq_true, Bool.or_eq_true, beq_iff_eq] at h1
   have h2 := hc.2 j o ho hl e he h1.1
   rcases h1.2 with h3 | h3
   ·rwa [h3] at h2
   ·exact dep_ahead hc f e.on i h3 h2

theorem at_ready {listed : Array Bool} {i : Nat} {o : Oper} (hc : ClosedL ops listed) (ho : ops[i]? = some o) (hun : listed.getD i true = false)
  (hdep : ∀ e ∈ o.after, Region.binds .any e = true → listed.getD e.on false = true) : At ops i (listedL listed) := by
 refine ⟨getD_both hun, fun f j h => ?_, fun f j h => ?_⟩
 ·cases hl : listedL listed j with
  | false => rfl
  | true =>
   have := dep_ahead hc f j i h hl
   rw [getD_both hun] at this; cases this
 ·cases f with
  | zero => cases h
  | succ f =>
   unfold depB at h
   rw [ho] at h
   obtain ⟨e, he, h1⟩ := Array.any_eq_true'.1 h
   simp only [Bool.and_eq_true, Bool.or_eq_true, beq_iff_eq] at h1
   have h2 := hdep e he h1.1
   rcases h1.2 with h3 | h3
   ·rwa [h3] at h2
   ·exact dep_ahead hc f e.on j h3 h2

theorem some_readyI {listed : Array Bool} (hok : OkI ops) (hsz : listed.size = ops.size) : ∀ (d i : Nat), i = d → i < ops.size → listed.getD i true = false → ∃ j, j ∈ Region.ready .any ops listed := by
 intro d
 induction d using Nat.strongRecOn with
 | _ d ih =>
  intro i hid hi hun
  have ho : ops[i]? = some (ops[i]'hi) := by simp [hi]
  by_cases hall : ∀ e ∈ (ops[i]'hi).after, Region.binds .any e = true → listed.getD e.on false = true
  ·exact ⟨i, mem_ready.2 ⟨hun, _, ho, hall⟩⟩
  ·obtain ⟨e, he⟩ := Classical.not_forall.1 hall
   obtain ⟨he, hl⟩ := Classical.not_imp.1 he
   obtain ⟨hb, hl⟩ := Classical.not_imp.1 hl
   have hlt := hok.back i _ ho e he hb
   have hl' : listed.getD e.on false = false := by simpa using hl
   exact ih e.on (by omega) e.on rfl (by omega) (getD_in (by omega) hl')

theorem any_of_inv {Q : Exit → Act → World → Prop} {R : World → World → Prop} {I : (Nat → Bool) → World → Prop} {w0 : World} {a : Act} {l : List Oper} {Vs : List (Value → World → Prop)}
  (hok : OkI l.toArray) (hlen : Vs.length = l.length) (hrefl : ∀ w, R w w) (htrans : ∀ x y z, R x y → R y z → R x z)
  (hst : ∀ φ ∈ Vs, ∀ v w w', φ v w → R w w' → φ v w')
  (h : wpInv P l.toArray R I w0 (fun a' w' => Q .normal a' w') l Vs 0 a (fun _ _ => True)) :
  ∀ (f : Nat) (listed : Array Bool) (a' : Act) (w' : World) (vs : Nat → Value), ClosedL l.toArray listed → cnt l.length listed = f → AgreeI l.toArray (listedL listed) vs a a' → R w0 w' → I (listedL listed) w' →
   (∀ (j : Nat) (φ : Value → World → Prop), listed.getD j false = true → Vs[j]? = some φ → φ (vs j) w') → wpAny P .any l.toArray Q f listed a' w' := by
 intro f
 induction f with
 | zero =>
  intro listed a' w' vs inv hc hag hR hI hV
  have hl0 := cnt_zero hc
  have hlf : ∀ j, j < l.length → listed.getD j false = true := by
   intro j hj
   have h1 := hl0 j hj
   have h2 : j < listed.size := by rw [inv.1]; simpa using hj
   simp [h2] at h1 ⊢; exact h1
  have hLe : listedL listed = fun j => decide (j < 0 + l.length) := by
   funext j
   by_cases hj : j < l.length
   ·simp only [listedL, hlf j hj, Nat.zero_add, hj, decide_true]
   ·have : ¬ j < listed.size := by rw [inv.1]; simpa using hj
    simp [listedL, this, hj]
  refine ⟨?_, ?_⟩
  ·rw [List.eq_nil_iff_forall_not_mem]
   intro j hj
   obtain ⟨hun, o, ho, _⟩ := mem_ready.1 hj
   have := hl0 j (by simpa using lt_of_op ho)
   rw [hun] at this; cases this
  have hfr : a' = putAll vs l 0 a := by
   obtain ⟨h1, h2, h3, h4⟩ := putAll_spec vs l 0 a
   have ht : a'.tmps = (putAll vs l 0 a).tmps := by
    apply Array.ext_getElem?
    intro t
    rw [hag.2.2 t]
    rcases srcI_cases (ops := l.toArray) t with ⟨j, o', ho', hd⟩ | hno
    ·rw [slotI_src hok ho' hd, show listedL listed j = true from hlf j (by simpa using lt_of_op ho'), if_pos rfl]
     rw [h4 j o' t (by simpa using ho') hd (fun j' o'' hlt hj' => hok.apart j o' j' o'' ho' (by simpa using hj') (by omega) t hd)]
     simp
    ·rw [slotI_none hno]
     exact (h3 t (fun j o' hj => hno j o' (by simpa using hj))).symm
   have hd : a'.defers = (putAll vs l 0 a).defers := by rw [hag.1, h1]
   cases a'; cases hp : putAll vs l 0 a
   rw [hp] at ht hd
   simp_all
  have hend := (wpInv_get vs l Vs 0 a _ hlen.symm h).2 w' hR (by rw [← hLe]; exact hI) (fun j hj => by omega) (fun j φ hφ => by
   rw [Nat.zero_add]
   have hjn : j < l.length := by rw [← hlen]; exact (List.getElem?_eq_some_iff.1 hφ).1
   exact hV j φ (hlf j hjn) hφ)
  rw [← hfr] at hend
  exact hend
 | succ f ih =>
  intro listed a' w' vs inv hc hag hR hI hV
  have hex : ∃ i, i < l.length ∧ listed.getD i true = false := by
   refine Classical.byContradiction fun hno => ?_
   have : cnt l.length listed = 0 := by
    unfold cnt
    rw [List.length_eq_zero_iff, List.filter_eq_nil_iff]
    intro j hj
    have hjn := List.mem_range.1 hj
    cases hl : listed.getD j true with
    | true => simp
    | false => exact absurd ⟨j, hjn, hl⟩ hno
   omega
  obtain ⟨i0, hi0, hun0⟩ := hex
  refine ⟨fun h0 => ?_, fun i hi => ?_⟩
  ·obtain ⟨j, hj⟩ := some_readyI hok inv.1 i0 i0 rfl (by simpa using hi0) hun0
   rw [h0] at hj; cases hj
  ·obtain ⟨hun, o, ho, hdep⟩ := mem_ready.1 hi
   have hin : i < l.length := by simpa using lt_of_op ho
   have hφ : ∃ φ, Vs[i]? = some φ := ⟨Vs[i]'(by omega), by simp [show i < Vs.length by omega]⟩
   obtain ⟨φ, hφ⟩ := hφ
   have hat := at_ready inv ho hun hdep
   have hstep := (wpInv_get vs l Vs 0 a _ hlen.symm h).1 i o φ (by simpa using ho) hφ (listedL listed) w' (by rw [Nat.zero_add]; exact hat) hR hI (fun e he hb => by
    have he' : e ∈ o.after := by simpa using he
    rw [if_neg (by omega)]
    intro ψ _ hψ
    rw [Nat.sub_zero] at hψ
    exact hV e.on ψ (hdep e he' hb) hψ) (fun e he hb => by
    have he' : e ∈ o.after := by simpa using he
    have := hok.back i o ho e he' hb; omega)
   rw [Nat.zero_add] at hstep
   have hlook := lookI_eq (L := listedL listed) hok ho hdep (getD_both hun) inv.2 hag
   have hsame := exec_same (hok.sel i o ho) hlook
   have hstep' : stepI P l.toArray R (I (fun j => j == i || listedL listed j)) o a' φ w' := by
    unfold stepI at hstep ⊢
    rw [hsame.1, hsame.2]; exact hstep
   have his : i < listed.size := by rw [inv.1]; exact lt_of_op ho
   refine wpOp_of_stepI ho (hrefl w') hstep' (fun v w'' hr hj hv => ?_)
   have hL : listedL (listed.setIfInBounds i true) = fun j => j == i || listedL listed j := by
    funext j
    by_cases hji : j = i
    ·subst hji; simp [listedL, his]
    ·simp [listedL, getD_set_ne false (Ne.symm hji), hji, Array.getElem?_setIfInBounds_ne (Ne.symm hji)]
   refine ih (listed.setIfInBounds i true) _ w'' (fun j => if j = i then v else vs j) ?_ ?_ ?_ (htrans _ _ _ hR hr) (by rw [hL]; exact hj) ?_
   ·refine ⟨by simp [inv.1], fun j oj hoj hl e he hb => ?_⟩
    by_cases hij : i = j
    ·subst hij
     have : oj = o := Option.some.inj (hoj.symm.trans ho)
     subst this
     exact getD_set_true (hdep e he hb)
    ·rw [getD_set_ne false hij] at hl
     exact getD_set_true (inv.2 j oj hoj hl e he hb)
   ·have := cnt_set hin his hun; omega
   ·refine ⟨by rw [put_defers]; exact hag.1, by rw [put_size]; exact hag.2.1, fun t => ?_⟩
    rcases srcI_cases (ops := l.toArray) t with ⟨j, o', ho', hd⟩ | hno
    ·rw [slotI_src hok ho' hd, hL]
     by_cases hji : j = i
     ·subst hji
      have : o' = o := by rw [ho] at ho'; exact (Option.some.inj ho').symm
      subst this
      rw [hd, put_tmps_same, if_pos rfl, hag.2.1]
      simp
     ·have hne : o.dst ≠ some t := fun he => hok.apart i o j o' ho ho' (Ne.symm hji) t he hd
      rw [put_tmps_other hne, hag.2.2 t, slotI_src hok ho' hd, if_neg hji]
      simp [hji]
    ·have hne : o.dst ≠ some t := hno i o ho
     rw [put_tmps_other hne, hag.2.2 t, slotI_none hno, slotI_none hno]
   ·intro j ψ hl hψ
    by_cases hji : j = i
    ·subst hji
     rw [hφ] at hψ; cases hψ
     simp only [if_true]; exact hv
    ·rw [if_neg hji]
     rw [getD_set_ne false (Ne.symm hji)] at hl
     exact hst ψ (List.mem_of_getElem? hψ) _ _ _ (hV j ψ hl hψ) hr

theorem wp_region_inv {id : Nat} {Q : Exit → Act → World → Prop} {a : Act} {w : World} {l : List Oper} (R : World → World → Prop) (I : (Nat → Bool) → World → Prop) (Vs : List (Value → World → Prop))
  (hm : P.follows .mixedOrders = true) (hB : okI l.toArray = true) (hlen : Vs.length = l.length) (hrefl : ∀ w, R w w) (htrans : ∀ x y z, R x y → R y z → R x z)
  (hst : ∀ φ ∈ Vs, ∀ v w w', φ v w → R w w' → φ v w') (w0 : World) (h0 : R w0 w.drew) (hI : I (fun _ => false) w.drew)
  (h : wpInv P l.toArray R I w0 (fun a' w' => Q .normal a' w') l Vs 0 a (fun _ _ => True)) : (Code.region id l.toArray true).wp P Q a w := by
 refine wp_region_any hm ?_
 have hL0 : listedL (Array.replicate l.toArray.size false) = fun _ => false := by
  funext j; unfold listedL; rw [getD_replicate_false]
 have hc : cnt l.length (Array.replicate l.toArray.size false) = l.length := by
  unfold cnt
  rw [List.filter_eq_self.2]
  ·simp
  ·intro j hj
   have hj' : j < l.length := List.mem_range.1 hj
   have := getD_in (listed := Array.replicate l.toArray.size false) (i := j) (by simpa using hj') (getD_replicate_false _ _)
   rw [this]; rfl
 have := any_of_inv (Q := Q) (okI_of hB) hlen hrefl htrans hst h l.length _ a { w with drawn := w.drawn + 1 } (fun _ => undef)
  ⟨by simp, fun j oj _ hl => (by rw [getD_replicate_false] at hl; cases hl)⟩ hc ⟨rfl, rfl, fun t => by
  unfold slotI
  split
  ·rw [hL0]; simp
  ·rfl⟩ h0 (by rw [hL0]; exact hI) (fun j φ hl => by rw [getD_replicate_false] at hl; cases hl)
 simpa using this
end Go.Rel
end
section
namespace Go.Rel
variable {P : Program} {ops : Array Oper}
/-! THE SAME, WHERE WHAT IS KNOWN OF THE WORLD MAY NAME THE VALUES THAT THE OPERATIONS HAVE YIELDED. -/
def upd (vs : Nat → Value) (k : Nat) (v : Value) : Nat → Value := fun j => if j = k then v else vs j
abbrev Knows := (Nat → Bool) → (Nat → Value) → World → Prop
def wpVal (P : Program) (ops : Array Oper) (R : World → World → Prop) (I : Knows) (w0 : World) (Q : Act → World → Prop) :
  List Oper → List (Value → World → Prop) → Nat → Act → (Nat → World → Prop) → (Nat → Value) → Prop
 | o :: rest, φ :: φs, k, a, F, us =>
   (∀ L vs w, (∀ j, j < k → vs j = us j) → At ops k L → R w0 w → I L vs w → factsI F o w → step P ops R o a (fun v w' => I (fun j => j == k || L j) (upd vs k v) w' ∧ φ v w') w) ∧
   ∀ v, wpVal P ops R I w0 Q rest φs (k + 1) (a.put o.dst v) (fun j w => if j = k then φ v w else F j w) (upd us k v)
 | _, _, k, a, F, us => ∀ vs w, (∀ j, j < k → vs j = us j) → R w0 w → I (fun j => decide (j < k)) vs w → (∀ j, j < k → F j w) → Q a w
theorem wpVal_get {R : World → World → Prop} {I : Knows} {w0 : World} {Q : Act → World → Prop} (vs : Nat → Value) :
  ∀ (l : List Oper) (Vs : List (Value → World → Prop)) (k : Nat) (a : Act) (F : Nat → World → Prop) (us : Nat → Value), l.length = Vs.length →
   (∀ j, j < k → vs j = us j) → wpVal P ops R I w0 Q l Vs k a F us →
   (∀ (i : Nat) (o : Oper) (φ : Value → World → Prop), l[i]? = some o → Vs[i]? = some φ → ∀ L w, At ops (k + i) L → R w0 w → I L vs w →
    (∀ e ∈ o.after.toList, Region.binds .any e = true → (if e.on < k then F e.on w else ∀ ψ, e.on < k + i → Vs[e.on - k]? = some ψ → ψ (vs e.on) w)) →
    (∀ e ∈ o.after.toList, Region.binds .any e = true → e.on < k + i) →
    step P ops R o (putAll vs (l.take i) k a) (fun v w' => I (fun j => j == k + i || L j) (upd vs (k + i) v) w' ∧ φ v w') w) ∧
   (∀ w, R w0 w → I (fun j => decide (j < k + l.length)) vs w → (∀ j, j < k → F j w) → (∀ (j : Nat) (φ : Value → World → Prop), Vs[j]? = some φ → φ (vs (k + j)) w) → Q (putAll vs l k a) w)
 | [], Vs, k, a, F, us, hlen, hus, h => by
  have : Vs = [] := List.length_eq_zero_iff.1 hlen.symm
  subst this
  refine ⟨fun i o φ h => by simp at h, fun w hw hI hF _ => ?_⟩
  simp only [wpVal] at h
  exact h vs w hus hw hI hF
 | o :: l, [], k, a, F, us, hlen, _, h => by simp at hlen
 | o :: l, φ :: Vs, k, a, F, us, hlen, hus, h => by
  simp only [wpVal] at h
  obtain ⟨hs, hr⟩ := h
  obtain ⟨g1, g2⟩ := wpVal_get vs l Vs (k + 1) (a.put o.dst (vs k)) _ (upd us k (vs k)) (by simpa using hlen) (fun j hj => by
   unfold upd
   by_cases e : j = k
   ·rw [if_pos e, e]
   ·rw [if_neg e]; exact hus j (by omega)) (hr (vs k))
  refine ⟨fun i o' φ' hi hφ L w hat hw hI hF hlt => ?_, fun w hw hI hF hV => ?_⟩
  ·cases i with
   | zero =>
    have h1 : o = o' := by simpa using hi
    have h2 : φ = φ' := by simpa using hφ
    subst h1; subst h2
    simp only [List.take_zero, putAll]
    refine hs L vs w hus hat hw hI (fun e he hb => ?_)
    have := hF e he hb
    rwa [if_pos (by have := hlt e he hb; omega)] at this
   | succ i =>
    simp only [List.take_succ_cons, putAll]
    have e1 : k + (i + 1) = k + 1 + i := by omega
    rw [e1] at hat ⊢
    refine g1 i o' φ' (by simpa using hi) (by simpa using hφ) L w hat hw hI (fun e he hb => ?_) (fun e he hb => by have := hlt e he hb; omega)
    have h1 := hF e he hb
    have h2 := hlt e he hb
    by_cases hek : e.on < k
    ·rw [if_pos hek] at h1
     rw [if_pos (by omega), if_neg (by omega)]; exact h1
    ·rw [if_neg hek] at h1
     by_cases hek' : e.on = k
     ·rw [if_pos (by omega), if_pos hek', ← hek']
      exact h1 φ h2 (by rw [hek']; simp)
     ·rw [if_neg (by omega)]
      intro ψ hlt' hψ
      refine h1 ψ (by omega) ?_
      rw [show e.on - k = (e.on - (k + 1)) + 1 by omega]
      simpa using hψ
  ·simp only [putAll]
   refine g2 w hw (by simpa [Nat.add_assoc, Nat.add_comm 1] using hI) (fun j hj => ?_) (fun j ψ hψ => ?_)
   ·by_cases hjk : j = k
    ·subst hjk; simp only [if_true]; have := hV 0 φ (by simp); simpa using this
    ·rw [if_neg hjk]; exact hF j (by omega)
   ·have := hV (j + 1) ψ (by simpa using hψ)
    rwa [show k + (j + 1) = k + 1 + j by omega] at this
theorem any_of_val {Q : Exit → Act → World → Prop} {R : World → World → Prop} {I : Knows} {w0 : World} {a : Act} {l : List Oper} {Vs : List (Value → World → Prop)}
  (hok : OkI l.toArray) (hlen : Vs.length = l.length) (hrefl : ∀ w, R w w) (htrans : ∀ x y z, R x y → R y z → R x z)
  (hst : ∀ φ ∈ Vs, ∀ v w w', φ v w → R w w' → φ v w') (u0 : Nat → Value)
  (h : wpVal P l.toArray R I w0 (fun a' w' => Q .normal a' w') l Vs 0 a (fun _ _ => True) u0) :
  ∀ (f : Nat) (listed : Array Bool) (a' : Act) (w' : World) (vs : Nat → Value), ClosedL l.toArray listed → cnt l.length listed = f → AgreeI l.toArray (listedL listed) vs a a' → R w0 w' → I (listedL listed) vs w' →
   (∀ (j : Nat) (φ : Value → World → Prop), listed.getD j false = true → Vs[j]? = some φ → φ (vs j) w') → wpAny P .any l.toArray Q f listed a' w' := by
 intro f
 induction f with
 | zero =>
  intro listed a' w' vs inv hc hag hR hI hV
  have hl0 := cnt_zero hc
  have hlf : ∀ j, j < l.length → listed.getD j false = true := by
   intro j hj
   have h1 := hl0 j hj
   have h2 : j < listed.size := by rw [inv.1]; simpa using hj
   simp [h2] at h1 ⊢; exact h1
  have hLe : listedL listed = fun j => decide (j < 0 + l.length) := by
   funext j
   by_cases hj : j < l.length
   ·simp only [listedL, hlf j hj, Nat.zero_add, hj, decide_true]
   ·have : ¬ j < listed.size := by rw [inv.1]; simpa using hj
    simp [listedL, this, hj]
  refine ⟨?_, ?_⟩
  ·rw [List.eq_nil_iff_forall_not_mem]
   intro j hj
   obtain ⟨hun, o, ho, _⟩ := mem_ready.1 hj
   have := hl0 j (by simpa using lt_of_op ho)
   rw [hun] at this; cases this
  have hfr : a' = putAll vs l 0 a := by
   obtain ⟨h1, h2, h3, h4⟩ := putAll_spec vs l 0 a
   have ht : a'.tmps = (putAll vs l 0 a).tmps := by
    apply Array.ext_getElem?
    intro t
    rw [hag.2.2 t]
    rcases srcI_cases (ops := l.toArray) t with ⟨j, o', ho', hd⟩ | hno
    ·rw [slotI_src hok ho' hd, show listedL listed j = true from hlf j (by simpa using lt_of_op ho'), if_pos rfl]
     rw [h4 j o' t (by simpa using ho') hd (fun j' o'' hlt hj' => hok.apart j o' j' o'' ho' (by simpa using hj') (by omega) t hd)]
     simp
    ·rw [slotI_none hno]
     exact (h3 t (fun j o' hj => hno j o' (by simpa using hj))).symm
   have hd : a'.defers = (putAll vs l 0 a).defers := by rw [hag.1, h1]
   cases a'; cases hp : putAll vs l 0 a
   rw [hp] at ht hd
   simp_all
  have hend := (wpVal_get vs l Vs 0 a _ u0 hlen.symm (fun j hj => by omega) h).2 w' hR (by rw [← hLe]; exact hI) (fun j hj => by omega) (fun j φ hφ => by
   rw [Nat.zero_add]
   have hjn : j < l.length := by rw [← hlen]; exact (List.getElem?_eq_some_iff.1 hφ).1
   exact hV j φ (hlf j hjn) hφ)
  rw [← hfr] at hend
  exact hend
 | succ f ih =>
  intro listed a' w' vs inv hc hag hR hI hV
  have hex : ∃ i, i < l.length ∧ listed.getD i true = false := by
   refine Classical.byContradiction fun hno => ?_
   have : cnt l.length listed = 0 := by
    unfold cnt
    rw [List.length_eq_zero_iff, List.filter_eq_nil_iff]
    intro j hj
    have hjn := List.mem_range.1 hj
    cases hl : listed.getD j true with
    | true => simp
    | false => exact absurd ⟨j, hjn, hl⟩ hno
   omega
  obtain ⟨i0, hi0, hun0⟩ := hex
  refine ⟨fun h0 => ?_, fun i hi => ?_⟩
  ·obtain ⟨j, hj⟩ := some_readyI hok inv.1 i0 i0 rfl (by simpa using hi0) hun0
   rw [h0] at hj; cases hj
  ·obtain ⟨hun, o, ho, hdep⟩ := mem_ready.1 hi
   have hin : i < l.length := by simpa using lt_of_op ho
   have hφ : ∃ φ, Vs[i]? = some φ := ⟨Vs[i]'(by omega), by simp [show i < Vs.length by omega]⟩
   obtain ⟨φ, hφ⟩ := hφ
   have hat := at_ready inv ho hun hdep
   have hstep := (wpVal_get vs l Vs 0 a _ u0 hlen.symm (fun j hj => by omega) h).1 i o φ (by simpa using ho) hφ (listedL listed) w' (by rw [Nat.zero_add]; exact hat) hR hI (fun e he hb => by
    have he' : e ∈ o.after := by simpa using he
    rw [if_neg (by omega)]
    intro ψ _ hψ
    rw [Nat.sub_zero] at hψ
    exact hV e.on ψ (hdep e he' hb) hψ) (fun e he hb => by
    have he' : e ∈ o.after := by simpa using he
    have := hok.back i o ho e he' hb; omega)
   rw [Nat.zero_add] at hstep
   have hlook := lookI_eq (L := listedL listed) hok ho hdep (getD_both hun) inv.2 hag
   have hsame := exec_same (hok.sel i o ho) hlook
   have hstep' : step P l.toArray R o a' (fun v w'' => I (fun j => j == i || listedL listed j) (upd vs i v) w'' ∧ φ v w'') w' := by
    unfold step at hstep ⊢
    rw [hsame.1, hsame.2]; exact hstep
   have his : i < listed.size := by rw [inv.1]; exact lt_of_op ho
   refine wpOp_of_step ho (hrefl w') hstep' (fun v w'' hr hjv => ?_)
   obtain ⟨hj, hv⟩ := hjv
   have hL : listedL (listed.setIfInBounds i true) = fun j => j == i || listedL listed j := by
    funext j
    by_cases hji : j = i
    ·subst hji; simp [listedL, his]
    ·simp [listedL, getD_set_ne false (Ne.symm hji), hji, Array.getElem?_setIfInBounds_ne (Ne.symm hji)]
   refine ih (listed.setIfInBounds i true) _ w'' (fun j => if j = i then v else vs j) ?_ ?_ ?_ (htrans _ _ _ hR hr) (by rw [hL]; exact hj) ?_
   ·refine ⟨by simp [inv.1], fun j oj hoj hl e he hb => ?_⟩
    by_cases hij : i = j
    ·subst hij
     have : oj = o := Option.some.inj (hoj.symm.trans ho)
     subst this
     exact getD_set_true (hdep e he hb)
    ·rw [getD_set_ne false hij] at hl
     exact getD_set_true (inv.2 j oj hoj hl e he hb)
   ·have := cnt_set hin his hun; omega
   ·refine ⟨by rw [put_defers]; exact hag.1, by rw [put_size]; exact hag.2.1, fun t => ?_⟩
    rcases srcI_cases (ops := l.toArray) t with ⟨j, o', ho', hd⟩ | hno
    ·rw [slotI_src hok ho' hd, hL]
     by_cases hji : j = i
     ·subst hji
      have : o' = o := by rw [ho] at ho'; exact (Option.some.inj ho').symm
      subst this
      rw [hd, put_tmps_same, if_pos rfl, hag.2.1]
      simp
     ·have hne : o.dst ≠ some t := fun he => hok.apart i o j o' ho ho' (Ne.symm hji) t he hd
      rw [put_tmps_other hne, hag.2.2 t, slotI_src hok ho' hd, if_neg hji]
      simp [hji]
    ·have hne : o.dst ≠ some t := hno i o ho
     rw [put_tmps_other hne, hag.2.2 t, slotI_none hno, slotI_none hno]
   ·intro j ψ hl hψ
    by_cases hji : j = i
    ·subst hji
     rw [hφ] at hψ; cases hψ
     simp only [if_true]; exact hv
    ·rw [if_neg hji]
     rw [getD_set_ne false (Ne.symm hji)] at hl
     exact hst ψ (List.mem_of_getElem? hψ) _ _ _ (hV j ψ hl hψ) hr
theorem wp_region_val {id : Nat} {Q : Exit → Act → World → Prop} {a : Act} {w : World} {l : List Oper} (R : World → World → Prop) (I : Knows) (Vs : List (Value → World → Prop))
  (hm : P.follows .mixedOrders = true) (hB : okI l.toArray = true) (hlen : Vs.length = l.length) (hrefl : ∀ w, R w w) (htrans : ∀ x y z, R x y → R y z → R x z)
  (hst : ∀ φ ∈ Vs, ∀ v w w', φ v w → R w w' → φ v w') (w0 : World) (h0 : R w0 w.drew) (hI : I (fun _ => false) (fun _ => undef) w.drew)
  (h : wpVal P l.toArray R I w0 (fun a' w' => Q .normal a' w') l Vs 0 a (fun _ _ => True) (fun _ => undef)) : (Code.region id l.toArray true).wp P Q a w := by
 refine wp_region_any hm ?_
 have hL0 : listedL (Array.replicate l.toArray.size false) = fun _ => false := by
  funext j; unfold listedL; rw [getD_replicate_false]
 have hc : cnt l.length (Array.replicate l.toArray.size false) = l.length := by
  unfold cnt
  rw [List.filter_eq_self.2]
  ·simp
  ·intro j hj
   have hj' : j < l.length := List.mem_range.1 hj
   have := getD_in (listed := Array.replicate l.toArray.size false) (i := j) (by simpa using hj') (getD_replicate_false _ _)
   rw [this]; rfl
 have := any_of_val (Q := Q) (okI_of hB) hlen hrefl htrans hst _ h l.length _ a { w with drawn := w.drawn + 1 } (fun _ => undef)
  ⟨by simp, fun j oj _ hl => (by rw [getD_replicate_false] at hl; cases hl)⟩ hc ⟨rfl, rfl, fun t => by
  unfold slotI
  split
  ·rw [hL0]; simp
  ·rfl⟩ h0 (by rw [hL0]; exact hI) (fun j φ hl => by rw [getD_replicate_false] at hl; cases hl)
 simpa using this
theorem val_cons {R : World → World → Prop} {I : Knows} {w0 : World} {Q : Act → World → Prop} {o : Oper} {rest : List Oper} {φ : Value → World → Prop} {φs : List (Value → World → Prop)} {k : Nat} {a : Act} {F : Nat → World → Prop} {us : Nat → Value}
  (h1 : ∀ L vs w, (∀ j, j < k → vs j = us j) → At ops k L → R w0 w → I L vs w → factsI F o w → step P ops R o a (fun v w' => I (fun j => j == k || L j) (upd vs k v) w' ∧ φ v w') w)
  (h2 : ∀ v, wpVal P ops R I w0 Q rest φs (k + 1) (a.put o.dst v) (fun j w => if j = k then φ v w else F j w) (upd us k v)) : wpVal P ops R I w0 Q (o :: rest) (φ :: φs) k a F us := ⟨h1, h2⟩
theorem val_nil {R : World → World → Prop} {I : Knows} {w0 : World} {Q : Act → World → Prop} {φs : List (Value → World → Prop)} {k : Nat} {a : Act} {F : Nat → World → Prop} {us : Nat → Value}
  (h : ∀ vs w, (∀ j, j < k → vs j = us j) → R w0 w → I (fun j => decide (j < k)) vs w → (∀ j, j < k → F j w) → Q a w) : wpVal P ops R I w0 Q [] φs k a F us := h
end Go.Rel
end
