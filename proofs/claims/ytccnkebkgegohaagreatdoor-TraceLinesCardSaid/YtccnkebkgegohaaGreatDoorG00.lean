import Derived.StillTail
import Derived.Laws.World
/-
  Given contracts of functions of the program, and laws for them, one behind the other.
-/
set_option linter.unusedVariables false
set_option linter.unusedSimpArgs false
set_option linter.unusedSectionVars false
section
namespace Go.Rel

/-- What is asked of one operation of a region that may come in any order: it yields a value of which φ holds, and the world has moved by R. -/
def upon (P : Program) (R : World → World → Prop) (w : World) (φ : Value → World → Prop) : Result Next → Prop
 | .ok (.value v) w' => R w w' ∧ φ v w'
 | .ok .skip w' => R w w' ∧ φ undef w'
 | .ok (.enter f args) w' => Calls P f args w' (fun e w'' => ∃ v, e = .returned v ∧ R w w'' ∧ φ v w'')
 | _ => False

@[irreducible] def step (P : Program) (ops : Array Oper) (R : World → World → Prop) (o : Oper) (a : Act) (φ : Value → World → Prop) (w : World) : Prop :=
 if Region.wanted o (yielded ops a.tmps) then upon P R w φ ((execOp a.eval o).run P w) else φ undef w

/-- The facts that operation o may lean on: those of the operations that it waits for. -/
def facts (F : Nat → World → Prop) (o : Oper) (w : World) : Prop := ∀ e ∈ o.after.toList, F e.on w

/-- The walk of the lexical order; Vs: what is said of each operation's value. -/
def wpRel (P : Program) (ops : Array Oper) (R : World → World → Prop) (w0 : World) (Q : Act → World → Prop) :
  List Oper → List (Value → World → Prop) → Nat → Act → (Nat → World → Prop) → Prop
 | o :: rest, φ :: φs, k, a, F =>
   (∀ w, R w0 w → facts F o w → step P ops R o a φ w) ∧
   ∀ v, wpRel P ops R w0 Q rest φs (k + 1) (a.put o.dst v) (fun j w => if j = k then φ v w else F j w)
 | _, _, k, a, F => ∀ w, R w0 w → (∀ j, j < k → F j w) → Q a w

def putAll (vs : Nat → Value) : List Oper → Nat → Act → Act
 | [], _, a => a
 | o :: rest, k, a => putAll vs rest (k + 1) (a.put o.dst (vs k))

/-- The closed facts on a region's text: the first n operations have slots of their own, look only at slots of those that they wait for. -/
def okB (ops : Array Oper) (n : Nat) : Bool :=
 (List.range n).all fun i => match ops[i]? with
  | none => false
  | some o => (o.after.all fun e => decide (e.on < i) && Region.binds .any e) && (match o.op with | .select .. => false | _ => true) &&
    (List.range n).all fun j => match ops[j]? with
     | none => false
     | some o' => (i == j || match o.dst, o'.dst with
       | some d, some d' => d != d'
       | _, _ => true) &&
      match o'.dst with
      | none => true
      | some d => !(o.looksAt ops).contains d || o.after.any fun e => e.on == j

variable {P : Program} {ops : Array Oper}

theorem put_tmps_other {a : Act} {d : Option Tmp} {v : Value} {t : Tmp} (h : d ≠ some t) : (a.put d v).tmps[t]? = a.tmps[t]? := by
 cases d with
 | none => rfl
 | some d =>
  have : d ≠ t := fun e => h (by rw [e])
  simp [Act.put, Array.getElem?_setIfInBounds_ne this]

theorem put_size {a : Act} {d : Option Tmp} {v : Value} : (a.put d v).tmps.size = a.tmps.size := by
 cases d <;> simp [Act.put]

theorem put_defers {a : Act} {d : Option Tmp} {v : Value} : (a.put d v).defers = a.defers := by
 cases d <;> simp [Act.put]

theorem put_tmps_same {a : Act} {d : Tmp} {v : Value} : (a.put (some d) v).tmps[d]? = if d < a.tmps.size then some v else none := by
 simp only [Act.put]
 by_cases h : d < a.tmps.size
 ·simp [h]
 ·simp [h]

end Go.Rel
namespace Go.Rel
variable {P : Program} {ops : Array Oper}

/-- the slot t holds what operation j (already carried out) has yielded, or what it held at first -/
def slot (ops : Array Oper) (n : Nat) (listed : Array Bool) (vs : Nat → Value) (a : Act) (t : Tmp) : Option Value :=
 match (List.range n).find? (fun j => ((ops[j]?).bind (·.dst)) == some t) with
 | some j => if listed.getD j false then (if t < a.tmps.size then some (vs j) else none) else a.tmps[t]?
 | none => a.tmps[t]?

def Agree (ops : Array Oper) (n : Nat) (listed : Array Bool) (vs : Nat → Value) (a a' : Act) : Prop :=
 a'.defers = a.defers ∧ a'.tmps.size = a.tmps.size ∧ ∀ t, a'.tmps[t]? = slot ops n listed vs a t

structure Ok (ops : Array Oper) (n : Nat) : Prop where
 op : ∀ i, i < n → ∃ o, ops[i]? = some o
 back : ∀ i o, i < n → ops[i]? = some o → ∀ e ∈ o.after, e.on < i ∧ Region.binds .any e = true
 sel : ∀ i o, i < n → ops[i]? = some o → ∀ cs b, o.op ≠ .select cs b
 apart : ∀ i o j o', i < n → j < n → ops[i]? = some o → ops[j]? = some o' → i ≠ j → ∀ d, o.dst = some d → o'.dst ≠ some d
 looks : ∀ i o j o' d, i < n → j < n → ops[i]? = some o → ops[j]? = some o' → o'.dst = some d → d ∈ o.looksAt ops → ∃ e ∈ o.after, e.on = j

theorem ok_of_okB {n : Nat} (h : okB ops n = true) : Ok ops n := by
 have h1 : ∀ i, i < n → ∃ o, ops[i]? = some o ∧ (∀ e ∈ o.after, e.on < i ∧ Region.binds .any e = true) ∧ (∀ cs b, o.op ≠ .select cs b) ∧
   ∀ j, j < n → ∃ o', ops[j]? = some o' ∧ (i ≠ j → ∀ d, o.dst = some d → o'.dst ≠ some d) ∧ (∀ d, o'.dst = some d → d ∈ o.looksAt ops → ∃ e ∈ o.after, e.on = j) := by
  intro i hi
  have h0 := List.all_eq_true.1 h i (List.mem_range.2 hi)
  cases ho : ops[i]? with
  | none => rw [ho] at h0; cases h0
  | some o =>
   rw [ho] at h0
   simp only [Bool.and_eq_true] at h0
   obtain ⟨⟨ha, hs⟩, hj⟩ := h0
   refine ⟨o, rfl, fun e he => ?_, fun cs b heq => ?_, fun j hjn => ?_⟩
   ·have := (Array.all_eq_true_iff_forall_mem.1 ha) e he
    simpa using this
   ·rw [heq] at hs; cases hs
   ·have h2 := List.all_eq_true.1 hj j (List.mem_range.2 hjn)
    cases ho' : ops[j]? with
    | none => rw [ho'] at h2; cases h2
    | some o' =>
     rw [ho'] at h2
     simp only [Bool.and_eq_true, Bool.or_eq_true, beq_iff_eq] at h2
     refine ⟨o', rfl, fun hne d hd hd' => ?_, fun d hd hl => ?_⟩
     ·rcases h2.1 with h3 | h3
      ·exact hne h3
      ·rw [hd, hd'] at h3; simp at h3
     ·have h3 := h2.2
      rw [hd] at h3
      simp only [Bool.or_eq_true, Bool.not_eq_true'] at h3
      rcases h3 with h3 | h3
      ·rw [List.contains_eq_mem] at h3; simp [hl] at h3
      ·obtain ⟨e, he, h4⟩ := Array.any_eq_true'.1 h3
       exact ⟨e, he, by simpa using h4⟩
 refine ⟨fun i hi => let ⟨o, ho, _⟩ := h1 i hi; ⟨o, ho⟩, fun i o hi ho => ?_, fun i o hi ho => ?_, fun i o j o' hi hj ho ho' hne => ?_, fun i o j o' d hi hj ho ho' hd hl => ?_⟩
 ·obtain ⟨o1, ho1, h2, _⟩ := h1 i hi; rw [ho] at ho1; cases ho1; exact h2
 ·obtain ⟨o1, ho1, _, h2, _⟩ := h1 i hi; rw [ho] at ho1; cases ho1; exact h2
 ·obtain ⟨o1, ho1, _, _, h2⟩ := h1 i hi; rw [ho] at ho1; cases ho1
  obtain ⟨o2, ho2, h3, _⟩ := h2 j hj; rw [ho'] at ho2; cases ho2; exact h3 hne
 ·obtain ⟨o1, ho1, _, _, h2⟩ := h1 i hi; rw [ho] at ho1; cases ho1
  obtain ⟨o2, ho2, _, h3⟩ := h2 j hj; rw [ho'] at ho2; cases ho2; exact h3 d hd hl

theorem find_src {n j : Nat} {o : Oper} {d : Tmp} (hok : Ok ops n) (hj : j < n) (ho : ops[j]? = some o) (hd : o.dst = some d) :
  (List.range n).find? (fun j => ((ops[j]?).bind (·.dst)) == some d) = some j := by
 rw [List.find?_eq_some_iff_append]
 refine ⟨by simp [ho, hd], List.range j, List.range' (j + 1) (n - j - 1), ?_, ?_⟩
 ·rw [List.range_eq_range', List.range_eq_range', ← List.range'_succ]
  have := List.range'_append_1 (s := 0) (m := j) (n := n - j - 1 + 1)
  rw [Nat.zero_add] at this
  rw [this, show j + (n - j - 1 + 1) = n by omega]
 ·intro k hk
  have hkj : k < j := List.mem_range.1 hk
  obtain ⟨o', ho'⟩ := hok.op k (by omega)
  have := hok.apart j o k o' hj (by omega) ho ho' (by omega) d hd
  simp [ho', this]

theorem find_none {n : Nat} {t : Tmp} (hok : Ok ops n) (h : ∀ j o, j < n → ops[j]? = some o → o.dst ≠ some t) :
  (List.range n).find? (fun j => ((ops[j]?).bind (·.dst)) == some t) = none := by
 rw [List.find?_eq_none]
 intro j hj
 obtain ⟨o, ho⟩ := hok.op j (List.mem_range.1 hj)
 simp [ho, h j o (List.mem_range.1 hj) ho]

theorem src_cases {n : Nat} (hok : Ok ops n) (t : Tmp) : (∃ j o, j < n ∧ ops[j]? = some o ∧ o.dst = some t) ∨ (∀ j o, j < n → ops[j]? = some o → o.dst ≠ some t) := by
 by_cases h : ∃ j o, j < n ∧ ops[j]? = some o ∧ o.dst = some t
 ·exact .inl h
 ·exact .inr fun j o hj ho hd => h ⟨j, o, hj, ho, hd⟩

theorem slot_src {n j : Nat} {o : Oper} {d : Tmp} (hok : Ok ops n) (hj : j < n) (ho : ops[j]? = some o) (hd : o.dst = some d) (listed : Array Bool) (vs : Nat → Value) (a : Act) :
  slot ops n listed vs a d = if listed.getD j false then (if d < a.tmps.size then some (vs j) else none) else a.tmps[d]? := by
 unfold slot; rw [find_src hok hj ho hd]

theorem slot_none {n : Nat} {t : Tmp} (hok : Ok ops n) (h : ∀ j o, j < n → ops[j]? = some o → o.dst ≠ some t) (listed : Array Bool) (vs : Nat → Value) (a : Act) :
  slot ops n listed vs a t = a.tmps[t]? := by
 unfold slot; rw [find_none hok h]

/-- the frame of the lexical order, k operations in -/
theorem putAll_spec (vs : Nat → Value) : ∀ (l : List Oper) (k : Nat) (a : Act), (putAll vs l k a).defers = a.defers ∧ (putAll vs l k a).tmps.size = a.tmps.size ∧
  (∀ t, (∀ (j : Nat) (o : Oper), l[j]? = some o → o.dst ≠ some t) → (putAll vs l k a).tmps[t]? = a.tmps[t]?) ∧
  (∀ (j : Nat) (o : Oper) (t : Tmp), l[j]? = some o → o.dst = some t → (∀ (j' : Nat) (o' : Oper), j < j' → l[j']? = some o' → o'.dst ≠ some t) → (putAll vs l k a).tmps[t]? = if t < a.tmps.size then some (vs (k + j)) else none)
 | [], k, a => ⟨rfl, rfl, fun _ _ => rfl, fun j o t h => by simp at h⟩
 | o :: l, k, a => by
  obtain ⟨h1, h2, h3, h4⟩ := putAll_spec vs l (k + 1) (a.put o.dst (vs k))
  refine ⟨by rw [putAll, h1, put_defers], by rw [putAll, h2, put_size], fun t ht => ?_, fun j o' t hj hd hlast => ?_⟩
  ·rw [putAll, h3 t (fun j o' hj => ht (j + 1) o' (by simpa using hj)), put_tmps_other (ht 0 o (by simp))]
  ·cases j with
   | zero =>
    have : o = o' := by simpa using hj
    subst this
    rw [putAll, h3 t (fun j' o' hj' => hlast (j' + 1) o' (by omega) (by simpa using hj')), hd, put_tmps_same]; rfl
   | succ j =>
    rw [putAll, h4 j o' t (by simpa using hj) hd (fun j' o'' hlt hj' => hlast (j' + 1) o'' (by omega) (by simpa using hj')), put_size]
    rw [show k + 1 + j = k + (j + 1) by omega]

/-- the obligations of the walk, taken out of it one by one -/
theorem wpRel_get {R : World → World → Prop} {w0 : World} {Q : Act → World → Prop} (vs : Nat → Value) :
  ∀ (l : List Oper) (Vs : List (Value → World → Prop)) (k : Nat) (a : Act) (F : Nat → World → Prop), l.length = Vs.length → wpRel P ops R w0 Q l Vs k a F →
   (∀ (i : Nat) (o : Oper) (φ : Value → World → Prop), l[i]? = some o → Vs[i]? = some φ → ∀ w, R w0 w → (∀ e ∈ o.after.toList, (if e.on < k then F e.on w else ∀ ψ, e.on < k + i → Vs[e.on - k]? = some ψ → ψ (vs e.on) w)) →
    (∀ e ∈ o.after.toList, e.on < k + i) →
    step P ops R o (putAll vs (l.take i) k a) φ w) ∧
   (∀ w, R w0 w → (∀ j, j < k → F j w) → (∀ (j : Nat) (φ : Value → World → Prop), Vs[j]? = some φ → φ (vs (k + j)) w) → Q (putAll vs l k a) w)
 | [], Vs, k, a, F, hlen, h => by
  have : Vs = [] := List.length_eq_zero_iff.1 hlen.symm
  subst this
  refine ⟨fun i o φ h => by simp at h, fun w hw hF _ => ?_⟩
  simp only [wpRel] at h
  exact h w hw hF
 | o :: l, [], k, a, F, hlen, h => by simp at hlen
 | o :: l, φ :: Vs, k, a, F, hlen, h => by
  simp only [wpRel] at h
  obtain ⟨hs, hr⟩ := h
  obtain ⟨g1, g2⟩ := wpRel_get vs l Vs (k + 1) (a.put o.dst (vs k)) _ (by simpa using hlen) (hr (vs k))
  refine ⟨fun i o' φ' hi hφ w hw hF hlt => ?_, fun w hw hF hV => ?_⟩
  ·cases i with
   | zero =>
    have h1 : o = o' := by simpa using hi
    have h2 : φ = φ' := by simpa using hφ
    subst h1; subst h2
    simp only [List.take_zero, putAll]
    refine hs w hw (fun e he => ?_)
    have := hF e he
    rwa [if_pos (by have := hlt e he; omega)] at this
   | succ i =>
    simp only [List.take_succ_cons, putAll]
    refine g1 i o' φ' (by simpa using hi) (by simpa using hφ) w hw (fun e he => ?_) (fun e he => by have := hlt e he; omega)
    have h1 := hF e he
    have h2 := hlt e he
    by_cases hek : e.on < k
    ·rw [if_pos hek] at h1
     rw [if_pos (by omega), if_neg (by omega)]; exact h1
    ·rw [if_neg hek] at h1
     by_cases hek' : e.on = k
     ·rw [if_pos (by omega), if_pos hek', ← hek']
      exact h1 φ h2 (by rw [hek']; simp)
     ·rw [if_neg (by omega)]
      intro ψ hlt' hψ
      refine h1 ψ (by omega) ?_
      rw [show e.on - k = (e.on - (k + 1)) + 1 by omega]
      simpa using hψ
  ·simp only [putAll]
   refine g2 w hw (fun j hj => ?_) (fun j ψ hψ => ?_)
   ·by_cases hjk : j = k
    ·subst hjk; simp only [if_true]; have := hV 0 φ (by simp); simpa using this
    ·rw [if_neg hjk]; exact hF j (by omega)
   ·have := hV (j + 1) ψ (by simpa using hψ)
    rwa [show k + (j + 1) = k + 1 + j by omega] at this
end Go.Rel
namespace Go.Rel
variable {P : Program} {ops : Array Oper}

theorem take_get {l : List Oper} {n i : Nat} (hi : i < n) : (l.take n)[i]? = l[i]? := by
 rw [List.getElem?_take]; simp [hi]

theorem look_eq {l : List Oper} {n i : Nat} {o : Oper} {listed : Array Bool} {vs : Nat → Value} {a a' : Act} (hok : Ok l.toArray n) (hi : i < n) (ho : l.toArray[i]? = some o)
  (hdep : ∀ e ∈ o.after, listed.getD e.on false = true) (hag : Agree l.toArray n listed vs a a') : ∀ t ∈ o.looksAt l.toArray, a'.tmps[t]? = (putAll vs (l.take i) 0 a).tmps[t]? := by
 intro t ht
 obtain ⟨_, _, h3, h4⟩ := putAll_spec vs (l.take i) 0 a
 rw [hag.2.2 t]
 rcases src_cases hok t with ⟨j, o', hj, ho', hd⟩ | hno
 ·obtain ⟨e, he, hej⟩ := hok.looks i o j o' t hi hj ho ho' hd ht
  have hji : j < i := by have := (hok.back i o hi ho e he).1; omega
  rw [slot_src hok hj ho' hd, ← hej, hdep e he, if_pos rfl, hej]
  rw [h4 j o' t (by rw [take_get hji]; simpa using ho') hd (fun j' o'' hlt hj' => ?_)]
  ·simp
  ·have hj'i : j' < i := by
    rcases Nat.lt_or_ge j' i with h | h
    ·exact h
    ·rw [List.getElem?_take, if_neg (by omega)] at hj'; cases hj'
   rw [take_get hj'i] at hj'
   exact hok.apart j o' j' o'' hj (by omega) ho' (by simpa using hj') (by omega) t hd
 ·rw [slot_none hok hno]
  refine (h3 t (fun j o' hj => ?_)).symm
  have hji : j < i := by
   rcases Nat.lt_or_ge j i with h | h
   ·exact h
   ·rw [List.getElem?_take, if_neg (by omega)] at hj; cases hj
  rw [take_get hji] at hj
  exact hno j o' (by omega) (by simpa using hj)

theorem eval_of_tmps {a a' : Act} {x : Operand} (h : ∀ t, x = .tmp t → a'.tmps[t]? = a.tmps[t]?) : a'.eval x = a.eval x := by
 cases x with
 | tmp t => simp only [Act.eval, Array.getD_eq_getD_getElem?, h t rfl]
 | _ => rfl

theorem exec_same {l : List Oper} {o : Oper} {a a' : Act} (hs : ∀ cs b, o.op ≠ .select cs b) (h : ∀ t ∈ o.looksAt l.toArray, a'.tmps[t]? = a.tmps[t]?) :
  execOp a'.eval o = execOp a.eval o ∧ Region.wanted o (yielded l.toArray a'.tmps) = Region.wanted o (yielded l.toArray a.tmps) := by
 constructor
 ·refine execOp_congr o hs fun x hx => eval_of_tmps fun t ht => h t ?_
  subst ht
  exact List.mem_append_left _ (List.mem_filterMap.2 ⟨.tmp t, by simpa using hx, rfl⟩)
 ·unfold Region.wanted
  cases hg : o.guard with
  | none => rfl
  | some gw =>
   obtain ⟨g, want⟩ := gw
   have : yielded l.toArray a'.tmps g = yielded l.toArray a.tmps g := by
    unfold yielded
    cases ht : (l.toArray[g]?).bind (·.dst) with
    | none => rfl
    | some t => simp only [Option.bind_some]; rw [h t (by simp only [Oper.looksAt, hg]; rw [ht]; simp)]
   simp only [this]

theorem wpOp_of_step {Q : Exit → Act → World → Prop} {R : World → World → Prop} {i : Nat} {o : Oper} {a : Act} {w : World} {φ : Value → World → Prop} {K : Act → World → Prop}
  (ho : ops[i]? = some o) (hrefl : R w w) (h : step P ops R o a φ w) (hK : ∀ v w', R w w' → φ v w' → K (a.put o.dst v) w') : wpOp P ops Q i K a w := by
 unfold wpOp
 simp only [ho]
 unfold step at h
 split
 ·rename_i hw
  rw [if_pos hw] at h
  refine .inl ?_
  unfold Oper.wp
  generalize (execOp a.eval o).run P w = r at h ⊢
  cases r with
  | ok n w' =>
   cases n <;> simp only [upon] at h <;> simp only [Oper.upon]
   case value u => exact hK _ _ h.1 h.2
   case skip => exact hK _ _ h.1 h.2
   case enter f args =>
    exact h.mono fun e w'' ⟨v, he, hr, hφ⟩ => by subst he; exact hK _ _ hr hφ
  | halt x w' => simp only [upon] at h
 ·rename_i hw
  rw [if_neg hw] at h
  exact hK _ _ hrefl h

def cnt (n : Nat) (listed : Array Bool) : Nat := ((List.range n).filter fun j => !listed.getD j true).length

theorem cnt_set {n i : Nat} {listed : Array Bool} (hi : i < n) (hs : i < listed.size) (h : listed.getD i true = false) : cnt n (listed.setIfInBounds i true) + 1 = cnt n listed := by
 unfold cnt
 have key : ∀ (m : Nat), ((List.range m).filter fun j => !(listed.setIfInBounds i true).getD j true).length + (if i < m then 1 else 0) = ((List.range m).filter fun j => !listed.getD j true).length := by
  intro m
  induction m with
  | zero => simp
  | succ m ih =>
   rw [List.range_succ, List.filter_append, List.filter_append, List.length_append, List.length_append]
   by_cases him : i = m
   ·subst him
    rw [if_neg (by omega)] at ih
    have h1 : (listed.setIfInBounds i true).getD i true = true := by simp [hs]
    rw [if_pos (by omega), ← ih]
    simp only [List.filter_cons, h1, h, List.filter_nil, Bool.not_true, Bool.not_false, Bool.false_eq_true, if_false, if_true, List.length_nil, List.length_cons, Nat.add_zero, Nat.zero_add]
   ·have h1 : (listed.setIfInBounds i true).getD m true = listed.getD m true := getD_set_ne true him
    have h2 : (List.filter (fun j => !(listed.setIfInBounds i true).getD j true) [m]).length = (List.filter (fun j => !listed.getD j true) [m]).length := by
     simp only [List.filter_cons, h1, List.filter_nil]
    rw [h2, ← ih]
    by_cases hlt : i < m
    ·rw [if_pos hlt, if_pos (by omega)]; omega
    ·rw [if_neg hlt, if_neg (by omega)]; omega
 have := key n
 rwa [if_pos hi] at this

theorem cnt_zero {n : Nat} {listed : Array Bool} (h : cnt n listed = 0) : ∀ j, j < n → listed.getD j true = true := by
 intro j hj
 have h1 : (List.range n).filter (fun j => !listed.getD j true) = [] := List.length_eq_zero_iff.1 h
 have := List.filter_eq_nil_iff.1 h1 j (List.mem_range.2 hj)
 simpa using this

theorem some_ready {n : Nat} {listed : Array Bool} (hok : Ok ops n) (hsz : listed.size = ops.size) : ∀ (d i : Nat), i = d → i < n → listed.getD i true = false → ∃ j, j ∈ Region.ready .any ops listed := by
 intro d
 induction d using Nat.strongRecOn with
 | _ d ih =>
  intro i hid hi hun
  obtain ⟨o, ho⟩ := hok.op i hi
  by_cases hall : ∀ e ∈ o.after, listed.getD e.on false = true
  ·exact ⟨i, mem_ready.2 ⟨hun, o, ho, fun e he _ => hall e he⟩⟩
  ·obtain ⟨e, he⟩ := Classical.not_forall.1 hall
   obtain ⟨he, hl⟩ := Classical.not_imp.1 he
   have hlt := (hok.back i o hi ho e he).1
   have hl' : listed.getD e.on false = false := by simpa using hl
   have hen : e.on < listed.size := by
    rw [hsz]
    obtain ⟨o', ho'⟩ := hok.op e.on (by omega)
    exact (Array.getElem?_eq_some_iff.1 ho').1
   exact ih e.on (by omega) e.on rfl (by omega) (getD_in hen hl')

/-- all head operations listed, none of the tail -/
def heads (ops : Array Oper) (n : Nat) : Array Bool := (Array.range ops.size).map fun j => decide (j < n)

def relB (ops : Array Oper) (n : Nat) : Bool :=
 okB ops n && decide (n ≤ ops.size) && (decide (n = ops.size) || (Region.sinkB .any ops n && Region.chainB .any ops n)) && Region.seqB .any ops (ops.size - n) n (heads ops n)

theorem any_of_rel {Q : Exit → Act → World → Prop} {R : World → World → Prop} {w0 : World} {a : Act} {l : List Oper} {n : Nat} {Vs : List (Value → World → Prop)}
  (hB : relB l.toArray n = true) (hlen : Vs.length = n) (hrefl : ∀ w, R w w) (htrans : ∀ x y z, R x y → R y z → R x z)
  (hst : ∀ φ ∈ Vs, ∀ v w w', φ v w → R w w' → φ v w')
  (h : wpRel P l.toArray R w0 (fun a' w' => wpList P l.toArray Q (l.drop n) a' w') (l.take n) Vs 0 a (fun _ _ => True)) :
  ∀ (f : Nat) (listed : Array Bool) (a' : Act) (w' : World) (vs : Nat → Value), HeadInv .any l.toArray n listed → cnt n listed = f → Agree l.toArray n listed vs a a' → R w0 w' →
   (∀ (j : Nat) (φ : Value → World → Prop), j < n → listed.getD j false = true → Vs[j]? = some φ → φ (vs j) w') → wpAny P .any l.toArray Q (f + (l.toArray.size - n)) listed a' w' := by
 simp only [relB, Bool.and_eq_true, decide_eq_true_eq, Bool.or_eq_true] at hB
 obtain ⟨⟨⟨hokB, hnle⟩, htl⟩, hseq⟩ := hB
 have hok := ok_of_okB hokB
 have hnl : n ≤ l.length := by simpa using hnle
 have htk : (l.take n).length = Vs.length := by simp; omega
 intro f
 induction f with
 | zero =>
  intro listed a' w' vs inv hc hag hR hV
  have hl0 := cnt_zero hc
  have hlist : listed = heads l.toArray n := by
   apply Array.ext
   ·simp [heads, inv.size]
   ·intro j h1 h2
    have hj : j < l.toArray.size := by rw [← inv.size]; exact h1
    have e2 : (heads l.toArray n)[j] = decide (j < n) := by simp [heads]
    rw [e2]
    by_cases hjn : j < n
    ·have := hl0 j hjn; simp [h1] at this; simp [hjn, this]
    ·have := inv.tail j (by omega) hj; simp [h1] at this; simp [hjn, this]
  have hlf : ∀ j, j < n → listed.getD j false = true := by
   intro j hj
   have h1 := hl0 j hj
   have h2 : j < listed.size := by rw [inv.size]; omega
   simp [h2] at h1 ⊢; exact h1
  have hfr : a' = putAll vs (l.take n) 0 a := by
   obtain ⟨h1, h2, h3, h4⟩ := putAll_spec vs (l.take n) 0 a
   have ht : a'.tmps = (putAll vs (l.take n) 0 a).tmps := by
    apply Array.ext_getElem?
    intro t
    rw [hag.2.2 t]
    rcases src_cases hok t with ⟨j, o', hj, ho', hd⟩ | hno
    ·rw [slot_src hok hj ho' hd, hlf j hj, if_pos rfl]
     rw [h4 j o' t (by rw [take_get hj]; simpa using ho') hd (fun j' o'' hlt hj' => ?_)]
     ·simp
     ·have hj'n : j' < n := by
       rcases Nat.lt_or_ge j' n with h | h
       ·exact h
       ·rw [List.getElem?_take, if_neg (by omega)] at hj'; cases hj'
      rw [take_get hj'n] at hj'
      exact hok.apart j o' j' o'' hj hj'n ho' (by simpa using hj') (by omega) t hd
    ·rw [slot_none hok hno]
     refine (h3 t (fun j o' hj => ?_)).symm
     have hjn : j < n := by
      rcases Nat.lt_or_ge j n with h | h
      ·exact h
      ·rw [List.getElem?_take, if_neg (by omega)] at hj; cases hj
     rw [take_get hjn] at hj
     exact hno j o' hjn (by simpa using hj)
   have hd : a'.defers = (putAll vs (l.take n) 0 a).defers := by rw [hag.1, h1]
   cases a'; cases hp : putAll vs (l.take n) 0 a
   rw [hp] at ht hd
   simp_all
  have hend := (wpRel_get vs (l.take n) Vs 0 a _ htk h).2 w' hR (fun j hj => by omega) (fun j φ hφ => by
   rw [Nat.zero_add]
   have hjn : j < n := by rw [← hlen]; exact (List.getElem?_eq_some_iff.1 hφ).1
   exact hV j φ hjn (hlf j hjn) hφ)
  rw [← hfr] at hend
  rw [hlist, Nat.zero_add]
  have := wpAny_of_seq (md := .any) (Q' := Q) (P := P) (ops := l.toArray) (l.drop n) n (heads l.toArray n) a' w' (fun j => by simp [List.getElem?_drop]) (by
   have e : (l.drop n).length = l.toArray.size - n := by simp
   rw [e]; exact hseq) hend
  have e : (l.drop n).length = l.toArray.size - n := by simp
  rwa [e] at this
 | succ f ih =>
  intro listed a' w' vs inv hc hag hR hV
  have hex : ∃ i, i < n ∧ listed.getD i true = false := by
   refine Classical.byContradiction fun hno => ?_
   have : cnt n listed = 0 := by
    unfold cnt
    rw [List.length_eq_zero_iff, List.filter_eq_nil_iff]
    intro j hj
    have hjn := List.mem_range.1 hj
    cases hl : listed.getD j true with
    | true => simp
    | false => exact absurd ⟨j, hjn, hl⟩ hno
   omega
  obtain ⟨i0, hi0, hun0⟩ := hex
  rw [show f + 1 + (l.toArray.size - n) = (f + (l.toArray.size - n)) + 1 by omega]
  refine ⟨fun h0 => ?_, fun i hi => ?_⟩
  ·obtain ⟨j, hj⟩ := some_ready hok inv.size i0 i0 rfl hi0 hun0
   rw [h0] at hj; cases hj
  ·have hin : i < n := by
    rcases Nat.lt_or_ge i n with h | h
    ·exact h
    ·obtain ⟨_, oi, hoi, _⟩ := mem_ready.1 hi
     have hisz : i < l.toArray.size := (Array.getElem?_eq_some_iff.1 hoi).1
     rcases htl with he | ⟨hs, hch⟩
     ·omega
     ·exact absurd hi (tail_waits hs hch (by omega) inv _ i0 rfl hi0 hun0 i h)
   obtain ⟨hun, o, ho, hdep⟩ := mem_ready.1 hi
   have hdep' : ∀ e ∈ o.after, listed.getD e.on false = true := fun e he => hdep e he (hok.back i o hin ho e he).2
   have hφ : ∃ φ, Vs[i]? = some φ := ⟨Vs[i]'(by omega), by simp [show i < Vs.length by omega]⟩
   obtain ⟨φ, hφ⟩ := hφ
   have hstep := (wpRel_get vs (l.take n) Vs 0 a _ htk h).1 i o φ (by rw [take_get hin]; simpa using ho) hφ w' hR (fun e he => by
    have he' : e ∈ o.after := by simpa using he
    have hb := (hok.back i o hin ho e he').1
    rw [if_neg (by omega)]
    intro ψ _ hψ
    rw [Nat.sub_zero] at hψ
    exact hV e.on ψ (by omega) (hdep' e he') hψ) (fun e he => by
    have he' : e ∈ o.after := by simpa using he
    have := (hok.back i o hin ho e he').1; omega)
   rw [List.take_take, Nat.min_eq_left (by omega)] at hstep
   have hlook := look_eq hok hin ho hdep' hag
   have hsame := exec_same (hok.sel i o hin ho) hlook
   have hstep' : step P l.toArray R o a' φ w' := by
    unfold step at hstep ⊢
    rw [hsame.1, hsame.2]; exact hstep
   have his : i < listed.size := by rw [inv.size]; exact (Array.getElem?_eq_some_iff.1 ho).1
   refine wpOp_of_step ho (hrefl w') hstep' (fun v w'' hr hv => ?_)
   refine ih (listed.setIfInBounds i true) _ w'' (fun j => if j = i then v else vs j) (inv.set hi hin) ?_ ?_ (htrans _ _ _ hR hr) ?_
   ·have := cnt_set hin his hun; omega
   ·refine ⟨by rw [put_defers]; exact hag.1, by rw [put_size]; exact hag.2.1, fun t => ?_⟩
    rcases src_cases hok t with ⟨j, o', hj, ho', hd⟩ | hno
    ·rw [slot_src hok hj ho' hd]
     by_cases hji : j = i
     ·subst hji
      have : o' = o := by rw [ho] at ho'; exact (Option.some.inj ho').symm
      subst this
      rw [hd, put_tmps_same, if_pos rfl, hag.2.1]
      simp [his]
     ·have hne : o.dst ≠ some t := fun he => hok.apart i o j o' hin hj ho ho' (Ne.symm hji) t he hd
      rw [put_tmps_other hne, hag.2.2 t, slot_src hok hj ho' hd, if_neg hji, getD_set_ne false (Ne.symm hji)]
    ·have hne : o.dst ≠ some t := hno i o hin ho
     rw [put_tmps_other hne, hag.2.2 t, slot_none hok hno, slot_none hok hno]
   ·intro j ψ hj hl hψ
    by_cases hji : j = i
    ·subst hji
     rw [hφ] at hψ; cases hψ
     simp only [if_true]; exact hv
    ·rw [if_neg hji]
     rw [getD_set_ne false (Ne.symm hji)] at hl
     exact hst ψ (List.mem_of_getElem? hψ) _ _ _ (hV j ψ hj hl hψ) hr

/-- **A region that draws its order, of whose first n operations each is described by a predicate on the value it yields (stable under R), and whose other operations come in a forced order.** -/
theorem wp_region_rel {id : Nat} {Q : Exit → Act → World → Prop} {a : Act} {w : World} {l : List Oper} (n : Nat) (R : World → World → Prop) (Vs : List (Value → World → Prop))
    (hm : P.follows .mixedOrders = true) (hB : relB l.toArray n = true) (hlen : Vs.length = n) (hrefl : ∀ w, R w w) (htrans : ∀ x y z, R x y → R y z → R x z)
    (hst : ∀ φ ∈ Vs, ∀ v w w', φ v w → R w w' → φ v w')
    (w0 : World) (h0 : R w0 w.drew) (h : wpRel P l.toArray R w0 (fun a' w' => wpList P l.toArray Q (l.drop n) a' w') (l.take n) Vs 0 a (fun _ _ => True)) : (Code.region id l.toArray true).wp P Q a w := by
  refine wp_region_any hm ?_
  have hnle : n ≤ l.toArray.size := by
    have hB' := hB
    simp only [relB, Bool.and_eq_true, decide_eq_true_eq] at hB'
    exact hB'.1.1.2
  have inv0 : HeadInv .any l.toArray n (Array.replicate l.toArray.size false) :=
    ⟨by simp, fun j oj _ hl => (by rw [getD_replicate_false] at hl; cases hl), fun t _ ht => getD_in (by simpa using ht) (getD_replicate_false _ _)⟩
  have hc : cnt n (Array.replicate l.toArray.size false) = n := by
    unfold cnt
    rw [List.filter_eq_self.2]
    · simp
    · intro j hj
      have hj' : j < l.length := by have := List.mem_range.1 hj; have : n ≤ l.length := by simpa using hnle
                                    omega
      have := getD_in (listed := Array.replicate l.toArray.size false) (i := j) (by simpa using hj') (getD_replicate_false _ _)
      rw [this]; rfl
  have := any_of_rel (Q := Q) hB hlen hrefl htrans hst h n _ a { w with drawn := w.drawn + 1 } (fun _ => undef) inv0 hc ⟨rfl, rfl, fun t => by
    unfold slot
    split
    · rw [getD_replicate_false]; simp
    · rfl⟩ h0 (fun j φ _ hl => by rw [getD_replicate_false] at hl; cases hl)
  rwa [show n + (l.toArray.size - n) = l.toArray.size by omega] at this
end Go.Rel
namespace Go.Rel
variable {P : Program}
theorem region_still_tail {id : Nat} {Q : Exit → Act → World → Prop} {a : Act} {w : World} {l : List Oper} (n : Nat) (hm : P.follows .mixedOrders = true) (hB : Region.lexTailB .any l.toArray n = true)
  (h : wpStill P l.toArray w.drew (fun a' => wpList P l.toArray Q (l.drop n) a' w.drew) (l.take n) a) : (Code.region id l.toArray true).wp P Q a w :=
 wp_region_still_tail n hm hB h
end Go.Rel
end
