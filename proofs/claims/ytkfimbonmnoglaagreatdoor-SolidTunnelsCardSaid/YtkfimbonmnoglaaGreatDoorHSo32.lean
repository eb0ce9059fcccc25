import Derived.Test.YtkfimbonmnoglaaGreatDoorG12
/-
  Given contracts of functions of the program, and laws for them, one behind the other.
-/
set_option linter.unusedVariables false
set_option linter.unusedSimpArgs false
set_option linter.unusedSectionVars false
section
namespace Go.Solid
open Go.Draw
set_option maxRecDepth 100000
/-! the count: corners and faces are no more than edges, cells, parts and cavities -/
def allB : Nat → List (List Bool)
 | 0 => [[]]
 | n + 1 => (allB n).map (List.cons false) ++ (allB n).map (List.cons true)
theorem allB_len : ∀ n, (allB n).length = 2 ^ n
 | 0 => rfl
 | n + 1 => by
  show ((allB n).map (List.cons false) ++ (allB n).map (List.cons true)).length = _
  rw [List.length_append, List.length_map, List.length_map, allB_len n, Nat.pow_succ]; omega
theorem mem_allB : ∀ (n : Nat) (l : List Bool), l ∈ allB n ↔ l.length = n
 | 0, l => by
  show l ∈ [[]] ↔ _
  rw [List.mem_singleton, List.length_eq_zero_iff]
 | n + 1, l => by
  show l ∈ (allB n).map (List.cons false) ++ (allB n).map (List.cons true) ↔ _
  rw [List.mem_append, List.mem_map, List.mem_map]
  constructor
  ·rintro (⟨m, hm, rfl⟩ | ⟨m, hm, rfl⟩) <;> simpa using (mem_allB n m).1 hm
  ·intro h
   cases l with
   | nil => cases h
   | cons b m =>
    have hm := (mem_allB n m).2 (by simpa using h)
    cases b
    ·exact .inl ⟨m, hm, rfl⟩
    ·exact .inr ⟨m, hm, rfl⟩
theorem allB_nodup : ∀ n, (allB n).Nodup
 | 0 => by unfold allB; simp
 | n + 1 => by
  show ((allB n).map (List.cons false) ++ (allB n).map (List.cons true)).Nodup
  have ih := allB_nodup n
  rw [List.nodup_append]
  refine ⟨map_nodup_on ih fun a _ b _ e => (List.cons.inj e).2, map_nodup_on ih fun a _ b _ e => (List.cons.inj e).2, ?_⟩
  intro a ha b hb e
  rw [List.mem_map] at ha hb
  obtain ⟨x, _, rfl⟩ := ha
  obtain ⟨y, _, rfl⟩ := hb
  cases e
theorem inject_le {m n : Nat} (g : List Bool → List Bool) (hl : ∀ l, l.length = m → (g l).length = n) (hi : ∀ a b, a.length = m → b.length = m → g a = g b → a = b) : m ≤ n := by
 have h1 : ((allB m).map g).Nodup := map_nodup_on (allB_nodup m) fun a ha b hb e => hi a b ((mem_allB m a).1 ha) ((mem_allB m b).1 hb) e
 have h2 := h1.length_le_of_subset (l₂ := allB n) fun x hx => by
  rw [List.mem_map] at hx
  obtain ⟨a, ha, rfl⟩ := hx
  exact (mem_allB n _).2 (hl a ((mem_allB m a).1 ha))
 rw [List.length_map, allB_len, allB_len] at h2
 exact (Nat.pow_le_pow_iff_right (by decide)).1 h2
/-- a chain out of bits on a list of points -/
def ch (L : List Cl) (b : List Bool) : Ch := fun p => b.getD (L.idxOf p) false
theorem ch_out {L : List Cl} {b : List Bool} (hb : b.length = L.length) {p : Cl} (h : p ∉ L) : ch L b p = false := by
 unfold ch
 rw [List.idxOf_eq_length h, ← hb]
 simp [List.getD]
theorem ch_read {L : List Cl} (hL : L.Nodup) {b : List Bool} (hb : b.length = L.length) : L.map (ch L b) = b := by
 refine List.ext_getElem (by simp [hb]) fun i h1 h2 => ?_
 rw [List.getElem_map]
 unfold ch
 have hi : i < L.length := by simpa using h1
 rw [hL.idxOf_getElem i hi]
 simp [List.getD, h2]
theorem ch_inj {L : List Cl} (hL : L.Nodup) {b c : List Bool} (hb : b.length = L.length) (hc : c.length = L.length) (h : ∀ p ∈ L, ch L b p = ch L c p) : b = c := by
 rw [← ch_read hL hb, ← ch_read hL hc]
 exact List.map_congr_left h
def xorL (l : List Bool) : Bool := l.foldr xor false
/-- the sum of the paths of some corners -/
def pathF (P : Cl → Ch) (T : Ch) : List Cl → Ch
 | [] => fun _ => false
 | v :: N => fun e => (T v && P v e) ^^ pathF P T N e
theorem bnd_none (q : Cl) : bnd (fun _ => false) q = false := by unfold bnd bx bY bz; simp
theorem bnd_and (t : Bool) (S : Ch) (q : Cl) : bnd (fun e => t && S e) q = (t && bnd S q) := by
 cases t
 ·exact bnd_none q
 ·simp only [Bool.true_and]
theorem bnd_path (P : Cl → Ch) (T : Ch) (q : Cl) : ∀ N : List Cl, (∀ v ∈ N, bnd (P v) q = decide (q = v)) → N.Nodup → bnd (pathF P T N) q = (decide (q ∈ N) && T q)
 | [], _, _ => by
  show bnd (fun _ => false) q = _
  rw [bnd_none]; simp
 | v :: N, h, hn => by
  have hn' := List.nodup_cons.1 hn
  show bnd (fun e => (T v && P v e) ^^ pathF P T N e) q = _
  rw [bnd_xor, bnd_and, h v (List.mem_cons_self ..), bnd_path P T q N (fun w hw => h w (List.mem_cons_of_mem _ hw)) hn'.2]
  by_cases e : q = v
  ·subst e
   simp [hn'.1]
  ·simp [e]
theorem path_on (P : Cl → Ch) (T : Ch) {p : Cl} {A : Cl → Prop} : ∀ N : List Cl, (∀ v ∈ N, ∀ e, P v e = true → A e) → pathF P T N p = true → A p
 | [], _, h => by cases h
 | v :: N, hA, h => by
  have h' : ((T v && P v p) ^^ pathF P T N p) = true := h
  cases e : pathF P T N p with
  | true => exact path_on P T N (fun w hw => hA w (List.mem_cons_of_mem _ hw)) e
  | false =>
   rw [e, Bool.xor_false, Bool.and_eq_true] at h'
   exact hA v (List.mem_cons_self ..) p h'.2
def faceP (q : Cl) : Bool := (decide (q.1 % 2 = 0) && decide (q.2.1 % 2 = 1) && decide (q.2.2 % 2 = 1)) || (decide (q.1 % 2 = 1) && decide (q.2.1 % 2 = 0) && decide (q.2.2 % 2 = 1)) || (decide (q.1 % 2 = 1) && decide (q.2.1 % 2 = 1) && decide (q.2.2 % 2 = 0))
def cellP (q : Cl) : Bool := decide (q.1 % 2 = 1) && decide (q.2.1 % 2 = 1) && decide (q.2.2 % 2 = 1)
theorem kinds (L : List Cl) : sumZ sgn L = ((L.filter evs).length : Int) + (L.filter faceP).length - (L.filter edgeP).length - (L.filter cellP).length := by
 induction L with
 | nil => rfl
 | cons q L ih =>
  have e : sumZ sgn (q :: L) = sgn q + sumZ sgn L := by unfold sumZ; simp
  rw [e, ih]
  obtain ⟨x, y, z⟩ := q
  have h0 : x % 2 = 0 ∨ x % 2 = 1 := by omega
  have h1 : y % 2 = 0 ∨ y % 2 = 1 := by omega
  have h2 : z % 2 = 0 ∨ z % 2 = 1 := by omega
  have hs : sgn (x, y, z) = if (x + y + z) % 2 = 0 then 1 else -1 := rfl
  rcases h0 with h0 | h0 <;> rcases h1 with h1 | h1 <;> rcases h2 with h2 | h2 <;>
   ·have hp : evs (x, y, z) = (decide (x % 2 = 0) && decide (y % 2 = 0) && decide (z % 2 = 0)) := rfl
    have he : edgeP (x, y, z) = ((decide (x % 2 = 1) && decide (y % 2 = 0) && decide (z % 2 = 0)) || (decide (x % 2 = 0) && decide (y % 2 = 1) && decide (z % 2 = 0)) || (decide (x % 2 = 0) && decide (y % 2 = 0) && decide (z % 2 = 1))) := rfl
    have hf : faceP (x, y, z) = ((decide (x % 2 = 0) && decide (y % 2 = 1) && decide (z % 2 = 1)) || (decide (x % 2 = 1) && decide (y % 2 = 0) && decide (z % 2 = 1)) || (decide (x % 2 = 1) && decide (y % 2 = 1) && decide (z % 2 = 0))) := rfl
    have hc : cellP (x, y, z) = (decide (x % 2 = 1) && decide (y % 2 = 1) && decide (z % 2 = 1)) := rfl
    simp only [h0, h1, h2, decide_true, decide_false, show ¬ ((0 : Int) = 1) by decide, show ¬ ((1 : Int) = 0) by decide, Bool.and_true, Bool.and_false, Bool.or_false, Bool.or_true, Bool.false_or, Bool.true_and, Bool.false_and] at hp he hf hc
    rw [List.filter_cons, List.filter_cons, List.filter_cons, List.filter_cons, hp, he, hf, hc, hs]
    first
     | (rw [if_pos (by omega)]; simp only [if_true, if_false, Bool.false_eq_true, List.length_cons]; omega)
     | (rw [if_neg (by omega)]; simp only [if_true, if_false, Bool.false_eq_true, List.length_cons]; omega)
/-- points of a solid: below a point of it, too -/
theorem on_down {s : Sol} {p q : Cl} (h : onS s p) (hq : ∀ k, co q k = co p k ∨ (co p k % 2 = 1 ∧ -1 ≤ co q k - co p k ∧ co q k - co p k ≤ 1)) : onS s q := by
 obtain ⟨c, hc, hn⟩ := on_iff.1 h
 refine on_iff.2 ⟨c, hc, fun k => ?_⟩
 have := hn k
 rcases hq k with e | ⟨e, h1, h2⟩
 ·rw [e]; exact this
 ·omega
theorem bnd_on {s : Sol} {S : Ch} (hO : Of s S) {q : Cl} (h : bnd S q = true) : onS s q := by
 refine Classical.byContradiction fun hq => ?_
 have h0 : bnd S q = bnd (fun _ => false) q := bnd_congr fun p hp => by
  cases e : S p with
  | false => rfl
  | true =>
   refine absurd (on_down (hO p e) fun k => ?_) hq
   obtain ⟨x, y, z⟩ := q
   rcases hp with ⟨hh, rfl | rfl⟩ | ⟨hh, rfl | rfl⟩ | ⟨hh, rfl | rfl⟩ <;> simp only at hh <;>
    ·match k with
     | 0 => first | exact .inl rfl | (right; show (_ : Int) % 2 = 1 ∧ _ ≤ _ - _ ∧ _ - _ ≤ _; unfold co; simp only; omega)
     | 1 => first | exact .inl rfl | (right; show (_ : Int) % 2 = 1 ∧ _ ≤ _ - _ ∧ _ - _ ≤ _; unfold co; simp only; omega)
     | _ + 2 => first | exact .inl rfl | (right; show (_ : Int) % 2 = 1 ∧ _ ≤ _ - _ ∧ _ - _ ≤ _; unfold co; simp only; omega)
 rw [h0, bnd_none] at h; cases h
/-- tunnels are never fewer than none -/
theorem face_edge (S : Ch) {q : Cl} (hq : edgeP q = true) {T : Ch} (h : ∀ p, faceP p = true → S p = T p) : bnd S q = bnd T q := by
 refine bnd_congr fun p hp => h p ?_
 obtain ⟨x, y, z⟩ := q
 unfold edgeP at hq
 simp only [Bool.or_eq_true, Bool.and_eq_true, decide_eq_true_eq] at hq
 rcases hp with ⟨hh, rfl | rfl⟩ | ⟨hh, rfl | rfl⟩ | ⟨hh, rfl | rfl⟩ <;> simp only at hh <;>
  ·unfold faceP
   simp only [Bool.or_eq_true, Bool.and_eq_true, decide_eq_true_eq]
   omega
theorem edge_corner (S : Ch) {q : Cl} (hq : evs q = true) {T : Ch} (h : ∀ p, edgeP p = true → S p = T p) : bnd S q = bnd T q := by
 refine bnd_congr fun p hp => h p ?_
 obtain ⟨x, y, z⟩ := q
 unfold evs at hq
 simp only [Bool.and_eq_true, decide_eq_true_eq] at hq
 rcases hp with ⟨hh, rfl | rfl⟩ | ⟨hh, rfl | rfl⟩ | ⟨hh, rfl | rfl⟩ <;> simp only at hh <;>
  ·unfold edgeP
   simp only [Bool.or_eq_true, Bool.and_eq_true, decide_eq_true_eq]
   omega
theorem wN_xor (S T : Ch) (a b : Int) : ∀ n, wN (fun p => S p ^^ T p) a b n = (wN S a b n ^^ wN T a b n)
 | 0 => rfl
 | n + 1 => by
  show (wN (fun p => S p ^^ T p) a b n ^^ (S _ ^^ T _)) = ((wN S a b n ^^ S _) ^^ (wN T a b n ^^ T _))
  rw [wN_xor S T a b n, x4]
theorem wC_xor (S T : Ch) (c : Cl) : wC (fun p => S p ^^ T p) c = (wC S c ^^ wC T c) := by
 unfold wC
 split
 ·exact wN_xor S T _ _ _
 ·rfl
theorem xor_eq {a b : Bool} : (a ^^ b) = false ↔ a = b := by cases a <;> cases b <;> decide
theorem of_xor {s : Sol} {S T : Ch} (hS : Of s S) (hT : Of s T) : Of s (fun p => S p ^^ T p) := fun p hp => by
 cases e : S p with
 | true => exact hS p e
 | false => exact hT p (by simpa [e] using hp)
theorem splits_len {α : Type} (p : α → Bool) : ∀ l : List α, l.length = (l.filter p).length + (l.filter fun a => !p a).length
 | [] => rfl
 | a :: l => by
  have ih := splits_len p l
  rw [List.filter_cons, List.filter_cons, List.length_cons]
  cases p a <;> simp <;> omega
theorem count_law (s : Sol) : ((seenF (ptsS s)).filter evs).length + ((seenF (ptsS s)).filter faceP).length ≤ ((seenF (ptsS s)).filter edgeP).length + (cellsS s).length + (cavsS s).length + (partsS s).length := by
 obtain ⟨hnd, hmem⟩ := seen_spec (ptsS s)
 obtain ⟨R, hR, hroot⟩ := roots s
 generalize hL : seenF (ptsS s) = L at hnd hmem ⊢
 clear hL
 obtain ⟨V, hV⟩ : ∃ V, V = L.filter evs := ⟨_, rfl⟩
 obtain ⟨F, hF⟩ : ∃ F, F = L.filter faceP := ⟨_, rfl⟩
 obtain ⟨E, hE⟩ : ∃ E, E = L.filter edgeP := ⟨_, rfl⟩
 obtain ⟨N, hN⟩ : ∃ N, N = V.filter (fun v => decide (v ∉ R)) := ⟨_, rfl⟩
 rw [← hV, ← hF, ← hE]
 have hVn : V.Nodup := by rw [hV]; exact List.Pairwise.filter _ hnd
 have hFn : F.Nodup := by rw [hF]; exact List.Pairwise.filter _ hnd
 have hEn : E.Nodup := by rw [hE]; exact List.Pairwise.filter _ hnd
 have hNn : N.Nodup := by rw [hN]; exact List.Pairwise.filter _ hVn
 have hVm : ∀ v, v ∈ V ↔ onS s v ∧ evs v = true := fun v => by rw [hV, List.mem_filter, hmem]; rfl
 have hFm : ∀ v, v ∈ F ↔ onS s v ∧ faceP v = true := fun v => by rw [hF, List.mem_filter, hmem]; rfl
 have hEm : ∀ v, v ∈ E ↔ onS s v ∧ edgeP v = true := fun v => by rw [hE, List.mem_filter, hmem]; rfl
 have hNm : ∀ v, v ∈ N ↔ (onS s v ∧ evs v = true) ∧ v ∉ R := fun v => by rw [hN, List.mem_filter, hVm]; simp
 have hVN : V.length ≤ N.length + R.length := by
  have h1 : V.length = (V.filter (fun v => decide (v ∉ R))).length + (V.filter (fun v => decide (v ∈ R))).length := by
   rw [splits_len (fun v => decide (v ∉ R)) V]
   congr 2
   refine List.filter_congr fun v _ => by simp
  have h2 : (V.filter (fun v => decide (v ∈ R))).length ≤ R.length := List.Nodup.length_le_of_subset (List.Pairwise.filter _ hVn) fun x hx => by simpa using (List.mem_filter.1 hx).2
  rw [h1, hN]; omega
 have hpath : ∀ v : { v // v ∈ N }, ∃ P : Ch, (∀ e, P e = true → edgeP e = true ∧ onS s e) ∧ ∀ q ∈ N, bnd P q = decide (q = v.1) := fun v => by
  obtain ⟨⟨h1, h2⟩, h3⟩ := (hNm v.1).1 v.2
  obtain ⟨r, hr, T, k1, k2⟩ := hroot v.1 h2 h1
  refine ⟨T, k1, fun q hq => ?_⟩
  obtain ⟨⟨_, q2⟩, q3⟩ := (hNm q).1 hq
  rw [k2 q q2, decide_eq_false (fun e => q3 (by rw [e]; exact hr) : ¬ q = r), Bool.xor_false]
 obtain ⟨P0, hP0⟩ := Classical.axiomOfChoice hpath
 obtain ⟨P, hP1, hP2⟩ : ∃ P : Cl → Ch, (∀ v ∈ N, ∀ e, P v e = true → edgeP e = true ∧ onS s e) ∧ ∀ v ∈ N, ∀ q ∈ N, bnd (P v) q = decide (q = v) := by
  refine ⟨fun v => if h : v ∈ N then P0 ⟨v, h⟩ else fun _ => false, fun v hv e he => ?_, fun v hv q hq => ?_⟩
  ·simp only [hv, dite_true] at he; exact (hP0 ⟨v, hv⟩).1 e he
  ·simp only [hv, dite_true]; exact (hP0 ⟨v, hv⟩).2 q hq
 clear hP0 P0 hpath hroot
 have hcav : ∀ K : { K // K ∈ cavsS s }, ∃ c, hasS K.1 c = true := fun K => has_some (by
  have := K.2
  unfold cavsS at this
  exact classes_ne (steps_sym true) (List.mem_filter.1 this).1)
 obtain ⟨kc, hkc⟩ := Classical.axiomOfChoice hcav
 have hrep : ∀ y : List Bool, ∃ b : List Bool, b.length = F.length ∧ ((∃ b', b'.length = F.length ∧ E.map (bnd (ch F b')) = y) → E.map (bnd (ch F b)) = y) := fun y => by
  by_cases h : ∃ b', b'.length = F.length ∧ E.map (bnd (ch F b')) = y
  ·obtain ⟨b', h1, h2⟩ := h
   exact ⟨b', h1, fun _ => h2⟩
  ·exact ⟨List.replicate F.length false, List.length_replicate, fun k => absurd k h⟩
 obtain ⟨rep, hrep⟩ := Classical.axiomOfChoice hrep
 have hchF : ∀ b : List Bool, b.length = F.length → Of s (ch F b) := fun b hb p hp => by
  refine Classical.byContradiction fun h => ?_
  rw [ch_out hb (fun hm => h ((hFm p).1 hm).1)] at hp; cases hp
 have hchf : ∀ b : List Bool, b.length = F.length → ∀ p, faceP p = false → ch F b p = false := fun b hb p hp => ch_out hb fun hm => by
  rw [((hFm p).1 hm).2] at hp; cases hp
 let g1 : List Bool → List Bool → Ch := fun b1 b2 => fun e => bnd (ch F b1) e ^^ pathF P (ch N b2) N e
 let dD : List Bool → Ch := fun b1 => fun p => ch F b1 p ^^ ch F (rep (E.map (bnd (ch F b1)))) p
 let g : List Bool → List Bool := fun b => E.map (g1 (b.take F.length) (b.drop F.length)) ++ ((cellsS s).map (wC (dD (b.take F.length))) ++ (cavsS s).attach.map fun K => wC (dD (b.take F.length)) (kc K))
 have key : F.length + N.length ≤ E.length + (cellsS s).length + (cavsS s).length := by
  refine inject_le g (fun b hb => ?_) fun b b' hb hb' he => ?_
  ·show (E.map _ ++ (_ ++ _)).length = _
   rw [List.length_append, List.length_append, List.length_map, List.length_map, List.length_map, List.length_attach]; omega
  ·obtain ⟨e1, e23⟩ := List.append_inj he (by rw [List.length_map, List.length_map])
   obtain ⟨e2, e3⟩ := List.append_inj e23 (by rw [List.length_map, List.length_map])
   clear e23 he
   obtain ⟨a, ha⟩ : ∃ a, a = b.take F.length := ⟨_, rfl⟩
   obtain ⟨c, hc⟩ : ∃ c, c = b.drop F.length := ⟨_, rfl⟩
   obtain ⟨a', ha'⟩ : ∃ a, a = b'.take F.length := ⟨_, rfl⟩
   obtain ⟨c', hc'⟩ : ∃ c, c = b'.drop F.length := ⟨_, rfl⟩
   rw [← ha, ← ha'] at e1 e2 e3
   rw [← hc, ← hc'] at e1
   have la : a.length = F.length := by rw [ha, List.length_take, hb]; omega
   have la' : a'.length = F.length := by rw [ha', List.length_take, hb']; omega
   have lc : c.length = N.length := by rw [hc, List.length_drop, hb]; omega
   have lc' : c'.length = N.length := by rw [hc', List.length_drop, hb']; omega
   have hZ : ∀ e, edgeP e = true → g1 a c e = g1 a' c' e := fun e hee => by
    by_cases hon : onS s e
    ·exact List.map_inj_left.1 e1 e ((hEm e).2 ⟨hon, hee⟩)
    ·have z1 : ∀ (x y : List Bool), x.length = F.length → g1 x y e = false := fun x y hx => by
      have h1 : bnd (ch F x) e = false := by
       cases h : bnd (ch F x) e with
       | false => rfl
       | true => exact absurd (bnd_on (hchF x hx) h) hon
      have h2 : pathF P (ch N y) N e = false := by
       cases h : pathF P (ch N y) N e with
       | false => rfl
       | true => exact absurd (path_on P (ch N y) (A := fun e => edgeP e = true ∧ onS s e) N hP1 h).2 hon
      show (bnd (ch F x) e ^^ pathF P (ch N y) N e) = false
      rw [h1, h2]; rfl
     rw [z1 a c la, z1 a' c' la']
   have hcc : c = c' := by
    refine ch_inj hNn lc lc' fun q hq => ?_
    have hq2 := ((hNm q).1 hq).1.2
    have h1 := edge_corner (g1 a c) hq2 hZ
    have h2 : ∀ x y, bnd (g1 x y) q = ch N y q := fun x y => by
     show bnd (fun e => bnd (ch F x) e ^^ pathF P (ch N y) N e) q = _
     rw [bnd_xor, show bnd (fun e => bnd (ch F x) e) q = false from bnd_bnd _ hq2, bnd_path P (ch N y) q N (fun v hv => hP2 v hv q hq) hNn]
     simp [hq]
    rw [h2, h2] at h1
    exact h1
   subst hcc
   have hbb : ∀ e, edgeP e = true → bnd (ch F a) e = bnd (ch F a') e := fun e hee => by
    have h := hZ e hee
    replace h : (bnd (ch F a) e ^^ pathF P (ch N c) N e) = (bnd (ch F a') e ^^ pathF P (ch N c) N e) := h
    revert h
    cases bnd (ch F a) e <;> cases bnd (ch F a') e <;> cases pathF P (ch N c) N e <;> simp
   have hy : E.map (bnd (ch F a)) = E.map (bnd (ch F a')) := List.map_congr_left fun e he => hbb e ((hEm e).1 he).2
   obtain ⟨r, hr⟩ : ∃ r, r = rep (E.map (bnd (ch F a))) := ⟨_, rfl⟩
   have lr : r.length = F.length := by rw [hr]; exact (hrep _).1
   have hd : ∀ p, dD a p = (ch F a p ^^ ch F r p) := fun p => by show (ch F a p ^^ ch F (rep (E.map (bnd (ch F a)))) p) = _; rw [← hr]
   have hd' : ∀ p, dD a' p = (ch F a' p ^^ ch F r p) := fun p => by show (ch F a' p ^^ ch F (rep (E.map (bnd (ch F a')))) p) = _; rw [← hy, ← hr]
   have hO : Of s (dD a) := by rw [show dD a = fun p => ch F a p ^^ ch F r p from funext hd]; exact of_xor (hchF a la) (hchF r lr)
   have hO' : Of s (dD a') := by rw [show dD a' = fun p => ch F a' p ^^ ch F r p from funext hd']; exact of_xor (hchF a' la') (hchF r lr)
   have hX := of_xor hO hO'
   have hXC : Closed (fun p => dD a p ^^ dD a' p) := fun q hq => by
    rw [bnd_xor, show dD a = fun p => ch F a p ^^ ch F r p from funext hd, show dD a' = fun p => ch F a' p ^^ ch F r p from funext hd', bnd_xor, bnd_xor, hbb q hq]
    cases bnd (ch F a') q <;> cases bnd (ch F r) q <;> rfl
   have hw := w_told hX hXC (fun x hx => by
     rw [wC_xor, xor_eq]
     exact List.map_inj_left.1 e2 x (mem_cellsS.2 hx)) (fun K hK => ⟨kc ⟨K, hK⟩, hkc ⟨K, hK⟩, by
     rw [wC_xor, xor_eq]
     exact List.map_inj_left.1 e3 ⟨K, hK⟩ (List.mem_attach _ _)⟩)
   have haa : a = a' := by
    refine ch_inj hFn la la' fun p hp => ?_
    obtain ⟨_, hf⟩ := (hFm p).1 hp
    have hz : (dD a p ^^ dD a' p) = false := by
     have hmid : ∃ x d, d ∈ stepsL true ∧ midC x d = p := by
      obtain ⟨x, y, z⟩ := p
      unfold faceP at hf
      simp only [Bool.or_eq_true, Bool.and_eq_true, decide_eq_true_eq] at hf
      have U := unit_faces
      rcases hf with (⟨⟨f0, f1⟩, f2⟩ | ⟨⟨f0, f1⟩, f2⟩) | ⟨⟨f0, f1⟩, f2⟩
      ·refine ⟨(x / 2, y / 2, z / 2), (-1, 0, 0), U.2.2.2.1, ?_⟩
       show (2 * (x / 2) + 1 + -1, 2 * (y / 2) + 1 + 0, 2 * (z / 2) + 1 + 0) = _
       rw [show 2 * (x / 2) + 1 + -1 = x by omega, show 2 * (y / 2) + 1 + 0 = y by omega, show 2 * (z / 2) + 1 + 0 = z by omega]
      ·refine ⟨(x / 2, y / 2, z / 2), (0, -1, 0), U.2.2.2.2.1, ?_⟩
       show (2 * (x / 2) + 1 + 0, 2 * (y / 2) + 1 + -1, 2 * (z / 2) + 1 + 0) = _
       rw [show 2 * (x / 2) + 1 + 0 = x by omega, show 2 * (y / 2) + 1 + -1 = y by omega, show 2 * (z / 2) + 1 + 0 = z by omega]
      ·refine ⟨(x / 2, y / 2, z / 2), (0, 0, -1), U.2.2.2.2.2, ?_⟩
       show (2 * (x / 2) + 1 + 0, 2 * (y / 2) + 1 + 0, 2 * (z / 2) + 1 + -1) = _
       rw [show 2 * (x / 2) + 1 + 0 = x by omega, show 2 * (y / 2) + 1 + 0 = y by omega, show 2 * (z / 2) + 1 + -1 = z by omega]
     obtain ⟨x, d, hdd, rfl⟩ := hmid
     have := w_step (of_box hX) hXC (c := x) hdd
     rw [hw, hw] at this
     exact this
    rw [hd, hd'] at hz
    revert hz
    cases ch F a p <;> cases ch F a' p <;> cases ch F r p <;> simp
   rw [← List.take_append_drop F.length b, ← List.take_append_drop F.length b', ← ha, ← ha', ← hc, ← hc', haa]
 omega
theorem cells_mid (s : Sol) : (cellsS s).length ≤ ((seenF (ptsS s)).filter cellP).length := by
 obtain ⟨hnd, hmem⟩ := seen_spec (ptsS s)
 have h1 : ((cellsS s).map fun c => midC c (0, 0, 0)).Nodup := map_nodup_on (cellsS_nodup s) fun a _ b _ e => by
  obtain ⟨x, y, z⟩ := a
  obtain ⟨x', y', z'⟩ := b
  unfold midC at e
  simp only [Prod.mk.injEq] at e ⊢
  omega
 have h2 := h1.length_le_of_subset (l₂ := (seenF (ptsS s)).filter cellP) fun p hp => by
  rw [List.mem_map] at hp
  obtain ⟨c, hc, rfl⟩ := hp
  refine List.mem_filter.2 ⟨(hmem _).2 (pts_iff.2 ⟨c, mem_cellsS.1 hc, fun k => ?_⟩), ?_⟩
  ·match k with
   | 0 => show -1 ≤ 2 * c.1 + 1 + 0 - (2 * c.1 + 1) ∧ 2 * c.1 + 1 + 0 - (2 * c.1 + 1) ≤ 1; omega
   | 1 => show -1 ≤ 2 * c.2.1 + 1 + 0 - (2 * c.2.1 + 1) ∧ 2 * c.2.1 + 1 + 0 - (2 * c.2.1 + 1) ≤ 1; omega
   | _ + 2 => show -1 ≤ 2 * c.2.2 + 1 + 0 - (2 * c.2.2 + 1) ∧ 2 * c.2.2 + 1 + 0 - (2 * c.2.2 + 1) ≤ 1; omega
  ·unfold cellP midC
   simp only [Bool.and_eq_true, decide_eq_true_eq]
   omega
 rwa [List.length_map] at h2
theorem tun_nonneg (s : Sol) : 0 ≤ ((partsS s).length : Int) + (cavsS s).length - eulerS s := by
 have h1 := kinds (seenF (ptsS s))
 have h2 := count_law s
 have h3 := cells_mid s
 have e : eulerS s = sumZ sgn (seenF (ptsS s)) := rfl
 omega
end Go.Solid
end
