import Derived.Test.YtccnkebkgegohaaGreatDoorG07
/-
  Given contracts of functions of the program, and laws for them, one behind the other.
-/
set_option linter.unusedVariables false
set_option linter.unusedSimpArgs false
set_option linter.unusedSectionVars false
section
namespace Go.Proofs.YtccnkebkgegohaaGreatDoor
open Go.RowKit Go.Rel
set_option maxRecDepth 100000
theorem done_spec (d : Deed) (s : Stn) (w : World) (hd : d.1 = 1 ∨ d.1 = 2 ∨ d.1 = 3) :
    Calls Tryz.prog 144 #[.agg #[.int .u64 (pl s.1 0), .int .u64 (pl s.1 1), .int .u64 (pl s.1 2), .int .u64 (pl s.1 3), .int .u64 (pl s.1 4), .int .u64 (pl s.1 5), .int .u64 (pl s.1 6), .int .u64 (pl s.1 7), .int .u8 s.2], deedV d] w fun e w' => e = .returned (.agg #[.int .u64 (pl (doneM d s).1 0), .int .u64 (pl (doneM d s).1 1), .int .u64 (pl (doneM d s).1 2), .int .u64 (pl (doneM d s).1 3), .int .u64 (pl (doneM d s).1 4), .int .u64 (pl (doneM d s).1 5), .int .u64 (pl (doneM d s).1 6), .int .u64 (pl (doneM d s).1 7), .int .u8 (doneM d s).2]) ∧ Below w.heap.size w w' := by
  obtain ⟨K, b, c⟩ := d
  obtain ⟨wd, on⟩ := s
  rcases hd with h | h | h
  · simp only at h; subst h; exact done_cut c wd on w
  · simp only at h; subst h; exact done_fit b c wd on w
  · simp only at h; subst h; exact done_take b c wd on w
/-- the next stand behind an action, or why it is refused -/
def nextM (l : List Sol) (s : Stn) (a : Ac) : Int ⊕ Stn :=
  if fits l.length a then (if refM (made l a) s = 0 then .inr (doneM (made l a) s) else .inl (refM (made l a) s)) else .inl 1
/-- the acts from number i on -/
def runM (l : List Sol) : Nat → Stn → List Ac → (Nat × Int) ⊕ Stn
  | _, s, [] => .inr s
  | i, s, a :: rest => match nextM l s a with
    | .inl e => .inl (i, e)
    | .inr s' => runM l (i + 1) s' rest
abbrev acV (a : Ac) : Value := .agg #[.int .u8 a.1, .int .i64 a.2.1, .int .u64 (pl a.2.2 0), .int .u64 (pl a.2.2 1), .int .u64 (pl a.2.2 2), .int .u64 (pl a.2.2 3), .int .u64 (pl a.2.2 4), .int .u64 (pl a.2.2 5), .int .u64 (pl a.2.2 6), .int .u64 (pl a.2.2 7)]
abbrev SlA (w : World) (v : Value) (l : List Ac) : Prop := Sl w 10 v (l.map acL)
set_option maxHeartbeats 1000000 in
theorem begun_pat (blank : Sol) (v av : Value) (w : World) (R : Int) (hne : (R != 0) = true)
    (h : ∀ w', Below w.heap.size w w' → Calls Tryz.prog 34 #[.agg #[.int .u64 (pl blank 0), .int .u64 (pl blank 1), .int .u64 (pl blank 2), .int .u64 (pl blank 3), .int .u64 (pl blank 4), .int .u64 (pl blank 5), .int .u64 (pl blank 6), .int .u64 (pl blank 7), v]] w' fun e w'' => e = .returned (.int .i64 R) ∧ Below w'.heap.size w' w'') :
    Calls Tryz.prog 89 #[.agg #[.int .u64 (pl blank 0), .int .u64 (pl blank 1), .int .u64 (pl blank 2), .int .u64 (pl blank 3), .int .u64 (pl blank 4), .int .u64 (pl blank 5), .int .u64 (pl blank 6), .int .u64 (pl blank 7), v, av]] w fun e w' => e = .returned (.tuple #[.pointer none, .int .i64 0, .int .i64 R]) ∧ Below w.heap.size w w' := by
  have H := Lib.hid h; clear h
  go_enter_defers Tryz.func89, Tryz.ntmps89
  go_wp2_with fail
  refine (H.out _ bel_by).mono ?_
  rintro e w1 ⟨rfl, hb⟩
  have hc := (bcell hb).1
  have hf := (bcell hb).2
  have hs := hb.size
  simp only [World.size_alloc] at hs
  have gww10 : w.heap.size < w1.heap.size := by omega
  have gww11 : w.heap.size + 1 < w1.heap.size := by omega
  have gww12 : w.heap.size + 1 + 1 < w1.heap.size := by omega
  have gww13 : w.heap.size + 1 + 1 + 1 < w1.heap.size := by omega
  go_wp2_with fail
  have e : w1.cell? ⟨w.heap.size, 0, none⟩ = w1.cell? ⟨w.heap.size, 0, none⟩ := rfl
  clear e
  simp [bodyPostD, Leaves, settle, results, Tryz.results89, go_sem, *]
  exact bel_set (bel_set (bel_set (bel_trans bel_by hb) (by show w.heap.size ≤ Addr.block ⟨_, _, _⟩; dsimp only; omega) _) (by show w.heap.size ≤ Addr.block ⟨_, _, _⟩; dsimp only; omega) _) (by show w.heap.size ≤ Addr.block ⟨_, _, _⟩; dsimp only; omega) _
set_option maxHeartbeats 1000000 in
theorem begun_long (blank : Sol) (v : Value) (a : Option Addr) (n c : Nat) (w : World) (hn : 60 < n)
    (h : ∀ w', Below w.heap.size w w' → Calls Tryz.prog 34 #[.agg #[.int .u64 (pl blank 0), .int .u64 (pl blank 1), .int .u64 (pl blank 2), .int .u64 (pl blank 3), .int .u64 (pl blank 4), .int .u64 (pl blank 5), .int .u64 (pl blank 6), .int .u64 (pl blank 7), v]] w' fun e w'' => e = .returned (.int .i64 0) ∧ Below w'.heap.size w' w'') :
    Calls Tryz.prog 89 #[.agg #[.int .u64 (pl blank 0), .int .u64 (pl blank 1), .int .u64 (pl blank 2), .int .u64 (pl blank 3), .int .u64 (pl blank 4), .int .u64 (pl blank 5), .int .u64 (pl blank 6), .int .u64 (pl blank 7), v, .slice a n c]] w fun e w' => e = .returned (.tuple #[.pointer none, .int .i64 0, .int .i64 2]) ∧ Below w.heap.size w w' := by
  have H := Lib.hid h; clear h
  go_enter_defers Tryz.func89, Tryz.ntmps89
  go_wp2_with fail
  refine (H.out _ bel_by).mono ?_
  rintro e w1 ⟨rfl, hb⟩
  have hc := (bcell hb).1
  have hf := (bcell hb).2
  have hs := hb.size
  simp only [World.size_alloc] at hs
  have gww10 : w.heap.size < w1.heap.size := by omega
  have gww11 : w.heap.size + 1 < w1.heap.size := by omega
  have gww12 : w.heap.size + 1 + 1 < w1.heap.size := by omega
  have gww13 : w.heap.size + 1 + 1 + 1 < w1.heap.size := by omega
  go_wp2_with fail
  simp [bodyPostD, Leaves, settle, results, Tryz.results89, go_sem, *]
  exact bel_set (bel_set (bel_set (bel_trans bel_by hb) (by show w.heap.size ≤ Addr.block ⟨_, _, _⟩; dsimp only; omega) _) (by show w.heap.size ≤ Addr.block ⟨_, _, _⟩; dsimp only; omega) _) (by show w.heap.size ≤ Addr.block ⟨_, _, _⟩; dsimp only; omega) _
end Go.Proofs.YtccnkebkgegohaaGreatDoor
end
section
namespace Go.Proofs.YtccnkebkgegohaaGreatDoor
open Go.RowKit Go.Rel
set_option maxRecDepth 100000
theorem mRefCut (x0 x1 x2 x3 x4 x5 x6 x7 : Value) (w : World) : (method 408 212 (.agg #[x0, x1, x2, x3, x4, x5, x6, x7]) "strickle/trace.refused").run Tryz.prog w = .ok (272, .agg #[x0, x1, x2, x3, x4, x5, x6, x7]) w := by kernel_rfl
theorem mRefFit (b x0 x1 x2 x3 x4 x5 x6 x7 : Value) (w : World) : (method 408 217 (.agg #[b, x0, x1, x2, x3, x4, x5, x6, x7]) "strickle/trace.refused").run Tryz.prog w = .ok (276, .agg #[b, x0, x1, x2, x3, x4, x5, x6, x7]) w := by kernel_rfl
theorem mRefTake (b x0 x1 x2 x3 x4 x5 x6 x7 : Value) (w : World) : (method 408 218 (.agg #[b, x0, x1, x2, x3, x4, x5, x6, x7]) "strickle/trace.refused").run Tryz.prog w = .ok (277, .agg #[b, x0, x1, x2, x3, x4, x5, x6, x7]) w := by kernel_rfl
theorem aRefCut (x0 x1 x2 x3 x4 x5 x6 x7 : Value) (w : World) : (nilAhead 408 212 (.agg #[x0, x1, x2, x3, x4, x5, x6, x7]) "strickle/trace.refused").run Tryz.prog w = .ok (some false) w := by kernel_rfl
theorem aRefFit (b x0 x1 x2 x3 x4 x5 x6 x7 : Value) (w : World) : (nilAhead 408 217 (.agg #[b, x0, x1, x2, x3, x4, x5, x6, x7]) "strickle/trace.refused").run Tryz.prog w = .ok (some false) w := by kernel_rfl
theorem aRefTake (b x0 x1 x2 x3 x4 x5 x6 x7 : Value) (w : World) : (nilAhead 408 218 (.agg #[b, x0, x1, x2, x3, x4, x5, x6, x7]) "strickle/trace.refused").run Tryz.prog w = .ok (some false) w := by kernel_rfl
theorem enter272 (args : Array Value) (w : World) : (callFunc 272 args).run Tryz.prog w = .ok (.enter 272 args) w := enters_fn Tryz.func272 (by kernel_rfl) rfl args w
theorem enter276 (args : Array Value) (w : World) : (callFunc 276 args).run Tryz.prog w = .ok (.enter 276 args) w := enters_fn Tryz.func276 (by kernel_rfl) rfl args w
theorem enter277 (args : Array Value) (w : World) : (callFunc 277 args).run Tryz.prog w = .ok (.enter 277 args) w := enters_fn Tryz.func277 (by kernel_rfl) rfl args w
/-- what refused a deed's method 'refused' comes to -/
theorem refused_of (d : Deed) (s : Stn) : ∃ (t : Nat) (x : Value) (f : Nat) (y : Value), deedV d = .iface t x ∧ (∀ w, (nilAhead 408 t x "strickle/trace.refused").run Tryz.prog w = .ok (some false) w) ∧ (∀ w, (method 408 t x "strickle/trace.refused").run Tryz.prog w = .ok (f, y) w) ∧
    (∀ args w, (callFunc f args).run Tryz.prog w = .ok (.enter f args) w) ∧ Hid (∀ w, Calls Tryz.prog f #[y, .agg #[.int .u64 (pl s.1 0), .int .u64 (pl s.1 1), .int .u64 (pl s.1 2), .int .u64 (pl s.1 3), .int .u64 (pl s.1 4), .int .u64 (pl s.1 5), .int .u64 (pl s.1 6), .int .u64 (pl s.1 7), .int .u8 s.2]] w fun e w' => e = .returned (.int .i64 (refM d s)) ∧ Below w.heap.size w w') := by
  unfold deedV refM
  by_cases h1 : d.1 = 1
  · rw [if_pos h1, if_pos h1]
    exact ⟨212, _, 272, _, rfl, aRefCut _ _ _ _ _ _ _ _, mRefCut _ _ _ _ _ _ _ _, enter272, fun w => refusedCut _ _ _ w _ rfl⟩
  · rw [if_neg h1, if_neg h1]
    by_cases h2 : d.1 = 2
    · rw [if_pos h2, if_pos h2]
      exact ⟨217, _, 276, _, rfl, aRefFit _ _ _ _ _ _ _ _ _, mRefFit _ _ _ _ _ _ _ _ _, enter276, fun w => refusedFit _ _ _ _ w _ rfl⟩
    · rw [if_neg h2, if_neg h2]
      exact ⟨218, _, 277, _, rfl, aRefTake _ _ _ _ _ _ _ _ _, mRefTake _ _ _ _ _ _ _ _ _, enter277, fun w => refusedTake _ _ _ _ w _ rfl⟩
theorem info122 : (Tryz.prog.info? 122).map (fun i => (i.zero, i.size, i.bytes)) = some (some .nilIface, 1, 16) := by kernel_rfl
abbrev pastC (blank : Sol) (v av dv : Value) (s : Sol) (o : Int) : Array Value := #[.int .u64 (pl blank 0), .int .u64 (pl blank 1), .int .u64 (pl blank 2), .int .u64 (pl blank 3), .int .u64 (pl blank 4), .int .u64 (pl blank 5), .int .u64 (pl blank 6), .int .u64 (pl blank 7), v, av, dv, .int .u64 (pl s 0), .int .u64 (pl s 1), .int .u64 (pl s 2), .int .u64 (pl s 3), .int .u64 (pl s 4), .int .u64 (pl s 5), .int .u64 (pl s 6), .int .u64 (pl s 7), .int .u8 o]
/-- the cells of a list of deeds -/
abbrev deedCs (l : List Sol) (acts : List Ac) : List Value := acts.map fun a => deedV (made l a)
/-- what begun knows ahead of each round -/
structure InvB (w : World) (h bp : Nat) (blank : Sol) (v av : Value) (l : List Sol) (acts : List Ac) (k : Nat) (s : Stn) (dv : Value) (W : World) : Prop where
  mk ::
  hist : Blk W h #[.int .u64 (pl blank 0), .int .u64 (pl blank 1), .int .u64 (pl blank 2), .int .u64 (pl blank 3), .int .u64 (pl blank 4), .int .u64 (pl blank 5), .int .u64 (pl blank 6), .int .u64 (pl blank 7), v, av] 30
  tc : Blk W (h + 1) #[.pointer (some ⟨bp, 0, none⟩)] 101
  c2 : Blk W (h + 1 + 1) #[.int .i64 0] 3
  c3 : Blk W (h + 1 + 1 + 1) #[.int .i64 0] 33
  past : Blk W bp (pastC blank v av dv s.1 s.2) 113
  own : W.ownsRow (bp + 1) 122 1 dv k (deedCs l (acts.take k))
  bel : Below h w W
  hb : h + 1 + 1 + 1 + 1 ≤ bp
theorem own_grow {w w' : World} {base : Nat} {e : TypeId} {size : Nat} {v : Value} {n : Nat} {xs : List Value} (h : w.ownsRow base e size v n xs) (hb : Below w.heap.size w w') : w'.ownsRow base e size v n xs :=
  h.kept (row := none) ⟨hb.os, hb.tape, hb.output, hb.size, fun k hk _ => hb.block k hk⟩ (by cases hv : v.ownBlock <;> simp)
theorem InvB.grow {w : World} {h bp : Nat} {blank : Sol} {v av : Value} {l : List Sol} {acts : List Ac} {k : Nat} {s : Stn} {dv : Value} {W : World} (H : InvB w h bp blank v av l acts k s dv W) {W' : World} (hb : Below W.heap.size W W') :
    InvB w h bp blank v av l acts k s dv W' :=
  ⟨H.hist.grow hb, H.tc.grow hb, H.c2.grow hb, H.c3.grow hb, H.past.grow hb, own_grow H.own hb, H.bel.trans (hb.mono (Nat.le_of_lt H.hist.lt)), H.hb⟩
/-- a past that lies there whole -/
structure PastAt (bp : Nat) (blank : Sol) (v av : Value) (l : List Sol) (acts : List Ac) (s : Stn) (W : World) : Prop where
  mk ::
  past : ∃ dv, Blk W bp (pastC blank v av dv s.1 s.2) 113 ∧ W.ownsRow (bp + 1) 122 1 dv acts.length (deedCs l acts)
theorem PastAt.grow {bp : Nat} {blank : Sol} {v av : Value} {l : List Sol} {acts : List Ac} {s : Stn} {W : World} (H : PastAt bp blank v av l acts s W) {W' : World} (hb : Below W.heap.size W W') : PastAt bp blank v av l acts s W' :=
  let ⟨dv, h1, h2⟩ := H.past
  ⟨dv, h1.grow hb, own_grow h2 hb⟩
/-- what begun answers -/
def BegunP (w : World) (blank : Sol) (v av : Value) (l : List Sol) (acts : List Ac) (res : (Nat × Int) ⊕ Stn) (e : Ending) (w' : World) : Prop :=
  Below w.heap.size w w' ∧ match res with
    | .inl x => e = .returned (.tuple #[.pointer none, .int .i64 x.1, .int .i64 x.2])
    | .inr s => ∃ bp, w.heap.size ≤ bp ∧ e = .returned (.tuple #[.pointer (some ⟨bp, 0, none⟩), .int .i64 0, .int .i64 0]) ∧ PastAt bp blank v av l acts s w'
theorem runM_get {l : List Sol} {k : Nat} {s : Stn} {acts : List Ac} {a : Ac} (h : acts[k]? = some a) : runM l k s (acts.drop k) = match nextM l s a with
    | .inl e => .inl (k, e)
    | .inr s' => runM l (k + 1) s' (acts.drop (k + 1)) := by
  have hk : k < acts.length := (List.getElem?_eq_some_iff.1 h).1
  have e : acts.drop k = a :: acts.drop (k + 1) := by
    rw [List.drop_eq_getElem_cons hk, (List.getElem?_eq_some_iff.1 h).2]
  rw [e]; rfl
end Go.Proofs.YtccnkebkgegohaaGreatDoor
end
section
namespace Go.Proofs.YtccnkebkgegohaaGreatDoor
open Go.RowKit Go.Rel
set_option maxRecDepth 100000
@[irreducible] def Veil (p : Prop) : Prop := p
theorem Veil.out {p : Prop} (h : Veil p) : p := by unfold Veil at h; exact h
theorem Veil.on {p : Prop} (h : p) : Veil p := by unfold Veil; exact h
theorem ac_cells {w : World} {b off : Nat} {l : List Ac} (h : Cells w b off 10 (l.map acL)) {k : Nat} {x : Ac} (hx : l[k]? = some x) :
    w.cell? ⟨b, off + k * 10, none⟩ = some (.int .u8 x.1) ∧ w.cell? ⟨b, off + k * 10 + 1, none⟩ = some (.int .i64 x.2.1) ∧
    w.cell? ⟨b, off + k * 10 + 2, none⟩ = some (.int .u64 (pl x.2.2 0)) ∧ w.cell? ⟨b, off + k * 10 + 3, none⟩ = some (.int .u64 (pl x.2.2 1)) ∧ w.cell? ⟨b, off + k * 10 + 4, none⟩ = some (.int .u64 (pl x.2.2 2)) ∧
    w.cell? ⟨b, off + k * 10 + 5, none⟩ = some (.int .u64 (pl x.2.2 3)) ∧ w.cell? ⟨b, off + k * 10 + 6, none⟩ = some (.int .u64 (pl x.2.2 4)) ∧ w.cell? ⟨b, off + k * 10 + 7, none⟩ = some (.int .u64 (pl x.2.2 5)) ∧
    w.cell? ⟨b, off + k * 10 + 8, none⟩ = some (.int .u64 (pl x.2.2 6)) ∧ w.cell? ⟨b, off + k * 10 + 9, none⟩ = some (.int .u64 (pl x.2.2 7)) :=
  ⟨h.2 k 0 _ (by simp [hx]), h.2 k 1 _ (by simp [hx]), h.2 k 2 _ (by simp [hx]), h.2 k 3 _ (by simp [hx]), h.2 k 4 _ (by simp [hx]), h.2 k 5 _ (by simp [hx]), h.2 k 6 _ (by simp [hx]), h.2 k 7 _ (by simp [hx]), h.2 k 8 _ (by simp [hx]), h.2 k 9 _ (by simp [hx])⟩
/-- an append onto memory of one's own: whatever owned the longer row ahead of it owns it behind it -/
theorem run_append_keep {P : Program} (w : World) (base : Nat) (t ty e : TypeId) (i : TypeInfo) (z : Value) (size bytes : Nat) (ht : P.underlying t = some (.slice e)) (hi : P.info? e = some i) (hz : i.zero = some z)
    (hsize : i.size = size) (hby : i.bytes = bytes) (hzs : z.cells.size = size) (hsz : 0 < size)
    (v : Value) (n : Nat) (xs : List Value) (hown : w.ownsRow base e size v n xs)
    (a : Addr) (m c : Nat) (news : List Value) (hl : news.length = m * size) (hnews : ∀ j u, news[j]? = some u → w.cell? (a.add j) = some u) (h1 : ∀ u ∈ news, u.oneCell' = true)
    (h63 : n + m ≤ maxLen) (hbytes : (n + m) * bytes ≤ 140737488355328) (hbase : base ≤ w.heap.size) :
    ∃ v' w', (Builtin.append_ #[t, t] ty #[v, .slice (some a) m c]).run P w = .ok v' w' ∧ w'.ownsRow base e size v' (n + m) (xs ++ news) ∧ w.grownBy w' v.ownBlock ∧
      (∀ u, w.ownsRow base e size u (n + m) (xs ++ news) → w'.ownsRow base e size u (n + m) (xs ++ news)) := by
  obtain ⟨v', w', hr, h2, h3, h4⟩ := run_append_own (P := P) w base t ty e i z size bytes ht hi hz hsize hby hzs hsz v n xs hown a m c news hl hnews h1 h63 hbytes hbase
  refine ⟨v', w', hr, h2, h3, fun u hu => ?_⟩
  by_cases hne : u.ownBlock = none ∨ u.ownBlock ≠ v.ownBlock
  · exact hu.kept h3 hne
  · have hne1 : u.ownBlock ≠ none := fun h => hne (.inl h)
    have hne2 : u.ownBlock = v.ownBlock := Classical.byContradiction fun h => hne (.inr h)
    rcases hu.2 with ⟨rfl, _⟩ | ⟨g, cap, cur, rfl, hb, hg, hnc, hcm, hcs, htake⟩
    · exact absurd rfl hne1
    · rcases hown.2 with ⟨rfl, _⟩ | ⟨g', cap', cur', rfl, hb', hg', hnc', hcm', hcs', htake'⟩
      · simp [Value.ownBlock] at hne2
      · have e1 : g = g' := by simpa [Value.ownBlock] using hne2
        subst e1
        rw [hg] at hg'
        have e2 : cur = cur' := by simpa using hg'
        subst e2
        have e3 : cap = cap' := Nat.eq_of_mul_eq_mul_right hsz (hcs.symm.trans hcs')
        subst e3
        subst hsize
        have hfit : n * i.size + news.length ≤ cur.size := by rw [hl, hcs, ← Nat.add_mul]; exact Nat.mul_le_mul_right _ hnc
        have hr2 := run_append_room (P := P) w t ty e i ht hi g n cap cur hg a m c news hl hnews h1 hnc hfit
        rw [hr] at hr2
        injection hr2 with e4 e5
        subst e4
        exact h2
/-- what a step of the region that lays the next deed and the next stand may turn -/
structure RB (h bp k : Nat) (dv : Value) (ys : List Value) (W W' : World) : Prop where
  mk ::
  bel : Below h W W'
  kept : ∀ j, j < W.heap.size → j ≠ bp → some j ≠ dv.ownBlock → W'.heap[j]? = W.heap[j]?
  own : ∀ u, W.ownsRow (bp + 1) 122 1 u (k + 1) ys → W'.ownsRow (bp + 1) 122 1 u (k + 1) ys
section
variable {h bp k : Nat} {dv : Value} {ys : List Value} {W W' W'' : World}
theorem RB.refl (W : World) : RB h bp k dv ys W W := ⟨Below.refl _ _, fun _ _ _ _ => rfl, fun _ hu => hu⟩
theorem RB.trans (x : RB h bp k dv ys W W') (y : RB h bp k dv ys W' W'') : RB h bp k dv ys W W'' :=
  ⟨x.bel.trans y.bel, fun j hj h1 h2 => (y.kept j (Nat.lt_of_lt_of_le hj x.bel.size) h1 h2).trans (x.kept j hj h1 h2), fun u hu => y.own u (x.own u hu)⟩
theorem RB.grow (hh : h ≤ W.heap.size) (hb : Below W.heap.size W W') : RB h bp k dv ys W W' :=
  ⟨hb.mono hh, fun j hj _ _ => hb.block j hj, fun _ hu => own_grow hu hb⟩
theorem RB.rows (hh : h ≤ bp) (a b : Array Value) : RB h bp k dv ys (W.setRow bp a) (W.setRow bp b) :=
  ⟨blw_rows hh a b, fun j _ h1 _ => (setRow_other W bp j b h1).trans (setRow_other W bp j a h1).symm,
   fun u hu => hu.kept (row := some bp) ⟨rfl, rfl, rfl, by rw [setRow_size, setRow_size]; exact Nat.le_refl _, fun j _ hj => (setRow_other W bp j b (fun e => hj (by rw [e]))).trans (setRow_other W bp j a (fun e => hj (by rw [e]))).symm⟩ (by
     cases e : u.ownBlock with
     | none => exact .inl rfl
     | some g => refine .inr fun hg => ?_; cases hg; have := (hu.lt _ e).1; omega)⟩
theorem RB.app (hh : h ≤ bp) (hlt : ∀ g, dv.ownBlock = some g → bp + 1 ≤ g) (hg : W.grownBy W' dv.ownBlock) (ho : ∀ u, W.ownsRow (bp + 1) 122 1 u (k + 1) ys → W'.ownsRow (bp + 1) 122 1 u (k + 1) ys) (hhs : bp < W.heap.size) : RB h bp k dv ys W W' :=
  ⟨(Below.refl h W).grown hg (by omega) (fun k hk => by have := hlt k hk; omega), fun j hj _ h2 => hg.block j hj h2, ho⟩
end
/-- what is known within that region, by whether the append (8), the store of the deeds (17), the store of the stand (20) are done -/
structure Inv16 (h bp : Nat) (blank : Sol) (v av : Value) (k : Nat) (s s2 : Stn) (dv : Value) (xs ys : List Value) (f8 f17 f20 : Bool) (W : World) : Prop where
  mk ::
  hist : Blk W h #[.int .u64 (pl blank 0), .int .u64 (pl blank 1), .int .u64 (pl blank 2), .int .u64 (pl blank 3), .int .u64 (pl blank 4), .int .u64 (pl blank 5), .int .u64 (pl blank 6), .int .u64 (pl blank 7), v, av] 30
  tc : Blk W (h + 1) #[.pointer (some ⟨bp, 0, none⟩)] 101
  c2 : Blk W (h + 1 + 1) #[.int .i64 0] 3
  c3 : Blk W (h + 1 + 1 + 1) #[.int .i64 0] 33
  past : ∃ dc, Blk W bp (pastC blank v av dc (bif f20 then s2.1 else s.1) (bif f20 then s2.2 else s.2)) 113 ∧ (f17 = false → dc = dv) ∧ (f17 = true → W.ownsRow (bp + 1) 122 1 dc (k + 1) ys)
  own : f8 = false → W.ownsRow (bp + 1) 122 1 dv k xs
  hb : h + 1 + 1 + 1 + 1 ≤ bp
section
variable {h bp : Nat} {blank : Sol} {v av : Value} {k : Nat} {s s2 : Stn} {dv : Value} {xs ys : List Value} {f8 f17 f20 : Bool} {W W' : World}
theorem Inv16.grow (H : Inv16 h bp blank v av k s s2 dv xs ys f8 f17 f20 W) (hb : Below W.heap.size W W') : Inv16 h bp blank v av k s s2 dv xs ys f8 f17 f20 W' :=
  ⟨H.hist.grow hb, H.tc.grow hb, H.c2.grow hb, H.c3.grow hb, let ⟨dc, h1, h2, h3⟩ := H.past; ⟨dc, h1.grow hb, h2, fun e => own_grow (h3 e) hb⟩, fun e => own_grow (H.own e) hb, H.hb⟩
theorem Blk.kept {w w' : World} {b : Nat} {c : Array Value} {t : TypeId} (h : Blk w b c t) (hb : w'.heap[b]? = w.heap[b]?) : Blk w' b c t := hb.trans h
theorem Inv16.app (H : Inv16 h bp blank v av k s s2 dv xs ys false false f20 W) (hg : W.grownBy W' dv.ownBlock) : Inv16 h bp blank v av k s s2 dv xs ys true false f20 W' := by
  have hlt := (H.own rfl).lt
  have hb := H.hb
  have kp : ∀ j, j ≤ bp → j < W.heap.size → W'.heap[j]? = W.heap[j]? := fun j h1 h2 => hg.block j h2 (fun e => by have := hlt j e.symm; omega)
  obtain ⟨dc, p1, p2, p3⟩ := H.past
  exact ⟨H.hist.kept (kp _ (by omega) H.hist.lt), H.tc.kept (kp _ (by omega) H.tc.lt), H.c2.kept (kp _ (by omega) H.c2.lt), H.c3.kept (kp _ (by omega) H.c3.lt), ⟨dc, p1.kept (kp _ (Nat.le_refl _) p1.lt), p2, fun e => (by cases e)⟩, fun e => (by cases e), hb⟩
theorem own_row {w : World} {base bp : Nat} {e : TypeId} {size : Nat} {u : Value} {n : Nat} {zs : List Value} (hu : w.ownsRow base e size u n zs) (hb : bp < base) (c : Array Value) : (w.setRow bp c).ownsRow base e size u n zs :=
  hu.kept (row := some bp) ⟨rfl, rfl, rfl, by rw [setRow_size]; exact Nat.le_refl _, fun j _ hj => setRow_other w bp j c (fun e => hj (by rw [e]))⟩ (by
     cases e : u.ownBlock with
     | none => exact .inl rfl
     | some g => refine .inr fun hg => ?_; cases hg; have := (hu.lt _ e).1; omega)
theorem Inv16.set17 (H : Inv16 h bp blank v av k s s2 dv xs ys true f17 false W) {u : Value} (hu : W.ownsRow (bp + 1) 122 1 u (k + 1) ys) : Inv16 h bp blank v av k s s2 dv xs ys true true false (W.setRow bp (pastC blank v av u s.1 s.2)) := by
  have hb := H.hb
  obtain ⟨dc, p1, p2, p3⟩ := H.past
  exact ⟨H.hist.rowO _ (by omega), H.tc.rowO _ (by omega), H.c2.rowO _ (by omega), H.c3.rowO _ (by omega), ⟨u, p1.rowS _, fun e => (by cases e), fun _ => own_row hu (by omega) _⟩, fun e => (by cases e), hb⟩
theorem Inv16.set20 (H : Inv16 h bp blank v av k s s2 dv xs ys true true f20 W) {dc : Value} (hd : Blk W bp (pastC blank v av dc (bif f20 then s2.1 else s.1) (bif f20 then s2.2 else s.2)) 113) (hu : W.ownsRow (bp + 1) 122 1 dc (k + 1) ys) : Inv16 h bp blank v av k s s2 dv xs ys true true true (W.setRow bp (pastC blank v av dc s2.1 s2.2)) := by
  have hb := H.hb
  exact ⟨H.hist.rowO _ (by omega), H.tc.rowO _ (by omega), H.c2.rowO _ (by omega), H.c3.rowO _ (by omega), ⟨dc, hd.rowS _, fun e => (by cases e), fun _ => own_row hu (by omega) _⟩, fun e => (by cases e), hb⟩
end
/-- a slice of one element of one's own, apart from the deeds' row -/
@[irreducible] def New1 (bp : Nat) (dv d : Value) (v : Value) (W : World) : Prop := W.ownsRow (bp + 1) 122 1 v 1 [d] ∧ v.ownBlock ≠ dv.ownBlock ∧ ∃ g, v = .slice (some ⟨g, 0, none⟩) 1 1
@[irreducible] def OwnK (bp k : Nat) (ys : List Value) (v : Value) (W : World) : Prop := W.ownsRow (bp + 1) 122 1 v (k + 1) ys
theorem OwnK.stable {h bp k : Nat} {dv : Value} {ys : List Value} (v : Value) (W W' : World) (H : OwnK bp k ys v W) (r : RB h bp k dv ys W W') : OwnK bp k ys v W' := by
  unfold OwnK at *; exact r.own v H
theorem New1.stable {h bp k : Nat} {dv d : Value} {ys : List Value} (v : Value) (W W' : World) (H : New1 bp dv d v W) (r : RB h bp k dv ys W W') : New1 bp dv d v W' := by
  unfold New1 at *
  obtain ⟨h1, h2, g, rfl⟩ := H
  refine ⟨⟨h1.1, ?_⟩, h2, g, rfl⟩
  rcases h1.2 with ⟨h, _⟩ | ⟨g', cap, cur, e, hb, hg, rest⟩
  · simp at h
  · have e' : g = g' ∧ 1 = cap := by simpa using e
    refine .inr ⟨g', cap, cur, e, hb, ?_, rest⟩
    rw [r.kept g' (Array.getElem?_eq_some_iff.1 hg).1 (by omega) (by rw [← e'.1]; exact h2)]
    exact hg
theorem New1.fresh {bp : Nat} {dv d : Value} {W : World} (hlt : ∀ g, dv.ownBlock = some g → g < W.heap.size) (hb : bp + 1 ≤ W.heap.size) : New1 bp dv d (.slice (some ⟨W.heap.size, 0, none⟩) 1 1) (W.alloc (.cells #[d] 122)) := by
  unfold New1
  refine ⟨World.ownsRow_lit W #[d] 1 hb (by unfold maxLen; omega) rfl, fun e => ?_, _, rfl⟩
  have := hlt W.heap.size e.symm
  omega
/-- the deed appended -/
theorem append_deed {h bp k : Nat} {dv d v7 : Value} {xs : List Value} {W : World} (hown : W.ownsRow (bp + 1) 122 1 dv k xs) (hn : New1 bp dv d v7 W) (hk : k ≤ 60) (hbp : bp < W.heap.size) (hh : h ≤ bp) (hd : d.oneCell' = true) :
    ∃ v' w', (Builtin.append_ #[111, 111] 111 #[dv, v7]).run Tryz.prog W = .ok v' w' ∧ OwnK bp k (xs ++ [d]) v' w' ∧ W.grownBy w' dv.ownBlock ∧ RB h bp k dv (xs ++ [d]) W w' := by
  unfold New1 at hn
  obtain ⟨h1, h2, g, rfl⟩ := hn
  obtain ⟨i0, hi, hz0, hz1, hz2⟩ := info_parts info122
  obtain ⟨v', w', hr, ho, hg, hu⟩ := run_append_keep W (bp + 1) 111 111 122 i0 .nilIface 1 16 Tryz.underlying111 hi hz0 hz1 hz2 rfl (by decide) dv k xs hown ⟨g, 0, none⟩ 1 1 [d] rfl (h1.cells rfl) (fun u hu => by simp at hu; subst hu; exact hd) (by unfold maxLen; omega) (by omega) (by omega)
  refine ⟨v', w', hr, by unfold OwnK; exact ho, hg, RB.app hh (fun g hg => (hown.lt g hg).1) hg hu hbp⟩
theorem stepI_append {P : Program} {ops : Array Oper} {R : World → World → Prop} {J : World → Prop} {o : Oper} {a : Act} {φ : Value → World → Prop} {W w' : World} {x y : Operand} {t : TypeId} {v v7 v' : Value}
    (hgd : o.guard = none) (ho : o.op = .call { callee := .builtin .append, args := #[x, y], argTypes := #[t, t] }) (hs : a.eval x = v) (hx : a.eval y = v7)
    (hr : (Builtin.append_ #[t, t] o.type #[v, v7]).run P W = .ok v' w') (h : R W w' ∧ J w' ∧ φ v' w') : stepI P ops R J o a φ W := by
  unfold stepI
  have hw : Region.wanted o (yielded ops a.tmps) = true := by unfold Region.wanted; rw [hgd]
  rw [if_pos hw]
  unfold execOp
  simp only [ho, resolve, invoke, builtin, Sem.run_bind, Sem.run_pure, Result.andThen_ok, List.map_toArray, List.map_cons, List.map_nil, hs, hx, hr]
  exact h
theorem own_shape {w : World} {base : Nat} {e : TypeId} {size : Nat} {v : Value} {n : Nat} {xs : List Value} (h : w.ownsRow base e size v n xs) : ∃ p m c, v = .slice p m c := by
  rcases h.2 with ⟨rfl, _⟩ | ⟨g, cap, cur, rfl, _⟩
  · exact ⟨_, _, _, rfl⟩
  · exact ⟨_, _, _, rfl⟩
end Go.Proofs.YtccnkebkgegohaaGreatDoor
end
