import Derived.Test.YtkfimbonmnoglaaGreatDoorRPlaces34
import Derived.Deep.Cut
/-
  Given contracts of functions of the program, and laws for them, one behind the other.
-/
set_option linter.unusedVariables false
set_option linter.unusedSimpArgs false
set_option linter.unusedSectionVars false
section
namespace Go.Proofs.YtkfimbonmnoglaaGreatDoor
open Go.RowKit Go.Rel Go.Draw Go.Solid
set_option maxRecDepth 100000
theorem refTurned_t (s : Sol) {t : Nat} (ht : t < 24) (W : World) : Calls Tryz.prog 72 #[solV s, .int .i64 (t : Nat)] W fun e w' => e = .returned (.tuple #[solV (spunS s t), .int .i64 0]) ∧ Below W.heap.size W w' := by
 have h := refTurned_n s (t : Nat) W
 have e : turnedM s (t : Nat) = (spunS s t, 0) := by
  unfold turnedM
  rw [if_pos (inB_iff.2 ⟨by omega, by omega⟩)]; rfl
 rw [e] at h; exact h
theorem refImage_t (s : Sol) (t : Nat) (W : World) : Calls Tryz.prog 103 #[solV (spunS s t)] W fun e w' => e = .returned (solV (imageS s t)) ∧ Below W.heap.size W w' := refCornered_n (spunS s t) W
attribute [local irreducible] imageS spunS imgF putS
set_option maxHeartbeats 8000000 in
theorem refImages_spec (s : Sol) (w : World) : Calls Tryz.prog 35 #[solV s] w fun e w' => ∃ u, e = .returned u ∧ OwnSo w' w.heap.size u (imagesS s) ∧ Below w.heap.size w w' := by
 have HTu := Lib.hid fun t ht W => refTurned_t (t := t) s ht W
 have HCo := Lib.hid fun t W => refImage_t s t W
 obtain ⟨R, hR⟩ : ∃ R, R = imagesS s := ⟨_, rfl⟩
 rw [← hR]
 have HR : Hid (R = imgF s 24) := Lib.hid (by rw [hR, imgF_end])
 clear hR
 go_enter Tryz.func35, Tryz.ntmps35
 go_wp2_with fail
 obtain ⟨W0, hW0⟩ : ∃ W0, W0 = w.alloc (.cells #[.int .u64 (pl s 0), .int .u64 (pl s 1), .int .u64 (pl s 2), .int .u64 (pl s 3), .int .u64 (pl s 4), .int .u64 (pl s 5), .int .u64 (pl s 6), .int .u64 (pl s 7)] 26) := ⟨_, rfl⟩
 have HB : Hid (Blk W0 w.heap.size #[.int .u64 (pl s 0), .int .u64 (pl s 1), .int .u64 (pl s 2), .int .u64 (pl s 3), .int .u64 (pl s 4), .int .u64 (pl s 5), .int .u64 (pl s 6), .int .u64 (pl s 7)] 26 ∧ Below w.heap.size w W0) := Lib.hid (by rw [hW0]; exact ⟨Blk.new _ _ _, (by repeat (first | with_reducible exact bel_refl _ | with_reducible assumption | with_reducible refine bel_drewN ?_ _ | with_reducible refine bel_drew ?_ | with_reducible refine bel_alloc ?_ _ | with_reducible refine bel_row ?_ ?_ _ | with_reducible refine bel_set ?_ ?_ _ | refine bel_trans ?_ (by with_reducible assumption) | (simp; done) | (simp; omega)))⟩)
 rw [← hW0]
 clear hW0
 go_loopw [3, 4] (fun ov tv wx => ∃ k : Nat, k ≤ 24 ∧ tv = .int .i64 k ∧ Hid ((imgF s k = [] → ov = .slice none 0 0) ∧ OwnSo wx w.heap.size ov (imgF s k) ∧ Blk wx w.heap.size #[.int .u64 (pl s 0), .int .u64 (pl s 1), .int .u64 (pl s 2), .int .u64 (pl s 3), .int .u64 (pl s 4), .int .u64 (pl s 5), .int .u64 (pl s 6), .int .u64 (pl s 7)] 26 ∧ Below w.heap.size w wx)) (fun _ tv _ => 24 - (intOf tv).toNat)
 case atStart => exact ⟨0, by omega, rfl, Lib.hid ⟨fun _ => rfl, by rw [imgF_zero]; exact OwnSo.nil _ _, HB.out⟩⟩
 case round =>
  clear HB
  obtain ⟨k, hk, rfl, HM⟩ := hrel
  by_cases hlt : k < 24
  ·have hd : decide ((k : Int) < 24) = true := decide_eq_true (by omega)
   have HT1 := Lib.hid fun W => HTu.out k hlt W
   have HC1 := Lib.hid fun W => HCo.out k W
   obtain ⟨p, hp⟩ : ∃ p, p = spunS s k := ⟨_, rfl⟩
   obtain ⟨q, hq⟩ : ∃ q, q = imageS s k := ⟨_, rfl⟩
   rw [← hp] at HT1 HC1
   rw [← hq] at HC1
   have HS : Hid (imgF s (k + 1) = putS (imgF s k) q) := Lib.hid (by rw [imgF_step s hlt, hq])
   have cs := HM.out.2.2.1.cell; have ls := HM.out.2.2.1.lt
   clear hp hq
   go_wp2_with fail
   clear cs ls
   refine (HT1.out _).mono ?_
   rintro e1 w2 ⟨rfl, hb⟩
   obtain ⟨wA, hwA⟩ : ∃ x, x = w2.alloc (.cells #[.int .u64 (pl p 0), .int .u64 (pl p 1), .int .u64 (pl p 2), .int .u64 (pl p 3), .int .u64 (pl p 4), .int .u64 (pl p 5), .int .u64 (pl p 6), .int .u64 (pl p 7)] 26) := ⟨_, rfl⟩
   obtain ⟨gA, hgA⟩ : ∃ x, x = w2.heap.size := ⟨_, rfl⟩
   have HK : Hid (Blk wA gA #[.int .u64 (pl p 0), .int .u64 (pl p 1), .int .u64 (pl p 2), .int .u64 (pl p 3), .int .u64 (pl p 4), .int .u64 (pl p 5), .int .u64 (pl p 6), .int .u64 (pl p 7)] 26 ∧ OwnSo wA w.heap.size _ (imgF s k) ∧ Blk wA w.heap.size #[.int .u64 (pl s 0), .int .u64 (pl s 1), .int .u64 (pl s 2), .int .u64 (pl s 3), .int .u64 (pl s 4), .int .u64 (pl s 5), .int .u64 (pl s 6), .int .u64 (pl s 7)] 26 ∧ Below w.heap.size w wA) := Lib.hid (by
    rw [hwA, hgA]
    exact ⟨Blk.new _ _ _, World.ownsRow.alloc (own_wide HM.out.2.1 hb) _, (HM.out.2.2.1.grow hb).alloc _, bel_alloc (bel_trans HM.out.2.2.2 hb) _⟩)
   go_upto_region 6 with fail
   rw [← hwA, ← hgA]
   clear hwA hgA hb
   have cs := HK.out.1.cell; have ls := HK.out.1.lt
   go_wp2_with fail
   clear cs ls
   refine (HC1.out _).mono ?_
   rintro e1 w3 ⟨rfl, hb⟩
   have HK2 := Lib.hid (And.intro (own_wide HK.out.2.1 hb) (And.intro (HK.out.2.2.1.grow hb) (bel_trans HK.out.2.2.2 hb)))
   clear hb HK
   go_wp2_with fail
   refine (refPut_spec HK2.out.1 HK2.out.2.2.size HM.out.1 (by have := imgF_len s k; omega) (imgF_asc s k)).mono ?_
   rintro e1 w4 ⟨u, rfl, hO, hb⟩
   have HK3 := Lib.hid (And.intro hO (And.intro (HK2.out.2.1.grow hb) (bel_trans HK2.out.2.2 hb)))
   clear hO hb HK2 HM
   go_wp2_with fail
   go_roundw
   case rel => exact ⟨k + 1, by omega, by go_num, Lib.hid ⟨fun e => absurd (by rw [HS.out] at e; exact e) (put_ne _ _), by rw [HS.out]; exact HK3.out.1, HK3.out.2⟩⟩
   case measure => simp [intOf]; omega
  ·obtain rfl : k = 24 := by omega
   have hd : decide (((24 : Nat) : Int) < 24) = false := by decide
   go_wp2_with fail
   go_ret
   exact ⟨_, rfl, by rw [HR.out]; exact HM.out.2.1, HM.out.2.2.2⟩
theorem OwnSo.opened {W : World} {base : Nat} {v : Value} {l : List Sol} (h : OwnSo W base v l) : ∃ a c, v = .slice a l.length c ∧ SlO W a l := h.sl.opened
theorem refImages_open (s : Sol) (w : World) : Calls Tryz.prog 35 #[solV s] w fun e w' => (∃ a c, e = .returned (.slice a (imagesS s).length c) ∧ SlO w' a (imagesS s)) ∧ Below w.heap.size w w' := (refImages_spec s w).mono fun e w' he => by
 obtain ⟨u, h1, h2, h3⟩ := he
 obtain ⟨a, c, hv, ho⟩ := OwnSo.opened h2
 exact ⟨⟨a, c, by rw [h1, hv], ho⟩, h3⟩
attribute [local irreducible] imagesS canonS
attribute [local go_sem] Oper.semAt_some
end Go.Proofs.YtkfimbonmnoglaaGreatDoor
end
section
namespace Go.Rel
open Go Go.RowKit
def KeepsT (wr : Nat → Obj → Prop) (W W' : World) : Prop := W.heap.size ≤ W'.heap.size ∧ ∀ (k : Nat) (o : Obj), W.heap[k]? = some o → ¬ wr k o → W'.heap[k]? = some o
theorem KeepsT.refl (wr : Nat → Obj → Prop) (W : World) : KeepsT wr W W := ⟨Nat.le_refl _, fun _ _ h _ => h⟩
theorem KeepsT.trans {wr : Nat → Obj → Prop} {A B C : World} (h : KeepsT wr A B) (k : KeepsT wr B C) : KeepsT wr A C :=
 ⟨Nat.le_trans h.1 k.1, fun i o hi hn => k.2 i o (h.2 i o hi hn) hn⟩
theorem KeepsT.gb {wr : Nat → Obj → Prop} {W W' : World} {row : Option Nat} (h : W.grownBy W' row) (hr : ∀ r o, row = some r → W.heap[r]? = some o → wr r o) : KeepsT wr W W' :=
 ⟨h.size, fun k o hk hn => (h.block k (Array.getElem?_eq_some_iff.1 hk).1 (fun e => hn (hr k o e.symm hk))).trans hk⟩
theorem KeepsT.bel {wr : Nat → Obj → Prop} {W W' : World} (h : Below W.heap.size W W') : KeepsT wr W W' := ⟨h.size, fun k o hk _ => (h.block k (Array.getElem?_eq_some_iff.1 hk).1).trans hk⟩
theorem KeepsT.alloc (wr : Nat → Obj → Prop) (W : World) (o : Obj) : KeepsT wr W (W.alloc o) := .gb (World.grownBy_alloc W o none) (fun _ _ e => by cases e)
/-- the contract of such an iterator, called in world W -/
def SeqT {α : Type} (F : Fence) (n : Nat) (P : Program) (g : Nat) (lb : Array Value) (encs : α → Array Value) (wr : Nat → Obj → Prop) (K : Nat) (S Sp : List α → Prop) (N : Nat) (W : World) : Prop :=
 ∀ (l : Nat) (J Jx : List α → World → Prop), AbidesC W.heap.size (W.heap.size + K) J → AbidesC W.heap.size (W.heap.size + K) Jx → (∀ r o, W.heap.size ≤ r → r < W.heap.size + K → ¬ wr r o) →
  (∀ pre x W1, J pre W1 → W.heap.size + K ≤ W1.heap.size → pre.length < N → YieldAt F (n - 1) P l (encs x) W1 fun e W' =>
   (e = .returned (.bool true) ∧ J (pre ++ [x]) W' ∧ KeepsT wr W1 W') ∨ (e = .returned (.bool false) ∧ Jx (pre ++ [x]) W')) →
  J [] W →
  CallsIn F n P g (#[.func (.yield l) #[] #[]] ++ lb) W fun e W' => (∃ v, e = .returned v) ∧ ((∃ xs, S xs ∧ J xs W') ∨ (∃ pre, Sp pre ∧ Jx pre W'))
/-- how the body of a round may be left -/
def postT {α : Type} (wr : Nat → Obj → Prop) (I : List α → World → Prop) (Ix : Code → List α → World → Prop) (xs : List α) (W : World) : Exit → Act → World → Prop
 | .normal, _, W' => KeepsT wr W W' ∧ I xs W'
 | .ret, _, W' => KeepsT wr W W' ∧ Ix .ret xs W'
 | .exit id, _, W' => KeepsT wr W W' ∧ Ix (.exit id) xs W'
 | .goto t, _, W' => KeepsT wr W W' ∧ Ix (.goto t) xs W'
 | .panic _, _, _ => False
 | .outgrown, _, _ => False
variable {F : Fence} {n : Nat} {P : Program}
theorem wpIn_rangeFunc_T {α : Type} {g : Operand} {ps : Array Tmp} {assign body : Code} {Q : Exit → Act → World → Prop} {a : Act} {w : World}
  (hro : F.round = none) (h1 : 1 ≤ n) {gf : Nat} {lb : Array Value} (hg : a.eval g = .func (.func gf) #[] lb) (hFg : F.fn gf) (eg : ∀ args w, (callFunc gf args).run P w = .ok (.enter gf args) w)
  {encs : α → Array Value} {wr : Nat → Obj → Prop} (K : Nat) {S Sp : List α → Prop} {N : Nat} (hseq : ∀ W, Below w.heap.size w W → W.heap.size = w.heap.size + 1 + 1 → SeqT F (n - 1) P gf lb encs wr K S Sp N W)
  (hwr : ∀ r o, w.heap.size ≤ r → r < w.heap.size + 1 + 1 + K → ¬ wr r o) (hps : ∀ x, (encs x).size = ps.size)
  (I : List α → World → Prop) (Ix : Code → List α → World → Prop) (hI : AbidesC w.heap.size (w.heap.size + 1 + 1 + K) I) (hIx : ∀ c, AbidesC w.heap.size (w.heap.size + 1 + 1 + K) (Ix c)) (h0 : I [] w)
  (Ax : α → Act → World → Prop) (hAx : ∀ x a', AbidesC w.heap.size (w.heap.size + 1 + 1 + K) (fun (_ : Unit) W => Ax x a' W))
  (hassign : ∀ (l : Nat) (pre : List α) (x : α) (W : World) (Z : Act → World → Prop), I pre W → w.heap.size + 1 + 1 + K ≤ W.heap.size → (∀ a' W', KeepsT wr W W' → I pre W' → Ax x a' W' → Z a' W') →
   assign.wpIn (F.inRound l) (n - 1 - 1) P (Exit.then Z (fun _ _ _ => False)) { tmps := (ps.zip (encs x)).foldl (fun t (p, v) => t.setIfInBounds p v) a.tmps, defers := [] } W)
  (hbody : ∀ (l : Nat) (pre : List α) (x : α) (a' : Act) (W : World), w.heap.size + 1 + 1 + K ≤ W.heap.size → I pre W → Ax x a' W → pre.length < N → body.wpIn (F.inRound l) (n - 1 - 1) P (postT wr I Ix (pre ++ [x]) W) a' W)
  (hdone : ∀ (D : Nat) (xs : List α) (W : World), D = w.heap.size → S xs → I xs W → W.heap[D]? = some (.deferred (some [])) → Q .normal { a with defers := { target := .collected D, args := #[] } :: a.defers } W)
  (hstop : ∀ (D : Nat) (c : Code) (pre : List α) (W : World), D = w.heap.size → Sp pre → Ix c pre W → W.heap[D]? = some (.deferred (some [])) → c.wpIn F n P Q { a with defers := { target := .collected D, args := #[] } :: a.defers } W) :
  (Code.rangeFunc g ps assign body).wpIn F n P Q a w := by
 refine wpIn_rangeFunc ?_
 intro fn hfn
 rw [hro]
 obtain ⟨rec, hrec⟩ : ∃ rec : LoopState → Option Code → Loop, rec = fun st pe => { state := st, pending := pe, fn, tmps := a.tmps, params := ps, assign, body, defers := w.heap.size } := ⟨_, rfl⟩
 obtain ⟨W1, hW1⟩ : ∃ W1, (w.alloc (.deferred (some []))).alloc (.loop (rec .ready none)) = W1 := ⟨_, rfl⟩
 have hs1 : W1.heap.size = w.heap.size + 1 + 1 := by rw [← hW1]; simp
 have hL1 : W1.heap[w.heap.size + 1]? = some (.loop (rec .ready none)) := by
  rw [← hW1]; have := World.alloc_heap_new (w.alloc (.deferred (some []))) (.loop (rec .ready none)); rwa [World.size_alloc] at this
 have hK1 : W1.heap[w.heap.size]? = some (.deferred (some [])) := by
  rw [← hW1]; exact (Below.heap_alloc _ _ _ (by simp)).trans (World.alloc_heap_new w _)
 have hI1 : I [] W1 := by rw [← hW1]; exact hI.alloc _ (hI.alloc _ h0)
 have hb1 : Below w.heap.size w W1 := by rw [← hW1]; exact (((Below.refl _ w).alloc (Nat.le_refl _) _).alloc (by simp) _)
 refine ⟨w.heap.size + 1, [{ target := .collected w.heap.size, args := #[] }], W1, { target := .fn (.func gf) lb, args := #[.func (.yield (w.heap.size + 1)) #[] #[]] }, W1, gf,
  #[.func (.yield (w.heap.size + 1)) #[] #[]] ++ lb, W1, ?_, ?_, ?_, ?_, fun _ => h1, ?_⟩
 ·rw [← hW1, hrec]; exact run_enterLoop_outer _ _ _ _ _
 ·simp only [resolve, hg]
  simp [go_sem]
 ·intro f' hf'; simp [Target.leads] at hf'; subst hf'; exact hFg
 ·simp [invoke, go_sem, eg]
 ·refine (hseq W1 hb1 hs1 (w.heap.size + 1)
   (fun pre W => I pre W ∧ W.heap[w.heap.size + 1]? = some (.loop (rec .ready none)) ∧ W.heap[w.heap.size]? = some (.deferred (some [])))
   (fun pre W => ∃ c, Ix c pre W ∧ W.heap[w.heap.size + 1]? = some (.loop (rec .done (some c))) ∧ W.heap[w.heap.size]? = some (.deferred (some [])))
   (fun s A B row hs hgr hr => ⟨hI s A B row hs.1 hgr (fun r e => by have := hr r e; omega), (hgr.block _ (Array.getElem?_eq_some_iff.1 hs.2.1).1 (fun e => by have := hr _ e.symm; omega)).trans hs.2.1, (hgr.block _ (Array.getElem?_eq_some_iff.1 hs.2.2).1 (fun e => by have := hr _ e.symm; omega)).trans hs.2.2⟩)
   (fun s A B row hs hgr hr => by
    obtain ⟨c, hc, hl, hk⟩ := hs
    exact ⟨c, hIx c s A B row hc hgr (fun r e => by have := hr r e; omega), (hgr.block _ (Array.getElem?_eq_some_iff.1 hl).1 (fun e => by have := hr _ e.symm; omega)).trans hl, (hgr.block _ (Array.getElem?_eq_some_iff.1 hk).1 (fun e => by have := hr _ e.symm; omega)).trans hk⟩)
   (fun r o h1 h2 => hwr r o (by omega) (by omega)) ?_ ⟨hI1, hL1, hK1⟩).mono ?_
  ·rintro pre x W ⟨hi, hl, hk⟩ hsz hlen
   have hy := run_yield (P := P) (args := encs x) hl (by rw [hrec]; exact hps x)
   rw [hrec] at hy
   refine ⟨fn, _, assign, body, hy, roundIn_of_wpIn hfn (hassign _ pre x W _ hi (by omega) ?_)⟩
   clear hy
   intro a' Wa hka hia hax
   have hla := hka.2 _ _ hl (hwr _ _ (by omega) (by omega))
   have hda := hka.2 _ _ hk (hwr _ _ (by omega) (by omega))
   have hlta : w.heap.size + 1 < Wa.heap.size := (Array.getElem?_eq_some_iff.1 hla).1
   refine ⟨_, run_beginRound hla (by rw [hrec]), ?_⟩
   obtain ⟨busy, hbusy⟩ : ∃ o : Obj, o = .loop { rec .ready none with state := .busy } := ⟨_, rfl⟩
   obtain ⟨Wb, hWb⟩ : ∃ Wb, Wb = Wa.putObj (w.heap.size + 1) (.loop { rec .ready none with state := .busy }) := ⟨_, rfl⟩
   have hlb : Wb.heap[w.heap.size + 1]? = some (.loop { rec .ready none with state := .busy }) := by rw [hWb]; exact World.putObj_heap_same hlta
   have hdb : Wb.heap[w.heap.size]? = some (.deferred (some [])) := by rw [hWb]; exact (World.putObj_heap_other (by omega)).trans hda
   have hib : I pre Wb := by rw [hWb]; exact hI.put _ hia (by omega) (by omega)
   have haxb : Ax x a' Wb := by rw [hWb]; exact (hAx x a').put (s := ()) _ hax (by omega) (by omega)
   have hszb : Wb.heap.size = Wa.heap.size := by rw [hWb]; simp [World.putObj]
   have hsame : ∀ k, k ≠ w.heap.size + 1 → Wb.heap[k]? = Wa.heap[k]? := fun k hk => by rw [hWb]; exact World.putObj_heap_other hk
   rw [← hWb]
   refine wpIn_mono (hbody _ pre x a' Wb (by have := hka.1; omega) hib haxb hlen) ?_
   have fin : ∀ (jump : Option Code) (W3 : World), KeepsT wr Wb W3 →
     (Instr.endRound (w.heap.size + 1) jump).run P W3 = .ok (.bool jump.isNone) (W3.putObj (w.heap.size + 1) (.loop (rec (if jump.isNone then .ready else .done) jump))) ∧
     (W3.putObj (w.heap.size + 1) (.loop (rec (if jump.isNone then .ready else .done) jump))).heap[w.heap.size + 1]? = some (.loop (rec (if jump.isNone then .ready else .done) jump)) ∧
     (W3.putObj (w.heap.size + 1) (.loop (rec (if jump.isNone then .ready else .done) jump))).heap[w.heap.size]? = some (.deferred (some [])) := fun jump W3 hk3 => by
    have hl3 := hk3.2 _ _ hlb (hwr _ _ (by omega) (by omega))
    have hd3 := hk3.2 _ _ hdb (hwr _ _ (by omega) (by omega))
    have := run_endRound (P := P) jump hl3
    rw [hrec] at this ⊢
    exact ⟨this, World.putObj_heap_same (Array.getElem?_eq_some_iff.1 hl3).1, (World.putObj_heap_other (by omega)).trans hd3⟩
   rintro e a3 W3 hp
   cases e with
   | normal =>
    obtain ⟨hk3, hi3⟩ := hp
    obtain ⟨hr, hl4, hk4⟩ := fin none W3 hk3
    refine ⟨_, _, hr, .inl ⟨rfl, ⟨hI.put _ hi3 (by omega) (by omega), hl4, hk4⟩, ?_⟩⟩
    refine ⟨by simp [World.putObj]; have := hka.1; have := hk3.1; omega, fun k o hk hn => ?_⟩
    have hka' := hka.2 k o hk hn
    by_cases e : k = w.heap.size + 1
    ·subst e
     rw [hl] at hk
     rw [← hk, hl4]; rfl
    ·rw [World.putObj_heap_other e]
     exact hk3.2 k o ((hsame k e).trans hka') hn
   | ret =>
    obtain ⟨hk3, hi3⟩ := hp
    obtain ⟨hr, hl4, hk4⟩ := fin (some .ret) W3 hk3
    exact ⟨_, _, hr, .inr ⟨rfl, .ret, (hIx _).put _ hi3 (by omega) (by omega), hl4, hk4⟩⟩
   | exit id =>
    obtain ⟨hk3, hi3⟩ := hp
    obtain ⟨hr, hl4, hk4⟩ := fin (some (.exit id)) W3 hk3
    exact ⟨_, _, hr, .inr ⟨rfl, .exit id, (hIx _).put _ hi3 (by omega) (by omega), hl4, hk4⟩⟩
   | goto t =>
    obtain ⟨hk3, hi3⟩ := hp
    obtain ⟨hr, hl4, hk4⟩ := fin (some (.goto t)) W3 hk3
    exact ⟨_, _, hr, .inr ⟨rfl, .goto t, (hIx _).put _ hi3 (by omega) (by omega), hl4, hk4⟩⟩
   | panic ch => exact hp.elim
   | outgrown => exact hp.elim
  ·rintro e W2 ⟨⟨v, rfl⟩, (⟨xs, hS, hi, hl, hk⟩ | ⟨pre, hSp, c, hi, hl, hk⟩)⟩
   ·exact ⟨none, _, by have := run_endLoop (P := P) hl (by rw [hrec]; simp); rw [hrec] at this; exact this, hdone _ xs _ rfl hS (hI.put _ hi (by omega) (by omega)) ((World.putObj_heap_other (by omega)).trans hk)⟩
   ·exact ⟨some c, _, by have := run_endLoop (P := P) hl (by rw [hrec]; simp); rw [hrec] at this; exact this, hstop _ c pre _ rfl hSp ((hIx c).put _ hi (by omega) (by omega)) ((World.putObj_heap_other (by omega)).trans hk)⟩
end Go.Rel
namespace Go.Proofs.YtkfimbonmnoglaaGreatDoor
open Go.RowKit Go.Rel Go.Draw Go.Solid
set_option maxRecDepth 100000
theorem Blk.keepT {W W' : World} {g : Nat} {c : Array Value} {T : TypeId} {Wr : Nat → Obj → Prop} (h : Blk W g c T) (hk : KeepsT Wr W W') (hn : ¬ Wr g (.cells c T)) : Blk W' g c T := hk.2 _ _ h hn
theorem Tab.keepT {w w' : World} {Wr : Nat → Obj → Prop} (h : Tab w) (hk : KeepsT Wr w w') (hn : ∀ o, ¬ Wr 0 o) : Tab w' := fun k hk2 => by
 obtain ⟨o, ho⟩ : ∃ o, w.heap[0]? = some o := ⟨_, Array.getElem?_eq_some_iff.2 ⟨h.lt, rfl⟩⟩
 have e := hk.2 _ _ ho (hn o)
 have := h k hk2
 unfold World.cell? at this ⊢
 rw [e, ← ho]; exact this
structure WrT (Wr : Nat → Obj → Prop) (B0 ba bb : Nat) : Prop where
 up : ∀ k c T, B0 ≤ k → T ≠ 26 → ¬ Wr k (.cells c T)
 a : ∀ o, ¬ Wr ba o
 b : ∀ o, ¬ Wr bb o
 t : ∀ o, ¬ Wr 0 o
theorem FJ.keepT {B0 : Nat} {a b : Sol} {ba bb b4 : Nat} {W W' : World} {Wr : Nat → Obj → Prop} (h : FJ B0 a b ba bb b4 W) (hk : KeepsT Wr W W') (hw : WrT Wr B0 ba bb) (h4 : B0 ≤ b4) : FJ B0 a b ba bb b4 W' :=
 ⟨Nat.le_trans h.sz hk.1, h.sa.keepT hk (hw.a _), h.sb.keepT hk (hw.b _), h.rm.keepT hk (hw.up _ _ _ h4 (by decide)), h.tb.keepT hk hw.t⟩
theorem FK.keepT {B0 : Nat} {P : Sol} {b7 b8 b9 ba bb : Nat} {W W' : World} {Wr : Nat → Obj → Prop} (h : FK B0 P b7 b8 b9 W) (hk : KeepsT Wr W W') (hw : WrT Wr B0 ba bb) : FK B0 P b7 b8 b9 W' :=
 ⟨h.le, h.p.keepT hk (hw.up _ _ _ h.le.1 (by decide)), h.l.keepT hk (hw.up _ _ _ h.le.2.1 (by decide)), h.h.keepT hk (hw.up _ _ _ h.le.2.2 (by decide))⟩
end Go.Proofs.YtkfimbonmnoglaaGreatDoor
end
