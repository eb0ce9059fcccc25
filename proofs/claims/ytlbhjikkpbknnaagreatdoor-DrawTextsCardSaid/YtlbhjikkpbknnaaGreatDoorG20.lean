import Derived.Test.YtlbhjikkpbknnaaGreatDoorG18
import Derived.Test.YtlbhjikkpbknnaaGreatDoorG19
/-
  Given contracts of functions of the program, and laws for them, one behind the other.
-/
set_option linter.unusedVariables false
set_option linter.unusedSimpArgs false
set_option linter.unusedSectionVars false
section
namespace Go.Proofs.YtlbhjikkpbknnaaGreatDoor
open Go.RowKit Go.Rel Go.Draw
set_option maxRecDepth 100000
attribute [local go_sem] Oper.semAt_some
/-! what holds a piece -/
def holdF (m : List Sol) (G : U) (own : Nat) (y : Sol × Bool) : Option (Int × Int) := if y.2 then atM m own G y.1 else some (-1, -1)
def HoldFound (w : World) (mb : Nat) (m : List Sol) (G : U) (own N0 : Nat) (pre : List (Sol × Bool)) (W : World) : Prop :=
 ∃ (pre' : List (Sol × Bool)) (y : Sol × Bool) (c p : Int), pre = pre' ++ [y] ∧ (∀ z ∈ pre', holdF m G own z = none) ∧ holdF m G own y = some (c, p) ∧ Below N0 w W ∧ Blk W (N0 + 1) #[.int .i64 c] 3 ∧ Blk W (N0 + 1 + 1) #[.int .i64 p] 3 ∧ Blk W (N0 + 1 + 1 + 1) #[.bool true] 4 ∧ Blk W (N0 + 1 + 1 + 1 + 1) #[.int .i64 0] 29
theorem holdFound_abides {w : World} {mb : Nat} {m : List Sol} {G : U} {own N0 lo hi : Nat} (hN : N0 ≤ w.heap.size) (h : N0 + 1 + 1 + 1 + 1 < lo) : AbidesC lo hi (fun pre W => HoldFound w mb m G own N0 pre W) := fun pre W W' row hs hg hr => by
 obtain ⟨pre', y, c, p, e, ha, hb, hw, b6, b7, b8, b9⟩ := hs
 have hne : ∀ k, k < lo → some k ≠ row := fun k hk e => by have := hr _ e.symm; omega
 exact ⟨pre', y, c, p, e, ha, hb, hw.grown hg (Nat.le_trans hN hw.size) (fun j e => by have := hr j e; omega), b6.gb hg (hne _ (by omega)), b7.gb hg (hne _ (by omega)), b8.gb hg (hne _ (by omega)), b9.gb hg (hne _ (by omega))⟩
theorem set_self1 {w : World} {b : Nat} {v : Value} {t : TypeId} (h : Blk w b #[v] t) : w.setCell ⟨b, 0, none⟩ v = w := by
 have e : (w.setRow b #[v]).setCell ⟨b, 0, none⟩ v = w.setRow b #[v] := setRow_setCell w b 0 #[v] v
 rwa [h.rw] at e
theorem hold_rows {w W : World} {N0 : Nat} {c p : Int} {x6 x7 x8 : Value} (hw : Below N0 w W) (b6 : Blk W (N0 + 1) #[x6] 3) (b7 : Blk W (N0 + 1 + 1) #[x7] 3) (b8 : Blk W (N0 + 1 + 1 + 1) #[x8] 4) (b9 : Blk W (N0 + 1 + 1 + 1 + 1) #[.int .i64 0] 29) :
  KeepsBut (fun k => k = N0 + 1 ∨ k = N0 + 1 + 1 ∨ k = N0 + 1 + 1 + 1 ∨ k = N0 + 1 + 1 + 1 + 1) W (((W.setRow (N0 + 1 + 1 + 1) #[.bool true]).setRow (N0 + 1 + 1) #[.int .i64 p]).setRow (N0 + 1) #[.int .i64 c]) ∧
  Below N0 w (((W.setRow (N0 + 1 + 1 + 1) #[.bool true]).setRow (N0 + 1 + 1) #[.int .i64 p]).setRow (N0 + 1) #[.int .i64 c]) ∧
  Blk (((W.setRow (N0 + 1 + 1 + 1) #[.bool true]).setRow (N0 + 1 + 1) #[.int .i64 p]).setRow (N0 + 1) #[.int .i64 c]) (N0 + 1) #[.int .i64 c] 3 ∧
  Blk (((W.setRow (N0 + 1 + 1 + 1) #[.bool true]).setRow (N0 + 1 + 1) #[.int .i64 p]).setRow (N0 + 1) #[.int .i64 c]) (N0 + 1 + 1) #[.int .i64 p] 3 ∧
  Blk (((W.setRow (N0 + 1 + 1 + 1) #[.bool true]).setRow (N0 + 1 + 1) #[.int .i64 p]).setRow (N0 + 1) #[.int .i64 c]) (N0 + 1 + 1 + 1) #[.bool true] 4 ∧
  Blk (((W.setRow (N0 + 1 + 1 + 1) #[.bool true]).setRow (N0 + 1 + 1) #[.int .i64 p]).setRow (N0 + 1) #[.int .i64 c]) (N0 + 1 + 1 + 1 + 1) #[.int .i64 0] 29 := by
 refine ⟨((KeepsBut.gb (gb_row (gb_refl W (some (N0 + 1 + 1 + 1))) _) (fun r e => by cases e; exact .inr (.inr (.inl rfl)))).trans (KeepsBut.gb (gb_row (gb_refl _ (some (N0 + 1 + 1))) _) (fun r e => by cases e; exact .inr (.inl rfl)))).trans (KeepsBut.gb (gb_row (gb_refl _ (some (N0 + 1))) _) (fun r e => by cases e; exact .inl rfl)),
  blw_row (blw_row (blw_row hw (by omega) _) (by omega) _) (by omega) _,
  ((b6.rowO _ (by omega)).rowO _ (by omega)).rowS _, ((b7.rowO _ (by omega)).rowS _).rowO _ (by omega), ((b8.rowS _).rowO _ (by omega)).rowO _ (by omega), ((b9.rowO _ (by omega)).rowO _ (by omega)).rowO _ (by omega)⟩
def holdsV : Option (Int × Int) → Value
 | some (c, p) => .tuple #[.int .i64 c, .int .i64 p, .bool true, .int .i64 0]
 | none => .tuple #[.int .i64 0, .int .i64 0, .bool false, .int .i64 0]
set_option maxHeartbeats 8000000 in
theorem Holds_spec {w : World} {v gv : Value} {l : List Sol} {gone : List Int} {x : Mo} {G : U} (H : SlS w v l) (HG : SlI w gv gone) (hT : Tab w) (hE : movedE l gone ((x.1 : Int), (x.2.1 : Int), (x.2.2 : Int)) = 0) (hx : x ∈ allMv) (hGs : setI l.length gone = some G) (hxl : x.1 < l.length) :
  Calls Tryz.prog 15 #[v, gv, mvV x] w fun e w' => Below w.heap.size w w' ∧ e = .returned (holdsV (holdsM l G x)) := by
 obtain ⟨a, b, c⟩ := x
 have HH := Lib.hid (And.intro H (And.intro HG (And.intro hT (And.intro hE (And.intro hx (And.intro hGs hxl))))))
 clear H HG hT hE hx hGs hxl
 refine (callsIn_wide (n := 9)).1 ?_
 refine callsIn_of_wp_marks Tryz.func15 rfl trivial ?_ rfl
 simp only [Tryz.ntmps15, List.size_toArray, List.length_cons, List.length_nil, Nat.reduceAdd, Nat.reduceSub, Array.replicate_succ, Array.replicate_zero, List.push_toArray, List.append_toArray, List.nil_append, List.cons_append]
 refine wpIn_wide.2 ?_
 go_wp2_with fail
 obtain ⟨w1, hw1⟩ : ∃ w1, w1 = ((((w.alloc (.cells #[.int .i64 (a : Int), .int .i64 (b : Int), .int .i64 (c : Int)] 25)).alloc (.cells #[.int .i64 0] 3)).alloc (.cells #[.int .i64 0] 3)).alloc (.cells #[.bool false] 4)).alloc (.cells #[.int .i64 0] 29) := ⟨_, rfl⟩
 rw [← hw1]
 have b5 : Blk w1 w.heap.size #[.int .i64 (a : Int), .int .i64 (b : Int), .int .i64 (c : Int)] 25 := by subst hw1; exact (by repeat (first | with_reducible assumption | (refine Blk.at _ _ ?_; (simp; done)) | with_reducible refine Blk.alloc ?_ _ | with_reducible refine Blk.drew ?_ | with_reducible refine Blk.rowS ?_ _ | with_reducible refine Blk.rowO ?_ _ (by simp)))
 have b6 : Blk w1 (w.heap.size + 1) #[.int .i64 0] 3 := by subst hw1; exact (by repeat (first | with_reducible assumption | (refine Blk.at _ _ ?_; (simp; done)) | with_reducible refine Blk.alloc ?_ _ | with_reducible refine Blk.drew ?_ | with_reducible refine Blk.rowS ?_ _ | with_reducible refine Blk.rowO ?_ _ (by simp)))
 have b7 : Blk w1 (w.heap.size + 1 + 1) #[.int .i64 0] 3 := by subst hw1; exact (by repeat (first | with_reducible assumption | (refine Blk.at _ _ ?_; (simp; done)) | with_reducible refine Blk.alloc ?_ _ | with_reducible refine Blk.drew ?_ | with_reducible refine Blk.rowS ?_ _ | with_reducible refine Blk.rowO ?_ _ (by simp)))
 have b8 : Blk w1 (w.heap.size + 1 + 1 + 1) #[.bool false] 4 := by subst hw1; exact (by repeat (first | with_reducible assumption | (refine Blk.at _ _ ?_; (simp; done)) | with_reducible refine Blk.alloc ?_ _ | with_reducible refine Blk.drew ?_ | with_reducible refine Blk.rowS ?_ _ | with_reducible refine Blk.rowO ?_ _ (by simp)))
 have b9 : Blk w1 (w.heap.size + 1 + 1 + 1 + 1) #[.int .i64 0] 29 := by subst hw1; exact Blk.at _ _ (by simp)
 have hsz1 : w1.heap.size = w.heap.size + 1 + 1 + 1 + 1 + 1 := by subst hw1; simp
 have hb1 : Below w.heap.size w w1 := by subst hw1; exact (by repeat (first | with_reducible exact bel_refl _ | with_reducible assumption | with_reducible refine bel_drewN ?_ _ | with_reducible refine bel_drew ?_ | with_reducible refine bel_alloc ?_ _ | with_reducible refine bel_row ?_ ?_ _ | with_reducible refine bel_set ?_ ?_ _ | refine bel_trans ?_ (by with_reducible assumption) | (simp; done) | (simp; omega)))
 clear hw1
 refine (moved_spec (HH.out.1.mono hb1) (HH.out.2.1.mono hb1)).mono ?_
 rintro e w2 ⟨hb2, p, G2, rfl, hX⟩
 obtain ⟨q1, q2, q3, q4, q5, g, mb, rfl, q6, q7, q8⟩ := hX HH.out.2.2.2.1
 have hG2 : G2 = G := Option.some.inj (q3.symm.trans HH.out.2.2.2.2.2.1)
 subst hG2
 rw [HH.out.2.2.2.1]
 obtain ⟨M, hM⟩ : ∃ M, M = w2.heap.size := ⟨_, rfl⟩
 have hMs : w.heap.size + 1 + 1 + 1 + 1 + 1 ≤ M := by rw [hM, ← hsz1]; exact hb2.size
 have c9 : ∀ o1 o2, ((w2.alloc o1).alloc o2).cell? ⟨w.heap.size + 1 + 1 + 1 + 1, 0, none⟩ = some (.int .i64 0) := fun o1 o2 => (((b9.grow hb2).alloc o1).alloc o2).cell 0
 have f9 : ∀ o1 o2, ((w2.alloc o1).alloc o2).frozen? ⟨w.heap.size + 1 + 1 + 1 + 1, 0, none⟩ = false := fun o1 o2 => (((b9.grow hb2).alloc o1).alloc o2).free 0
 have l9 := (b9.grow hb2).lt
 have n1 : w2.heap.size ≠ w.heap.size + 1 + 1 + 1 + 1 := by omega
 have n2 : w.heap.size + 1 + 1 + 1 + 1 ≠ w2.heap.size := by omega
 have c5 := (b5.grow hb2).cell
 have l5 := (b5.grow hb2).lt
 have H2 := Lib.hid (And.intro (b5.grow hb2) (And.intro (b6.grow hb2) (And.intro (b7.grow hb2) (And.intro (b8.grow hb2) (And.intro (b9.grow hb2) (And.intro (bel_trans hb1 hb2) (And.intro q8 (And.intro q1 (And.intro q6 (And.intro q7 hM))))))))))
 clear hb1 hb2 b5 b6 b7 b8 b9 hX q1 q2 q3 q4 q5 q6 q7 q8 hM
 go_wp2_with fail
 have e3 : ((w2.alloc (.cells #[.pointer (some ⟨g, 0, none⟩)] 80)).alloc (.cells #[.int .u64 (uI G2)] 81)).setCell ⟨w.heap.size + 1 + 1 + 1 + 1, 0, none⟩ (.int .i64 0) = (w2.alloc (.cells #[.pointer (some ⟨g, 0, none⟩)] 80)).alloc (.cells #[.int .u64 (uI G2)] 81) :=
  set_self1 ((H2.out.2.2.2.2.1.alloc _).alloc _)
 rw [e3]
 clear e3 c9 f9 c5 l5
 refine (way_spec _ g (a, b, c)).mono ?_
 rintro e w4 ⟨rfl, hw4⟩
 simp only [World.size_alloc] at hw4 ⊢
 have hne : ∀ k, k < w2.heap.size → w4.heap[k]? = w2.heap[k]? := fun k hk => by
  subst hw4
  have hb : Below w2.heap.size w2 ((((w2.alloc (.cells #[.pointer (some ⟨g, 0, none⟩)] 80)).alloc (.cells #[.int .u64 (uI G2)] 81)).alloc (.cells #[.pointer (some ⟨g, 0, none⟩)] 80)).alloc (.cells #[.int .i64 (a : Int), .int .i64 (b : Int), .int .i64 (c : Int)] 25)) := (by repeat (first | with_reducible exact bel_refl _ | with_reducible assumption | with_reducible refine bel_drewN ?_ _ | with_reducible refine bel_drew ?_ | with_reducible refine bel_alloc ?_ _ | with_reducible refine bel_row ?_ ?_ _ | with_reducible refine bel_set ?_ ?_ _ | refine bel_trans ?_ (by with_reducible assumption) | (simp; done) | (simp; omega)))
  exact hb.block k hk
 have hb4 : Below w2.heap.size w2 w4 := by subst hw4; exact (by repeat (first | with_reducible exact bel_refl _ | with_reducible assumption | with_reducible refine bel_drewN ?_ _ | with_reducible refine bel_drew ?_ | with_reducible refine bel_alloc ?_ _ | with_reducible refine bel_row ?_ ?_ _ | with_reducible refine bel_set ?_ ?_ _ | refine bel_trans ?_ (by with_reducible assumption) | (simp; done) | (simp; omega)))
 have bM : Blk w4 w2.heap.size #[.pointer (some ⟨g, 0, none⟩)] 80 := by subst hw4; exact (by repeat (first | with_reducible assumption | (refine Blk.at _ _ ?_; (simp; done)) | with_reducible refine Blk.alloc ?_ _ | with_reducible refine Blk.drew ?_ | with_reducible refine Blk.rowS ?_ _ | with_reducible refine Blk.rowO ?_ _ (by simp)))
 have bG : Blk w4 (w2.heap.size + 1) #[.int .u64 (uI G2)] 81 := by subst hw4; exact (by repeat (first | with_reducible assumption | (refine Blk.at _ _ ?_; (simp; done)) | with_reducible refine Blk.alloc ?_ _ | with_reducible refine Blk.drew ?_ | with_reducible refine Blk.rowS ?_ _ | with_reducible refine Blk.rowO ?_ _ (by simp)))
 have bm : Blk w4 (w2.heap.size + 1 + 1) #[.pointer (some ⟨g, 0, none⟩)] 80 := by subst hw4; exact (by repeat (first | with_reducible assumption | (refine Blk.at _ _ ?_; (simp; done)) | with_reducible refine Blk.alloc ?_ _ | with_reducible refine Blk.drew ?_ | with_reducible refine Blk.rowS ?_ _ | with_reducible refine Blk.rowO ?_ _ (by simp)))
 have bx : Blk w4 (w2.heap.size + 1 + 1 + 1) #[.int .i64 (a : Int), .int .i64 (b : Int), .int .i64 (c : Int)] 25 := by subst hw4; exact Blk.at _ _ (by simp)
 have hsz4 : w4.heap.size = w2.heap.size + 1 + 1 + 1 + 1 := by subst hw4; simp
 obtain ⟨s, hs⟩ : ∃ s, l[a]? = some s := ⟨_, List.getElem?_eq_getElem HH.out.2.2.2.2.2.2⟩
 have hM4 : Mould w4 g mb l := H2.out.2.2.2.2.2.2.1.grow hb4
 have H4 := Lib.hid (And.intro (H2.out.1.grow hb4) (And.intro (H2.out.2.1.grow hb4) (And.intro (H2.out.2.2.1.grow hb4) (And.intro (H2.out.2.2.2.1.grow hb4) (And.intro (H2.out.2.2.2.2.1.grow hb4) (And.intro bM (And.intro bG (And.intro bm (And.intro bx (And.intro hsz4 (And.intro hM4 (And.intro hs (And.intro (bel_trans H2.out.2.2.2.2.2.1 hb4) hb4)))))))))))))
 clear hw4 hne hb4 bM bG bm bx hsz4 hM4 hs
 go_wp2_with fail
 have hMM := H2.out.2.2.2.2.2.2.2.2.2.2
 have hmb : w.heap.size + 1 + 1 + 1 + 1 + 1 ≤ mb ∧ mb < w2.heap.size := ⟨by rw [← hsz1]; exact H2.out.2.2.2.2.2.2.2.2.2.1, H2.out.2.2.2.2.2.2.1.ways.lt⟩
 have hgg : w.heap.size + 1 + 1 + 1 + 1 + 1 ≤ g := by rw [← hsz1]; exact H2.out.2.2.2.2.2.2.2.2.1
 refine (wpIn_wide (n := 9)).1 ?_
 refine wpIn_rangeFunc_C (α := Sol × Bool) rfl (by omega) (gf := 121) (lb := #[.pointer (some ⟨w2.heap.size + 1 + 1, 0, none⟩), .pointer (some ⟨w2.heap.size + 1 + 1 + 1, 0, none⟩)]) rfl trivial (enters_of Tryz.func121 (by kernel_rfl) rfl) (wr := fun k => k = w.heap.size + 1 ∨ k = w.heap.size + 1 + 1 ∨ k = w.heap.size + 1 + 1 + 1 ∨ k = w.heap.size + 1 + 1 + 1 + 1) 1
  (fun W hbW _ => way_seq (n := 9 - 1) (by omega) (H4.out.2.2.2.2.2.2.2.2.2.2.1.grow hbW) (x := (a, b, c)) H4.out.2.2.2.2.2.2.2.2.2.2.2.1 HH.out.2.2.2.2.1 (H4.out.2.2.2.2.2.2.2.1.grow hbW) (H4.out.2.2.2.2.2.2.2.2.1.grow hbW) (by omega)) (fun r h1 h2 => by have := H4.out.2.2.2.2.2.2.2.2.2.1; omega) (fun _ => rfl)
  (fun pre W => ((∀ y ∈ pre, holdF l G2 a y = none) ∧ Ways W mb l) ∧ w4.grownBy W (some mb)) (fun c pre W => c = .ret ∧ HoldFound w mb l G2 a w.heap.size pre W)
  (AbidesC.and (AbidesC.and (AbidesC.pure _ _ _) (abides_ways (by have := H4.out.2.2.2.2.2.2.2.2.2.1; omega))) (abides_gb (Nat.le_refl _))) (fun c => AbidesC.and (AbidesC.pure _ _ _) (holdFound_abides (Nat.le_refl _) (by have := H4.out.2.2.2.2.2.2.2.2.2.1; omega))) ⟨⟨by simp, H4.out.2.2.2.2.2.2.2.2.2.2.1.ways⟩, gb_refl _ _⟩
  (fun z a' W => ∃ B12, w4.heap.size + 1 + 1 + 1 ≤ B12 ∧ Blk W B12 #[.int .u64 (pl z.1 0), .int .u64 (pl z.1 1), .int .u64 (pl z.1 2), .int .u64 (pl z.1 3), .int .u64 (pl z.1 4), .int .u64 (pl z.1 5), .int .u64 (pl z.1 6), .int .u64 (pl z.1 7)] 93 ∧ a' = { tmps := #[v, gv, .agg #[.int .i64 (a : Int), .int .i64 (b : Int), .int .i64 (c : Int)], undef, undef, .pointer (some ⟨w.heap.size, 0, none⟩), .pointer (some ⟨w.heap.size + 1, 0, none⟩), .pointer (some ⟨w.heap.size + 1 + 1, 0, none⟩), .pointer (some ⟨w.heap.size + 1 + 1 + 1, 0, none⟩), .pointer (some ⟨w.heap.size + 1 + 1 + 1 + 1, 0, none⟩), .pointer (some ⟨w2.heap.size, 0, none⟩), .pointer (some ⟨w2.heap.size + 1, 0, none⟩), .pointer (some ⟨B12, 0, none⟩), .bool z.2, undef, undef, undef, .tuple #[.pointer (some ⟨g, 0, none⟩), .int .u64 (uI G2), .int .i64 0], v, gv, .agg #[.int .i64 (a : Int), .int .i64 (b : Int), .int .i64 (c : Int)], .tuple #[.pointer (some ⟨g, 0, none⟩), .int .u64 (uI G2), .int .i64 0], .pointer (some ⟨g, 0, none⟩), .int .u64 (uI G2), .int .i64 0, .int .i64 0, .bool false, undef, .pointer (some ⟨g, 0, none⟩), .agg #[.int .i64 (a : Int), .int .i64 (b : Int), .int .i64 (c : Int)], .func (.func 121) #[] #[.pointer (some ⟨w2.heap.size + 1 + 1, 0, none⟩), .pointer (some ⟨w2.heap.size + 1 + 1 + 1, 0, none⟩)], .agg #[.int .u64 (pl z.1 0), .int .u64 (pl z.1 1), .int .u64 (pl z.1 2), .int .u64 (pl z.1 3), .int .u64 (pl z.1 4), .int .u64 (pl z.1 5), .int .u64 (pl z.1 6), .int .u64 (pl z.1 7)], .bool z.2, undef, undef, undef, undef, undef, undef, undef, undef, undef, undef, undef, undef, undef, undef, undef, undef, undef, undef, undef, undef, undef, undef], defers := [] })
  (fun z a' _ X Y row hs hg hr => by obtain ⟨B12, e1, e2, e3⟩ := hs; exact ⟨B12, e1, e2.gb hg (fun e => by have := hr _ e.symm; omega), e3⟩)
  ?assign ?body ?done ?stop
 case assign =>
  rintro lp pre z W K ⟨⟨hp1, hw1⟩, hgb⟩ hsz hK
  have HI := Lib.hid (And.intro hp1 (And.intro hw1 hgb)); clear hp1 hw1 hgb
  have hK' := fun a' W' => hK a' W'
  clear hK
  gi_wp2_with fail
  refine hK' _ _ (KeepsBut.alloc _ _ _) ⟨⟨HI.out.1, HI.out.2.1.kept (World.grownBy_alloc _ _ none) (by simp)⟩, gb_alloc HI.out.2.2 _⟩ ⟨W.heap.size, hsz, Blk.new _ _ _, rfl⟩
 case body =>
  rintro lp pre ⟨z1, z2⟩ a' W hsz ⟨⟨hp1, hw1⟩, hgb⟩ ⟨B12, hB12, bB, rfl⟩ hlen
  have hH4 := H4.out.2.2.2.2.2.2.2.2.2.1
  have b5 := H4.out.1.gb hgb (by simp; omega)
  have b6 := H4.out.2.1.gb hgb (by simp; omega)
  have b7 := H4.out.2.2.1.gb hgb (by simp; omega)
  have b8 := H4.out.2.2.2.1.gb hgb (by simp; omega)
  have b9 := H4.out.2.2.2.2.1.gb hgb (by simp; omega)
  have bM := H4.out.2.2.2.2.2.1.gb hgb (by simp; omega)
  have bG := H4.out.2.2.2.2.2.2.1.gb hgb (by simp; omega)
  have hMW := H4.out.2.2.2.2.2.2.2.2.2.2.1.grown hgb hw1
  have hbW : Below w.heap.size w W := H4.out.2.2.2.2.2.2.2.2.2.2.2.2.1.grown hgb (Nat.le_trans (Nat.le_refl _) (by omega)) (fun j e => by cases e; omega)
  obtain ⟨pa, pc, hBg, hSl⟩ := hMW.blk
  have HI := Lib.hid (And.intro hp1 (And.intro hw1 (And.intro hgb (And.intro b6 (And.intro b7 (And.intro b8 (And.intro b9 hbW)))))))
  cases z2
  ·have r6 := b6.row; have r7 := b7.row; have r8 := b8.row; have r9 := b9.row
   have l6 := b6.lt; have l7 := b7.lt; have l8 := b8.lt; have l9 := b9.lt
   rw [← b6.rw, ← b7.rw, ← b8.rw, ← b9.rw]
   clear hp1 hw1 hgb b5 b6 b7 b8 b9 bM bG bB hMW hbW hBg hSl
   gi_wp2_with fail
   rw [HI.out.2.2.2.2.2.2.1.rw, HI.out.2.2.2.2.2.1.rw, HI.out.2.2.2.2.1.rw, HI.out.2.2.2.1.rw]
   have hr := hold_rows (c := -1) (p := -1) HI.out.2.2.2.2.2.2.2 HI.out.2.2.2.1 HI.out.2.2.2.2.1 HI.out.2.2.2.2.2.1 HI.out.2.2.2.2.2.2.1
   exact ⟨hr.1, rfl, pre, (z1, false), -1, -1, rfl, HI.out.1, rfl, hr.2⟩
  ·have c5 := b5.cell; have l5 := b5.lt; have cM := bM.cell; have lM := bM.lt; have cG := bG.cell; have lG := bG.lt
   have c12 := bB.cell; have l12 := bB.lt; have cg := hBg.cell; have lg := hBg.lt
   have HAT : Hid (∀ w1, Grows W w1 → Calls Tryz.prog 74 #[.slice pa l.length pc, .int .i64 (a : Int), .int .u64 (uI G2), .agg #[.int .u64 (pl z1 0), .int .u64 (pl z1 1), .int .u64 (pl z1 2), .int .u64 (pl z1 3), .int .u64 (pl z1 4), .int .u64 (pl z1 5), .int .u64 (pl z1 6), .int .u64 (pl z1 7)], .agg #[.int .u64 (pl (sandM l) 0), .int .u64 (pl (sandM l) 1), .int .u64 (pl (sandM l) 2), .int .u64 (pl (sandM l) 3), .int .u64 (pl (sandM l) 4), .int .u64 (pl (sandM l) 5), .int .u64 (pl (sandM l) 6), .int .u64 (pl (sandM l) 7)]] w1 (AtP w1 (atM l a G2 z1))) := Lib.hid (fun w1 hb => at_spec (hSl.mono hb) H2.out.2.2.2.2.2.2.2.1 (HH.out.2.2.1.grow (bel_trans hbW hb)))
   obtain ⟨r, hr⟩ : ∃ r, r = atM l a G2 z1 := ⟨_, rfl⟩
   rw [← hr] at HAT
   have HR := Lib.hid hr
   clear hp1 hw1 hgb b5 b6 b7 b8 b9 bM bG bB hMW hbW hBg hSl hr
   cases r with
   | none =>
    gi_wp2_with fail
    refine wpIn_region_val Grows (fun _ _ _ => True) [Is (.pointer (some ⟨g, 0, none⟩)), Is (.pointer (some ⟨g, 0, none⟩)), Is (.pointer (some ⟨g, 0, none⟩)), Is (.slice pa l.length pc), Is (.pointer (some ⟨w.heap.size, 0, none⟩)), Is (.int .i64 (a : Int)), Is (.int .u64 (uI G2)), Is (.agg #[.int .u64 (pl z1 0), .int .u64 (pl z1 1), .int .u64 (pl z1 2), .int .u64 (pl z1 3), .int .u64 (pl z1 4), .int .u64 (pl z1 5), .int .u64 (pl z1 6), .int .u64 (pl z1 7)]), Is (.pointer (some ⟨g, 0, none⟩)), Is (.pointer (some ⟨g, 0, none⟩)), Is (.pointer (some ⟨g, 1, none⟩)), Is (.agg #[.int .u64 (pl (sandM l) 0), .int .u64 (pl (sandM l) 1), .int .u64 (pl (sandM l) 2), .int .u64 (pl (sandM l) 3), .int .u64 (pl (sandM l) 4), .int .u64 (pl (sandM l) 5), .int .u64 (pl (sandM l) 6), .int .u64 (pl (sandM l) 7)]), Is (.tuple #[.int .i64 0, .int .i64 0, .bool false]), Is (.tuple #[.int .i64 0, .int .i64 0, .bool false]), Is (.int .i64 0), Is (.int .i64 0), Is (.bool false), Is (.int .i64 0), Is (.int .i64 0), Is (.bool false)] (by kernel_rfl) (by kernel_rfl) (by kernel_rfl) rfl Grows.refl (fun _ _ _ => Grows.trans) (stable_mem ⟨fun _ _ _ h _ => h, fun _ _ _ h _ => h, fun _ _ _ h _ => h, fun _ _ _ h _ => h, fun _ _ _ h _ => h, fun _ _ _ h _ => h, fun _ _ _ h _ => h, fun _ _ _ h _ => h, fun _ _ _ h _ => h, fun _ _ _ h _ => h, fun _ _ _ h _ => h, fun _ _ _ h _ => h, fun _ _ _ h _ => h, fun _ _ _ h _ => h, fun _ _ _ h _ => h, fun _ _ _ h _ => h, fun _ _ _ h _ => h, fun _ _ _ h _ => h, fun _ _ _ h _ => h, fun _ _ _ h _ => h, trivial⟩) W (Below.drew (Below.refl _ _)) trivial ?_
    refine val_cons ?_ (fun v0 => ?_)
    ·intro L vs w1 hvs hat hb hI hF; try simp [factsI, Region.binds, Is] at hF
     have hc := (Grows.cells hb).1
     clear hI
     go_simp
     try exact Grows.refl _
    refine val_cons ?_ (fun v1 => ?_)
    ·intro L vs w1 hvs hat hb hI hF; try simp [factsI, Region.binds, Is] at hF
     have hc := (Grows.cells hb).1
     clear hI
     go_simp
     try exact Grows.refl _
    refine val_cons ?_ (fun v2 => ?_)
    ·intro L vs w1 hvs hat hb hI hF; try simp [factsI, Region.binds, Is] at hF
     have hc := (Grows.cells hb).1
     clear hI
     go_simp
     try exact Grows.refl _
    refine val_cons ?_ (fun v3 => ?_)
    ·intro L vs w1 hvs hat hb hI hF; try simp [factsI, Region.binds, Is] at hF
     have hc := (Grows.cells hb).1
     clear hI
     go_simp
     try exact Grows.refl _
    refine val_cons ?_ (fun v4 => ?_)
    ·intro L vs w1 hvs hat hb hI hF; try simp [factsI, Region.binds, Is] at hF
     have hc := (Grows.cells hb).1
     clear hI
     go_simp
     try exact Grows.refl _
    refine val_cons ?_ (fun v5 => ?_)
    ·intro L vs w1 hvs hat hb hI hF; try simp [factsI, Region.binds, Is] at hF
     have hc := (Grows.cells hb).1
     clear hI
     go_simp
     try exact Grows.refl _
    refine val_cons ?_ (fun v6 => ?_)
    ·intro L vs w1 hvs hat hb hI hF; try simp [factsI, Region.binds, Is] at hF
     have hc := (Grows.cells hb).1
     clear hI
     go_simp
     try exact Grows.refl _
    refine val_cons ?_ (fun v7 => ?_)
    ·intro L vs w1 hvs hat hb hI hF; try simp [factsI, Region.binds, Is] at hF
     have hc := (Grows.cells hb).1
     clear hI
     go_simp
     try exact Grows.refl _
    refine val_cons ?_ (fun v8 => ?_)
    ·intro L vs w1 hvs hat hb hI hF; try simp [factsI, Region.binds, Is] at hF
     have hc := (Grows.cells hb).1
     clear hI
     go_simp
     try exact Grows.refl _
    refine val_cons ?_ (fun v9 => ?_)
    ·intro L vs w1 hvs hat hb hI hF; try simp [factsI, Region.binds, Is] at hF
     have hc := (Grows.cells hb).1
     clear hI
     go_simp
     try exact Grows.refl _
    refine val_cons ?_ (fun v10 => ?_)
    ·intro L vs w1 hvs hat hb hI hF; try simp [factsI, Region.binds, Is] at hF
     have hc := (Grows.cells hb).1
     clear hI
     go_simp
     try exact Grows.refl _
    refine val_cons ?_ (fun v11 => ?_)
    ·intro L vs w1 hvs hat hb hI hF; try simp [factsI, Region.binds, Is] at hF
     have hc := (Grows.cells hb).1
     clear hI
     go_simp
     try exact Grows.refl _
    refine val_cons ?_ (fun v12 => ?_)
    ·intro L vs w1 hvs hat hb hI hF; try simp [factsI, Region.binds, Is] at hF
     clear hI
     obtain ⟨rfl, rfl, rfl, rfl, rfl⟩ := hF
     go_simp
     refine (HAT.out w1 hb).mono ?_
     rintro e w' ⟨rfl, hb'⟩
     exact ⟨rfl, hb'⟩
    refine val_cons ?_ (fun v13 => ?_)
    ·intro L vs w1 hvs hat hb hI hF; try simp [factsI, Region.binds, Is] at hF
     have hc := (Grows.cells hb).1
     clear hI
     go_simp
     try exact Grows.refl _
    refine val_cons ?_ (fun v14 => ?_)
    ·intro L vs w1 hvs hat hb hI hF; try simp [factsI, Region.binds, Is] at hF
     have hc := (Grows.cells hb).1
     clear hI
     go_simp
     try exact Grows.refl _
    refine val_cons ?_ (fun v15 => ?_)
    ·intro L vs w1 hvs hat hb hI hF; try simp [factsI, Region.binds, Is] at hF
     have hc := (Grows.cells hb).1
     clear hI
     go_simp
     try exact Grows.refl _
    refine val_cons ?_ (fun v16 => ?_)
    ·intro L vs w1 hvs hat hb hI hF; try simp [factsI, Region.binds, Is] at hF
     have hc := (Grows.cells hb).1
     clear hI
     go_simp
     try exact Grows.refl _
    refine val_cons ?_ (fun v17 => ?_)
    ·intro L vs w1 hvs hat hb hI hF; try simp [factsI, Region.binds, Is] at hF
     have hc := (Grows.cells hb).1
     clear hI
     go_simp
     try exact Grows.refl _
    refine val_cons ?_ (fun v18 => ?_)
    ·intro L vs w1 hvs hat hb hI hF; try simp [factsI, Region.binds, Is] at hF
     have hc := (Grows.cells hb).1
     clear hI
     go_simp
     try exact Grows.refl _
    refine val_cons ?_ (fun v19 => ?_)
    ·intro L vs w1 hvs hat hb hI hF; try simp [factsI, Region.binds, Is] at hF
     have hc := (Grows.cells hb).1
     clear hI
     go_simp
     try exact Grows.refl _
    refine val_nil ?_
    intro vs w1 hvs hb hI hF
    simp [Is, Nat.forall_lt_succ_right] at hF
    simp only [Act.put, List.setIfInBounds_toArray, List.set_cons_succ, List.set_cons_zero, hF]
    clear hF
    gi_wp2_with fail
    refine ⟨KeepsBut.bel hb, ⟨fun y hy => ?_, HI.out.2.1.below hb HI.out.2.1.lt⟩, gb_below HI.out.2.2.1 hb⟩
    rcases List.mem_append.1 hy with h | h
    ·exact HI.out.1 y h
    ·rw [List.mem_singleton.1 h]; exact HR.out.symm
   | some r =>
    obtain ⟨c1, p1⟩ := r
    gi_wp2_with fail
    refine wpIn_region_val Grows (fun _ _ _ => True) [Is (.pointer (some ⟨g, 0, none⟩)), Is (.pointer (some ⟨g, 0, none⟩)), Is (.pointer (some ⟨g, 0, none⟩)), Is (.slice pa l.length pc), Is (.pointer (some ⟨w.heap.size, 0, none⟩)), Is (.int .i64 (a : Int)), Is (.int .u64 (uI G2)), Is (.agg #[.int .u64 (pl z1 0), .int .u64 (pl z1 1), .int .u64 (pl z1 2), .int .u64 (pl z1 3), .int .u64 (pl z1 4), .int .u64 (pl z1 5), .int .u64 (pl z1 6), .int .u64 (pl z1 7)]), Is (.pointer (some ⟨g, 0, none⟩)), Is (.pointer (some ⟨g, 0, none⟩)), Is (.pointer (some ⟨g, 1, none⟩)), Is (.agg #[.int .u64 (pl (sandM l) 0), .int .u64 (pl (sandM l) 1), .int .u64 (pl (sandM l) 2), .int .u64 (pl (sandM l) 3), .int .u64 (pl (sandM l) 4), .int .u64 (pl (sandM l) 5), .int .u64 (pl (sandM l) 6), .int .u64 (pl (sandM l) 7)]), Is (.tuple #[.int .i64 c1, .int .i64 p1, .bool true]), Is (.tuple #[.int .i64 c1, .int .i64 p1, .bool true]), Is (.int .i64 c1), Is (.int .i64 p1), Is (.bool true), Is (.int .i64 c1), Is (.int .i64 p1), Is (.bool true)] (by kernel_rfl) (by kernel_rfl) (by kernel_rfl) rfl Grows.refl (fun _ _ _ => Grows.trans) (stable_mem ⟨fun _ _ _ h _ => h, fun _ _ _ h _ => h, fun _ _ _ h _ => h, fun _ _ _ h _ => h, fun _ _ _ h _ => h, fun _ _ _ h _ => h, fun _ _ _ h _ => h, fun _ _ _ h _ => h, fun _ _ _ h _ => h, fun _ _ _ h _ => h, fun _ _ _ h _ => h, fun _ _ _ h _ => h, fun _ _ _ h _ => h, fun _ _ _ h _ => h, fun _ _ _ h _ => h, fun _ _ _ h _ => h, fun _ _ _ h _ => h, fun _ _ _ h _ => h, fun _ _ _ h _ => h, fun _ _ _ h _ => h, trivial⟩) W (Below.drew (Below.refl _ _)) trivial ?_
    refine val_cons ?_ (fun v0 => ?_)
    ·intro L vs w1 hvs hat hb hI hF; try simp [factsI, Region.binds, Is] at hF
     have hc := (Grows.cells hb).1
     clear hI
     go_simp
     try exact Grows.refl _
    refine val_cons ?_ (fun v1 => ?_)
    ·intro L vs w1 hvs hat hb hI hF; try simp [factsI, Region.binds, Is] at hF
     have hc := (Grows.cells hb).1
     clear hI
     go_simp
     try exact Grows.refl _
    refine val_cons ?_ (fun v2 => ?_)
    ·intro L vs w1 hvs hat hb hI hF; try simp [factsI, Region.binds, Is] at hF
     have hc := (Grows.cells hb).1
     clear hI
     go_simp
     try exact Grows.refl _
    refine val_cons ?_ (fun v3 => ?_)
    ·intro L vs w1 hvs hat hb hI hF; try simp [factsI, Region.binds, Is] at hF
     have hc := (Grows.cells hb).1
     clear hI
     go_simp
     try exact Grows.refl _
    refine val_cons ?_ (fun v4 => ?_)
    ·intro L vs w1 hvs hat hb hI hF; try simp [factsI, Region.binds, Is] at hF
     have hc := (Grows.cells hb).1
     clear hI
     go_simp
     try exact Grows.refl _
    refine val_cons ?_ (fun v5 => ?_)
    ·intro L vs w1 hvs hat hb hI hF; try simp [factsI, Region.binds, Is] at hF
     have hc := (Grows.cells hb).1
     clear hI
     go_simp
     try exact Grows.refl _
    refine val_cons ?_ (fun v6 => ?_)
    ·intro L vs w1 hvs hat hb hI hF; try simp [factsI, Region.binds, Is] at hF
     have hc := (Grows.cells hb).1
     clear hI
     go_simp
     try exact Grows.refl _
    refine val_cons ?_ (fun v7 => ?_)
    ·intro L vs w1 hvs hat hb hI hF; try simp [factsI, Region.binds, Is] at hF
     have hc := (Grows.cells hb).1
     clear hI
     go_simp
     try exact Grows.refl _
    refine val_cons ?_ (fun v8 => ?_)
    ·intro L vs w1 hvs hat hb hI hF; try simp [factsI, Region.binds, Is] at hF
     have hc := (Grows.cells hb).1
     clear hI
     go_simp
     try exact Grows.refl _
    refine val_cons ?_ (fun v9 => ?_)
    ·intro L vs w1 hvs hat hb hI hF; try simp [factsI, Region.binds, Is] at hF
     have hc := (Grows.cells hb).1
     clear hI
     go_simp
     try exact Grows.refl _
    refine val_cons ?_ (fun v10 => ?_)
    ·intro L vs w1 hvs hat hb hI hF; try simp [factsI, Region.binds, Is] at hF
     have hc := (Grows.cells hb).1
     clear hI
     go_simp
     try exact Grows.refl _
    refine val_cons ?_ (fun v11 => ?_)
    ·intro L vs w1 hvs hat hb hI hF; try simp [factsI, Region.binds, Is] at hF
     have hc := (Grows.cells hb).1
     clear hI
     go_simp
     try exact Grows.refl _
    refine val_cons ?_ (fun v12 => ?_)
    ·intro L vs w1 hvs hat hb hI hF; try simp [factsI, Region.binds, Is] at hF
     clear hI
     obtain ⟨rfl, rfl, rfl, rfl, rfl⟩ := hF
     go_simp
     refine (HAT.out w1 hb).mono ?_
     rintro e w' ⟨rfl, hb'⟩
     exact ⟨rfl, hb'⟩
    refine val_cons ?_ (fun v13 => ?_)
    ·intro L vs w1 hvs hat hb hI hF; try simp [factsI, Region.binds, Is] at hF
     have hc := (Grows.cells hb).1
     clear hI
     go_simp
     try exact Grows.refl _
    refine val_cons ?_ (fun v14 => ?_)
    ·intro L vs w1 hvs hat hb hI hF; try simp [factsI, Region.binds, Is] at hF
     have hc := (Grows.cells hb).1
     clear hI
     go_simp
     try exact Grows.refl _
    refine val_cons ?_ (fun v15 => ?_)
    ·intro L vs w1 hvs hat hb hI hF; try simp [factsI, Region.binds, Is] at hF
     have hc := (Grows.cells hb).1
     clear hI
     go_simp
     try exact Grows.refl _
    refine val_cons ?_ (fun v16 => ?_)
    ·intro L vs w1 hvs hat hb hI hF; try simp [factsI, Region.binds, Is] at hF
     have hc := (Grows.cells hb).1
     clear hI
     go_simp
     try exact Grows.refl _
    refine val_cons ?_ (fun v17 => ?_)
    ·intro L vs w1 hvs hat hb hI hF; try simp [factsI, Region.binds, Is] at hF
     have hc := (Grows.cells hb).1
     clear hI
     go_simp
     try exact Grows.refl _
    refine val_cons ?_ (fun v18 => ?_)
    ·intro L vs w1 hvs hat hb hI hF; try simp [factsI, Region.binds, Is] at hF
     have hc := (Grows.cells hb).1
     clear hI
     go_simp
     try exact Grows.refl _
    refine val_cons ?_ (fun v19 => ?_)
    ·intro L vs w1 hvs hat hb hI hF; try simp [factsI, Region.binds, Is] at hF
     have hc := (Grows.cells hb).1
     clear hI
     go_simp
     try exact Grows.refl _
    refine val_nil ?_
    intro vs w1 hvs hb hI hF
    simp [Is, Nat.forall_lt_succ_right] at hF
    simp only [Act.put, List.setIfInBounds_toArray, List.set_cons_succ, List.set_cons_zero, hF]
    clear hF
    have b6 := HI.out.2.2.2.1.grow hb
    have b7 := HI.out.2.2.2.2.1.grow hb
    have b8 := HI.out.2.2.2.2.2.1.grow hb
    have b9 := HI.out.2.2.2.2.2.2.1.grow hb
    have hbw : Below w.heap.size w w1 := bel_trans HI.out.2.2.2.2.2.2.2 hb
    have r6 := b6.row; have r7 := b7.row; have r8 := b8.row; have r9 := b9.row
    have l6 := b6.lt; have l7 := b7.lt; have l8 := b8.lt; have l9 := b9.lt
    have HZ := Lib.hid (And.intro b6 (And.intro b7 (And.intro b8 (And.intro b9 (And.intro hbw hb)))))
    rw [← b6.rw, ← b7.rw, ← b8.rw, ← b9.rw]
    clear b6 b7 b8 b9 hbw hb c5 l5 cM lM cG lG c12 l12 cg lg
    gi_wp2_with fail
    rw [HZ.out.2.2.2.1.rw]
    have hr := hold_rows (c := c1) (p := p1) HZ.out.2.2.2.2.1 HZ.out.1 HZ.out.2.1 HZ.out.2.2.1 HZ.out.2.2.2.1
    exact ⟨(KeepsBut.bel HZ.out.2.2.2.2.2).trans hr.1, rfl, pre, (z1, true), c1, p1, rfl, HI.out.1, HR.out.symm, hr.2⟩
 case done =>
  rintro D xs W hD hS ⟨⟨hp1, hw1⟩, hgb⟩ hK
  have hH4 := H4.out.2.2.2.2.2.2.2.2.2.1
  have b6 := H4.out.2.1.gb hgb (by simp; omega)
  have b7 := H4.out.2.2.1.gb hgb (by simp; omega)
  have b8 := H4.out.2.2.2.1.gb hgb (by simp; omega)
  have b9 := H4.out.2.2.2.2.1.gb hgb (by simp; omega)
  have hbW : Below w.heap.size w W := H4.out.2.2.2.2.2.2.2.2.2.2.2.2.1.grown hgb (by omega) (fun j e => by cases e; omega)
  have hnone : holdsM l G2 (a, b, c) = none := by
   unfold holdsM
   rw [show l.getD (a, b, c).1 0 = s by rw [List.getD_eq_getElem?_getD]; show (l[a]?).getD 0 = s; rw [H4.out.2.2.2.2.2.2.2.2.2.2.2.1]; rfl, ← hS]
   exact List.findSome?_eq_none_iff.2 hp1
  have r6 := b6.row; have r7 := b7.row; have r8 := b8.row; have r9 := b9.row
  have l6 := b6.lt; have l7 := b7.lt; have l8 := b8.lt; have l9 := b9.lt
  have HZ := Lib.hid (And.intro hbW (And.intro hK (And.intro b6 (And.intro b7 (And.intro b8 (And.intro b9 (And.intro hD hnone)))))))
  rw [← b6.rw, ← b7.rw, ← b8.rw, ← b9.rw]
  clear hp1 hw1 hgb b6 b7 b8 b9 hK hD hbW hnone hS
  gi_wp2_with fail
  go_wp2_with fail
  rw [HZ.out.2.2.2.2.2.1.rw, HZ.out.2.2.2.2.1.rw, HZ.out.2.2.2.1.rw, HZ.out.2.2.1.rw]
  refine ⟨by simp, .inl ⟨_, _, rfl, run_takeDeferred HZ.out.2.1, ?_⟩⟩
  have hD := HZ.out.2.2.2.2.2.2.1
  have hgP := grownBy_putObj' W D (.deferred none)
  have c6P := (HZ.out.2.2.1.gb hgP (by simp; omega)).cell
  have c7P := (HZ.out.2.2.2.1.gb hgP (by simp; omega)).cell
  have c8P := (HZ.out.2.2.2.2.1.gb hgP (by simp; omega)).cell
  have c9P := (HZ.out.2.2.2.2.2.1.gb hgP (by simp; omega)).cell
  refine ⟨.tuple #[.int .i64 0, .int .i64 0, .bool false, .int .i64 0], by simp [results, Tryz.results15, go_sem, c6P, c7P, c8P, c9P], HZ.out.1.grown hgP HZ.out.1.size (fun j e => by cases e; omega), ?_⟩
  rw [HZ.out.2.2.2.2.2.2.2]; rfl
 case stop =>
  rintro D c1 pre W hD hS ⟨rfl, pre', y, c2, p2, rfl, ha, hb, hbW, b6, b7, b8, b9⟩ hK
  have hH4 := H4.out.2.2.2.2.2.2.2.2.2.1
  have hsome : holdsM l G2 (a, b, c) = some (c2, p2) := by
   unfold holdsM
   rw [show l.getD (a, b, c).1 0 = s by rw [List.getD_eq_getElem?_getD]; show (l[a]?).getD 0 = s; rw [H4.out.2.2.2.2.2.2.2.2.2.2.2.1]; rfl]
   obtain ⟨suf, hsuf⟩ := hS
   show (wayL b c s).findSome? (holdF l G2 a) = some (c2, p2)
   rw [show wayL b c s = (pre' ++ [y]) ++ suf from hsuf.symm, List.append_assoc, List.findSome?_append, List.findSome?_eq_none_iff.2 ha]
   rw [Option.none_or, List.singleton_append, List.findSome?_cons, hb]
  have HZ := Lib.hid (And.intro hbW (And.intro hK (And.intro b6 (And.intro b7 (And.intro b8 (And.intro b9 (And.intro hD hsome)))))))
  clear ha hb hbW b6 b7 b8 b9 hK hD hsome hS
  gi_wp2_with fail
  refine ⟨by simp, .inl ⟨_, _, rfl, run_takeDeferred HZ.out.2.1, ?_⟩⟩
  have hD := HZ.out.2.2.2.2.2.2.1
  have hgP := grownBy_putObj' W D (.deferred none)
  have c6P := (HZ.out.2.2.1.gb hgP (by simp; omega)).cell
  have c7P := (HZ.out.2.2.2.1.gb hgP (by simp; omega)).cell
  have c8P := (HZ.out.2.2.2.2.1.gb hgP (by simp; omega)).cell
  have c9P := (HZ.out.2.2.2.2.2.1.gb hgP (by simp; omega)).cell
  refine ⟨.tuple #[.int .i64 c2, .int .i64 p2, .bool true, .int .i64 0], by simp [results, Tryz.results15, go_sem, c6P, c7P, c8P, c9P], HZ.out.1.grown hgP HZ.out.1.size (fun j e => by cases e; omega), ?_⟩
  rw [HZ.out.2.2.2.2.2.2.2]; rfl
end Go.Proofs.YtlbhjikkpbknnaaGreatDoor
end
section
namespace Go.Proofs.YtlbhjikkpbknnaaGreatDoor
open Go.RowKit Go.Rel Go.Draw
set_option maxRecDepth 100000
/-! the chapter's examples, answered -/
theorem errA : errM mA = 0 := errM_zero.2 ⟨by decide, exA_good.1⟩
theorem errR : errM mR = 0 := errM_zero.2 ⟨by decide, exA_good.2⟩
theorem movA1 : movedE mA [] (2, 3, 1) = 0 := by decide +kernel
theorem movA6 : movedE mA [] (2, 3, 6) = 0 := by decide +kernel
theorem askA2 : askE mA [] [2] = 0 := by decide +kernel
theorem drawA {w : World} {v : Value} (H : SlS w v mA) (hT : Tab w) : Calls Tryz.prog 39 #[v] w fun e w' => Below w.heap.size w w' ∧ ∃ u, e = .returned (.tuple #[u, .bool true, .int .i64 0]) ∧ SlX w' u [(1, 0, 0), (0, 0, 0), (2, 3, 1)] := by
 refine (Draw_spec H hT).mono ?_
 rintro e w' ⟨hb, u, b, rfl, h1⟩
 rw [errA]
 rcases h1 errA with ⟨L, h2, rfl, h3⟩ | ⟨h2, _⟩
 ·have := Option.some.inj (h2.symm.trans exA_order)
  subst this
  exact ⟨hb, u, rfl, h3.sl⟩
 ·rw [show orderM mA (allU mA.length) = _ from exA_order] at h2; cases h2
theorem wayA {w : World} {v : Value} (H : SlS w v mA) (hT : Tab w) : Calls Tryz.prog 13 #[v, .agg #[.int .i64 2, .int .i64 3, .int .i64 1]] w fun e w' => Below w.heap.size w w' ∧ ∃ u, e = .returned (.tuple #[u, .bool true, .int .i64 0]) ∧ SlI w' u [0, 1] := by
 refine (InWay_spec H hT).mono ?_
 rintro e w' ⟨hb, u, o, rfl, h1, _, _⟩
 obtain ⟨h2, h3⟩ := h1 movA1
 have e1 : (inWayM mA (natMv (2, 3, 1))) = (0b11#64, false) := exA_inWay
 rw [e1] at h2 h3
 have h2 : o = true := h2
 subst h2
 have h4 := h3 rfl
 rw [show listU (0b11#64, false).1 = _ from exA_list.1] at h4
 exact ⟨hb, u, by rw [movA1], h4.sl⟩
theorem holdsA {w : World} {v : Value} (H : SlS w v mA) (hT : Tab w) : Calls Tryz.prog 15 #[v, .slice none 0 0, .agg #[.int .i64 2, .int .i64 3, .int .i64 6]] w fun e w' => Below w.heap.size w w' ∧ e = .returned (.tuple #[.int .i64 324, .int .i64 0, .bool true, .int .i64 0]) := by
 refine (Holds_spec (x := (2, 3, 6)) (G := 0) H sl_nil hT movA6 ((mem_allMv _).2 (by decide)) rfl (by decide)).mono ?_
 rintro e w' ⟨hb, rfl⟩
 refine ⟨hb, ?_⟩
 rw [exA_holds]; rfl
theorem roundsA {w : World} {v : Value} (H : SlS w v mA) (hT : Tab w) : Calls Tryz.prog 45 #[v] w fun e w' => Below w.heap.size w w' ∧ ∃ u, e = .returned (.tuple #[u, .int .i64 0]) ∧ SlLL w' u [[1], [0], [2]] := by
 refine (Rounds_spec H hT).mono ?_
 rintro e w' ⟨hb, u, rfl, h1⟩
 have h2 := h1 errA
 rw [exA_rounds] at h2
 exact ⟨hb, u, by rw [errA], h2.sll⟩
theorem needsA {w : World} {v : Value} (H : SlS w v mA) (hT : Tab w) : Calls Tryz.prog 20 #[v, .int .i64 2] w fun e w' => Below w.heap.size w w' ∧ ∃ u, e = .returned (.tuple #[u, .int .i64 0]) ∧ SlI w' u [0, 1] := by
 refine (Needs_spec H hT).mono ?_
 rintro e w' ⟨hb, u, rfl, h1, _⟩
 have e0 : needE mA 2 = 0 := by
  unfold needE
  rw [if_neg (by rw [askA2]; simp), show pathsM mA (2 : Int).toNat = _ from exA_paths]; rfl
 have h2 := h1 e0
 rw [show listU (needsU mA (2 : Int).toNat) = _ from exA_needs] at h2
 exact ⟨hb, u, by rw [e0], h2.sl⟩
theorem pathsA {w : World} {v : Value} (H : SlS w v mA) (hT : Tab w) : Calls Tryz.prog 22 #[v, .int .i64 2] w fun e w' => Below w.heap.size w w' ∧ ∃ u, e = .returned (.tuple #[u, .int .i64 0]) ∧ SlLL w' u [[0, 1, 2]] := by
 refine (Paths_spec H hT).mono ?_
 rintro e w' ⟨hb, u, rfl, h1, _⟩
 have h2 := h1 askA2
 rw [show pathsM mA (2 : Int).toNat = _ from exA_paths, List.map_cons, exA_list.2, List.map_nil] at h2
 exact ⟨hb, u, by rw [askA2], h2.sll⟩
theorem leastR {w : World} {v : Value} (H : SlS w v mR) (hT : Tab w) : Calls Tryz.prog 33 #[v] w fun e w' => Below w.heap.size w w' ∧ ∃ u, e = .returned (.tuple #[u, .bool true, .int .i64 0]) ∧ SlI w' u [0, 1] := by
 refine (LeastLock_spec H hT).mono ?_
 rintro e w' ⟨hb, u, b, rfl, h1, _⟩
 obtain ⟨h2, h3⟩ := h1 errR
 unfold lockL at h3
 rw [exR_least] at h2 h3
 have h2 : b = true := h2
 subst h2
 have h3 : OwnI w' w.heap.size u (intsL (listU 3#64)) := h3
 rw [show listU 3#64 = _ from exA_list.1] at h3
 exact ⟨hb, u, by rw [errR], h3.sl⟩
theorem drawR {w : World} {v : Value} (H : SlS w v mR) (hT : Tab w) : Calls Tryz.prog 39 #[v] w fun e w' => Below w.heap.size w w' ∧ ∃ u, e = .returned (.tuple #[u, .bool false, .int .i64 0]) := by
 refine (Draw_spec H hT).mono ?_
 rintro e w' ⟨hb, u, b, rfl, h1⟩
 rw [errR]
 rcases h1 errR with ⟨L, h2, _, _⟩ | ⟨_, rfl⟩
 ·rw [show orderM mR (allU mR.length) = _ from exR_order] at h2; cases h2
 ·exact ⟨hb, u, rfl⟩
theorem lastA {w : World} {v : Value} (H : SlS w v mA) (hT : Tab w) : Calls Tryz.prog 49 #[v] w fun e w' => Below w.heap.size w w' ∧ ∃ u, e = .returned (.tuple #[u, .int .i64 0]) ∧ SlI w' u [2] := by
 refine (Last_spec H hT).mono ?_
 rintro e w' ⟨hb, u, rfl, h1, _⟩
 have h2 := h1 errA
 rw [exA_last] at h2
 exact ⟨hb, u, by rw [errA], h2.sl⟩
theorem ordersA {w : World} {v : Value} (H : SlS w v mA) (hT : Tab w) : Calls Tryz.prog 47 #[v] w fun e w' => Below w.heap.size w w' ∧ e = .returned (.tuple #[.int .i64 1, .int .i64 0]) := by
 refine (Orders_spec H hT).mono ?_
 rintro e w' ⟨hb, n, rfl, h1, _⟩
 refine ⟨hb, ?_⟩
 rw [h1 errA, exA_orders, errA]; rfl
end Go.Proofs.YtlbhjikkpbknnaaGreatDoor
end
