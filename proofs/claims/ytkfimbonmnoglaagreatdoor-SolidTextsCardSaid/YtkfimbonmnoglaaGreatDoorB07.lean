import Derived.Test.YtkfimbonmnoglaaGreatDoorB06
/-
  Given contracts of functions of the program, and laws for them, one behind the other.
-/
set_option linter.unusedVariables false
set_option linter.unusedSimpArgs false
set_option linter.unusedSectionVars false
section
namespace Go.Proofs.YtkfimbonmnoglaaGreatDoor
open Go.RowKit Go.Rel Go.Draw Go.Solid
set_option maxRecDepth 100000
theorem and_one (p : U) {n : Nat} (h : n < 64) : (p &&& 1#64 <<< n != 0) = p.getLsbD n := by
 have hb : ∀ i, i < 64 → (p &&& 1#64 <<< n).getLsbD i = (p.getLsbD i && decide (i = n)) := by
  intro i hi
  rw [BitVec.getLsbD_and, BitVec.getLsbD_shiftLeft]
  simp only [hi, decide_true, Bool.true_and]
  congr 1
  rw [show (1#64).getLsbD (i - n) = decide (i - n = 0) by simp]
  by_cases e : i < n
  ·simp [e]; omega
  ·simp only [e, decide_false, Bool.not_false, Bool.true_and]
   congr 1
   exact propext ⟨fun _ => by omega, fun _ => by omega⟩
 cases hp : p.getLsbD n with
 | true =>
  rw [bne_iff_ne]
  intro h0
  have := hb n h
  rw [h0, hp] at this
  simp at this
 | false =>
  have h0 : p &&& 1#64 <<< n = 0 := by
   apply BitVec.eq_of_getLsbD_eq
   intro i hi
   rw [hb i hi]
   by_cases e : i = n
   ·subst e; rw [hp]; simp
   ·simp [e]
  rw [h0]; rfl
theorem has_plane {s : Sol} {c : Cl} (h : inG c = true) : (plv s c.2.2.toNat &&& bitP c != 0) = hasS s c := by
 have hG := inG_iff.1 h
 unfold bitP
 rw [and_one _ (by omega), plv_bit _ _ _ (by omega)]
 unfold hasS bitN
 rw [h, Bool.true_and]
 congr 1
 omega
set_option maxHeartbeats 4000000 in
theorem has_spec (s : Sol) (c : Cl) (w : World) : Calls Tryz.prog 79 #[solV s, clV c] w fun e w' => e = .returned (.bool (hasS s c)) ∧ Below w.heap.size w w' := by
 have HI := Lib.hid (fun W => inside_spec c W)
 have hbw : Below w.heap.size w ((w.alloc (.cells #[.int .u64 (pl s 0), .int .u64 (pl s 1), .int .u64 (pl s 2), .int .u64 (pl s 3), .int .u64 (pl s 4), .int .u64 (pl s 5), .int .u64 (pl s 6), .int .u64 (pl s 7)] 26)).alloc (.cells #[.int .i64 c.1, .int .i64 c.2.1, .int .i64 c.2.2] 60)) := (by repeat (first | with_reducible exact bel_refl _ | with_reducible assumption | with_reducible refine bel_drewN ?_ _ | with_reducible refine bel_drew ?_ | with_reducible refine bel_alloc ?_ _ | with_reducible refine bel_row ?_ ?_ _ | with_reducible refine bel_set ?_ ?_ _ | refine bel_trans ?_ (by with_reducible assumption) | (simp; done) | (simp; omega)))
 have HW := Lib.hid hbw; clear hbw
 cases hc : inG c with
 | false =>
  have e0 : hasS s c = false := hasS_out hc
  rw [e0]
  rw [hc] at HI
  clear hc e0
  go_enter Tryz.func79, Tryz.ntmps79
  go_wp2_with fail
  refine wp_region_grow 12 [Is (clV c), Is (.bool false), Is (.bool false), Is undef, Is undef, Is undef, Is undef, Is undef, Is undef, Is undef, Is undef, Is (.bool false)] (by kernel_rfl) (by kernel_rfl) rfl ⟨fun _ _ _ h _ => h, fun _ _ _ h _ => h, fun _ _ _ h _ => h, fun _ _ _ h _ => h, fun _ _ _ h _ => h, fun _ _ _ h _ => h, fun _ _ _ h _ => h, fun _ _ _ h _ => h, fun _ _ _ h _ => h, fun _ _ _ h _ => h, fun _ _ _ h _ => h, fun _ _ _ h _ => h, trivial⟩ ?_
  simp only [List.take_succ_cons, List.take_zero, List.drop_succ_cons, List.drop_zero]
  refine rel_cons ?_ (fun v0 => ?_)
  ·intro w1 hb hF; have hc := (Grows.cells hb).1; have hf := (Grows.cells hb).2; try simp [facts, Is] at hF
   go_simp
   exact Grows.refl _
  refine rel_cons ?_ (fun v1 => ?_)
  ·intro w1 hb hF; have hc := (Grows.cells hb).1; have hf := (Grows.cells hb).2; try simp [facts, Is] at hF
   go_simp
   refine (HI.out _).mono ?_
   rintro e w2 ⟨rfl, hb2⟩
   exact ⟨rfl, hb2⟩
  refine rel_cons ?_ (fun v2 => ?_)
  ·intro w1 hb hF; have hc := (Grows.cells hb).1; have hf := (Grows.cells hb).2; try simp [facts, Is] at hF
   go_simp
   exact Grows.refl _
  iterate 8 (refine rel_cons ?_ (fun _ => ?_); · intro w1 hb hF; have hc := (Grows.cells hb).1; have hf := (Grows.cells hb).2; (try simp [facts, Is] at hF); go_simp)
  refine rel_cons ?_ (fun v11 => ?_)
  ·intro w1 hb hF; have hc := (Grows.cells hb).1; have hf := (Grows.cells hb).2; try simp [facts, Is] at hF
   go_simp
   exact Grows.refl _
  refine rel_nil ?_
  intro w1 hb hF
  simp [Is, Nat.forall_lt_succ_right] at hF
  simp only [Act.put, List.setIfInBounds_toArray, List.set_cons_succ, List.set_cons_zero, hF]
  clear hF
  have hb0 : Below _ _ w1 := hb
  have hb1 : Below w.heap.size w w1 := bel_trans HW.out hb0
  clear hb
  go_wp2_with fail
  go_ret
  exact ⟨rfl, hb1⟩
 | true =>
  have hG := inG_iff.1 hc
  obtain ⟨Z, hZ⟩ : ∃ Z : Nat, c.2.2 = (Z : Int) := ⟨c.2.2.toNat, by omega⟩
  have hZ8 : Z < 8 := by omega
  rw [hc] at HI
  have e0 : hasS s c = (plv s Z &&& bitP c != 0) := by rw [← has_plane hc, hZ]; rfl
  rw [e0]
  have HB := Lib.hid (fun W => bit_spec hc W)
  have cS : (#[.int .u64 (pl s 0), .int .u64 (pl s 1), .int .u64 (pl s 2), .int .u64 (pl s 3), .int .u64 (pl s 4), .int .u64 (pl s 5), .int .u64 (pl s 6), .int .u64 (pl s 7)] : Array Value)[Z]? = some (.int .u64 (uI (plv s Z))) := by rw [← pl_uI]; exact mixA_get (fun i => pl s i) hZ8
  have ea : bits .and .u64 (uI (plv s Z)) (uI (bitP c)) = uI (plv s Z &&& bitP c) := bits_and_u _ _
  have en : (uI (plv s Z &&& bitP c) != 0) = (plv s Z &&& bitP c != 0) := bne_u0 _
  clear hc e0 hG
  go_enter Tryz.func79, Tryz.ntmps79
  go_wp2_with fail
  refine wp_region_grow 12 [Is (clV c), Is (.bool true), Is (.bool true), Is (.pointer (some ⟨w.heap.size + 1, 2, none⟩)), Is (.int .i64 (Z : Int)), Is (.pointer (some ⟨w.heap.size, Z, none⟩)), Is (.int .u64 (uI (plv s Z))), Is (clV c), Is (.int .u64 (uI (bitP c))), Is (.int .u64 (uI (plv s Z &&& bitP c))), Is (.bool (plv s Z &&& bitP c != 0)), Is (.bool (plv s Z &&& bitP c != 0))] (by kernel_rfl) (by kernel_rfl) rfl ⟨fun _ _ _ h _ => h, fun _ _ _ h _ => h, fun _ _ _ h _ => h, fun _ _ _ h _ => h, fun _ _ _ h _ => h, fun _ _ _ h _ => h, fun _ _ _ h _ => h, fun _ _ _ h _ => h, fun _ _ _ h _ => h, fun _ _ _ h _ => h, fun _ _ _ h _ => h, fun _ _ _ h _ => h, trivial⟩ ?_
  simp only [List.take_succ_cons, List.take_zero, List.drop_succ_cons, List.drop_zero]
  refine rel_cons ?_ (fun v0 => ?_)
  ·intro w1 hb hF; have hc := (Grows.cells hb).1; have hf := (Grows.cells hb).2; try simp [facts, Is] at hF
   go_simp
   exact Grows.refl _
  refine rel_cons ?_ (fun v1 => ?_)
  ·intro w1 hb hF; have hc := (Grows.cells hb).1; have hf := (Grows.cells hb).2; try simp [facts, Is] at hF
   go_simp
   refine (HI.out _).mono ?_
   rintro e w2 ⟨rfl, hb2⟩
   exact ⟨rfl, hb2⟩
  iterate 3 (refine rel_cons ?_ (fun _ => ?_); · intro w1 hb hF; have hc := (Grows.cells hb).1; have hf := (Grows.cells hb).2; (try simp [facts, Is] at hF); go_simp; exact Grows.refl _)
  refine rel_cons ?_ (fun v5 => ?_)
  ·intro w1 hb hF; have hc := (Grows.cells hb).1; have hf := (Grows.cells hb).2; try simp [facts, Is] at hF
   have hz := hZ8
   go_simp
   have hz9 : (Z : Int) < 8 := by omega
   rw [if_pos hz9]
   exact ⟨Grows.refl _, rfl⟩
  refine rel_cons ?_ (fun v6 => ?_)
  ·intro w1 hb hF; have hc := (Grows.cells hb).1; have hf := (Grows.cells hb).2; try simp [facts, Is] at hF
   have hz := hZ8
   go_simp
   exact ⟨Grows.refl _, by rw [← pl_uI]; exact getS s hz _⟩
  refine rel_cons ?_ (fun v7 => ?_)
  ·intro w1 hb hF; have hc := (Grows.cells hb).1; have hf := (Grows.cells hb).2; try simp [facts, Is] at hF
   go_simp
   exact Grows.refl _
  refine rel_cons ?_ (fun v8 => ?_)
  ·intro w1 hb hF; have hc := (Grows.cells hb).1; have hf := (Grows.cells hb).2; try simp [facts, Is] at hF
   go_simp
   refine (HB.out _).mono ?_
   rintro e w2 ⟨rfl, hb2⟩
   exact ⟨rfl, hb2⟩
  iterate 3 (refine rel_cons ?_ (fun _ => ?_); · intro w1 hb hF; have hc := (Grows.cells hb).1; have hf := (Grows.cells hb).2; (try simp [facts, Is] at hF); go_simp; exact Grows.refl _)
  refine rel_nil ?_
  intro w1 hb hF
  simp [Is, Nat.forall_lt_succ_right] at hF
  simp only [Act.put, List.setIfInBounds_toArray, List.set_cons_succ, List.set_cons_zero, hF]
  clear hF
  have hb0 : Below _ _ w1 := hb
  have hW := HW.out
  rw [hZ] at hW
  have hb1 : Below w.heap.size w w1 := bel_trans hW hb0
  clear hb
  go_wp2_with fail
  go_ret
  exact ⟨rfl, hb1⟩
end Go.Proofs.YtkfimbonmnoglaaGreatDoor
end
section
namespace Go.Proofs.YtkfimbonmnoglaaGreatDoor
open Go.RowKit Go.Rel Go.Draw Go.Solid
set_option maxRecDepth 100000
theorem plv_cell {z j k : Nat} (hz : z < 8) (hj : j < 64) (hk : k < 8) : plv (Go.Solid.one (64 * z + j)) k = if k = z then bit j else 0#64 := by
 apply BitVec.eq_of_getLsbD_eq
 intro i hi
 unfold plv
 rw [BitVec.getLsbD_extractLsb', Go.Solid.one_bit (by omega)]
 by_cases e : k = z
 ·subst e
  rw [if_pos rfl, bit_bit _ _ hj]
  simp [hi]
 ·rw [if_neg e]
  simp [show ¬ (64 * k + i = 64 * z + j) by omega]
theorem cellZ {c : Cl} (h : inG c = true) : ∃ Z j : Nat, c.2.2 = (Z : Int) ∧ Z < 8 ∧ j < 64 ∧ bitN c = 64 * Z + j ∧ bitP c = bit j := by
 have hG := inG_iff.1 h
 refine ⟨c.2.2.toNat, (8 * c.2.1 + c.1).toNat, by omega, by omega, by omega, ?_, rfl⟩
 unfold bitN
 omega
theorem or_cell (T : Sol) {c : Cl} (h : inG c = true) {Z : Nat} (hZ : c.2.2 = (Z : Int)) : bits .or .u64 (pl T Z) (uI (bitP c)) = pl (T ||| Go.Solid.one (bitN c)) Z := by
 obtain ⟨Z', j, h1, h2, h3, h4, h5⟩ := cellZ h
 obtain rfl : Z = Z' := by omega
 rw [pl_uI, pl_uI, bits_or_u, plv_or, h4, h5, plv_cell h2 h3 h2, if_pos rfl]
theorem cell_set (T : Sol) {c : Cl} (h : inG c = true) {Z : Nat} (hZ : c.2.2 = (Z : Int)) : (mixA fun i => pl T i).setIfInBounds Z (.int .u64 (pl (T ||| Go.Solid.one (bitN c)) Z)) = mixA fun i => pl (T ||| Go.Solid.one (bitN c)) i := by
 obtain ⟨Z', j, h1, h2, h3, h4, h5⟩ := cellZ h
 obtain rfl : Z = Z' := by omega
 rw [mixA_set _ h2]
 refine mixA_eq fun i hi => ?_
 by_cases e : i = Z
 ·subst e; simp
 ·simp only [e, if_false]
  rw [pl_uI, pl_uI, plv_or, h4, plv_cell h2 h3 hi, if_neg e]
  congr 1
  simp
theorem getZ (T : Sol) {Z : Nat} (hZ : Z < 8) : (#[.int .u64 (pl T 0), .int .u64 (pl T 1), .int .u64 (pl T 2), .int .u64 (pl T 3), .int .u64 (pl T 4), .int .u64 (pl T 5), .int .u64 (pl T 6), .int .u64 (pl T 7)] : Array Value)[Z]? = some (.int .u64 (pl T Z)) := mixA_get (fun i => pl T i) hZ
end Go.Proofs.YtkfimbonmnoglaaGreatDoor
end
section
namespace Go.Proofs.YtkfimbonmnoglaaGreatDoor
open Go.RowKit Go.Rel Go.Draw Go.Solid
set_option maxRecDepth 100000
attribute [local go_sem] Oper.semAt_some
def orC (f : Cl → Cl) (l : List Cl) : Sol := orL (l.map fun c => bitN (f c))
theorem orC_snoc (f : Cl → Cl) (l : List Cl) (c : Cl) : orC f (l ++ [c]) = orC f l ||| Go.Solid.one (bitN (f c)) := by
 unfold orC orL
 rw [List.map_append]
 exact orF_snoc _ _ _
theorem orC_all (f : Cl → Cl) (s : Sol) : orC f (cellsS s) = imgS f s := rfl
def I8s (N0 : Nat) (b b' : Sol) (a : Bool) (W : World) : Prop := (a = false → Blk W N0 #[.int .u64 (pl b 0), .int .u64 (pl b 1), .int .u64 (pl b 2), .int .u64 (pl b 3), .int .u64 (pl b 4), .int .u64 (pl b 5), .int .u64 (pl b 6), .int .u64 (pl b 7)] 26) ∧ (a = true → Blk W N0 #[.int .u64 (pl b' 0), .int .u64 (pl b' 1), .int .u64 (pl b' 2), .int .u64 (pl b' 3), .int .u64 (pl b' 4), .int .u64 (pl b' 5), .int .u64 (pl b' 6), .int .u64 (pl b' 7)] 26)
theorem I8s.bel {N0 : Nat} {b b' : Sol} {a : Bool} {W W' : World} (h : I8s N0 b b' a W) (hb : Below W.heap.size W W') : I8s N0 b b' a W' := ⟨fun e => (h.1 e).grow hb, fun e => (h.2 e).grow hb⟩
def GbN (N0 : Nat) (A B : World) : Prop := A.grownBy B (some N0)
theorem GbN.trans (N0 : Nat) (A B C : World) (h : GbN N0 A B) (k : GbN N0 B C) : GbN N0 A C := World.grownBy.trans h k
def orG (f : Cl → Cl) (l : List GCl) : Sol := orC f (l.map fun y : GCl => y.1)
theorem orG_snoc (f : Cl → Cl) (l : List GCl) (c : GCl) : orG f (l ++ [c]) = orG f l ||| Go.Solid.one (bitN (f c.1)) := by
 unfold orG
 rw [List.map_append]
 exact orC_snoc _ _ _
/-- what stays when only blocks above a world turn -/
def KeptAbove (B : Nat) (Inv : World → Prop) : Prop := ∀ W W' r, Inv W → W.grownBy W' r → (∀ k, r = some k → B ≤ k) → Inv W'
theorem KeptAbove.bel {B : Nat} {Inv : World → Prop} (h : KeptAbove B Inv) {W W' : World} (hi : Inv W) (hb : Below W.heap.size W W') : Inv W' :=
 h W W' none hi (gb_below (gb_refl _ _) hb) (fun k e => by cases e)
/-- the world of mapped, after some cells -/
def MapI (w : World) (s T : Sol) (fv : Value) (Inv : World → Prop) (W : World) : Prop :=
 Below w.heap.size w W ∧ Inv W ∧ Blk W (w.heap.size) #[.int .u64 (pl s 0), .int .u64 (pl s 1), .int .u64 (pl s 2), .int .u64 (pl s 3), .int .u64 (pl s 4), .int .u64 (pl s 5), .int .u64 (pl s 6), .int .u64 (pl s 7)] 26 ∧ Blk W (w.heap.size + 1) #[fv] 82 ∧ Blk W (w.heap.size + 1 + 1) #[.int .u64 0, .int .u64 0, .int .u64 0, .int .u64 0, .int .u64 0, .int .u64 0, .int .u64 0, .int .u64 0] 26 ∧ Blk W (w.heap.size + 1 + 1 + 1) #[.bool false] 4 ∧ Blk W (w.heap.size + 1 + 1 + 1 + 1) #[.int .u64 (pl T 0), .int .u64 (pl T 1), .int .u64 (pl T 2), .int .u64 (pl T 3), .int .u64 (pl T 4), .int .u64 (pl T 5), .int .u64 (pl T 6), .int .u64 (pl T 7)] 26
theorem MapI.kept {w : World} {s T : Sol} {fv : Value} {Inv : World → Prop} {W W' : World} {r : Option Nat} (h : MapI w s T fv Inv W) (hI : KeptAbove w.heap.size Inv) (hg : W.grownBy W' r) (hr : ∀ k, r = some k → w.heap.size + 1 + 1 + 1 + 1 < k) : MapI w s T fv Inv W' := by
 obtain ⟨h1, h2, h3, h4, h5, h6, h7⟩ := h
 refine ⟨h1.grown hg h1.size (fun k e => by have := hr k e; omega), hI _ _ _ h2 hg (fun k e => by have := hr k e; omega), h3.gb hg ?_, h4.gb hg ?_, h5.gb hg ?_, h6.gb hg ?_, h7.gb hg ?_⟩
 all_goals (intro e; have := hr _ e.symm; omega)
theorem MapI.bel {w : World} {s T : Sol} {fv : Value} {Inv : World → Prop} {W W' : World} (h : MapI w s T fv Inv W) (hI : KeptAbove w.heap.size Inv) (hb : Below W.heap.size W W') : MapI w s T fv Inv W' :=
 h.kept hI (gb_below (gb_refl _ none) hb) (fun k e => by cases e)
def MapR (w : World) (T : Sol) (b : Bool) (W : World) : Prop := Below w.heap.size w W ∧ Blk W (w.heap.size + 1 + 1) #[.int .u64 (pl T 0), .int .u64 (pl T 1), .int .u64 (pl T 2), .int .u64 (pl T 3), .int .u64 (pl T 4), .int .u64 (pl T 5), .int .u64 (pl T 6), .int .u64 (pl T 7)] 26 ∧ Blk W (w.heap.size + 1 + 1 + 1) #[.bool b] 4
theorem MapR.kept {w : World} {T : Sol} {b : Bool} {W W' : World} {r : Option Nat} (h : MapR w T b W) (hg : W.grownBy W' r) (hr : ∀ k, r = some k → w.heap.size + 1 + 1 + 1 + 1 < k) : MapR w T b W' := by
 obtain ⟨h1, h5, h6⟩ := h
 refine ⟨h1.grown hg h1.size (fun k e => by have := hr k e; omega), h5.gb hg ?_, h6.gb hg ?_⟩
 all_goals (intro e; have := hr _ e.symm; omega)
set_option maxHeartbeats 4000000 in
theorem mapped_spec {w : World} (s : Sol) (f : Cl → Cl) {fid : Nat} {lb : Array Value} {Inv : World → Prop} (hInv : KeptAbove w.heap.size Inv) (h0 : Inv w) (hT : Tab w)
  (HEN : ∀ args W, (callFunc fid args).run Tryz.prog W = .ok (.enter fid args) W)
  (hcl : ∀ c W, Inv W → inG c = true → Calls Tryz.prog fid (#[clV c] ++ lb) W fun e w' => e = .returned (clV (f c)) ∧ Below W.heap.size W w') :
  Calls Tryz.prog 128 #[solV s, .func (.func fid) #[] lb] w fun e w' => e = .returned (.tuple #[solV (if stays f s then imgS f s else 0), .bool (stays f s)]) ∧ Below w.heap.size w w' := by
 obtain ⟨RV, hRV⟩ : ∃ RV : Value, RV = .tuple #[solV (if stays f s then imgS f s else 0), .bool (stays f s)] := ⟨_, rfl⟩
 rw [← hRV]
 have HRV := Lib.hid hRV
 clear hRV
 have HH := Lib.hid (And.intro hInv (And.intro h0 (And.intro hT (And.intro HEN hcl))))
 clear hInv h0 hT HEN hcl
 refine (callsIn_wide (n := 9)).1 ?_
 refine callsIn_of_wp_marks Tryz.func128 rfl trivial ?_ rfl
 simp only [Tryz.ntmps128, List.size_toArray, List.length_cons, List.length_nil, Nat.reduceAdd, Nat.reduceSub, Array.replicate_succ, Array.replicate_zero, List.push_toArray, List.append_toArray, List.nil_append, List.cons_append]
 refine wpIn_wide.2 ?_
 go_wp2_with fail
 refine (cells_spec _ s).mono ?_
 rintro e w3 ⟨rfl, hw3⟩
 simp only [World.size_alloc] at hw3 ⊢
 have b5 : Blk w3 (w.heap.size + 1 + 1 + 1 + 1 + 1) #[.int .u64 (pl s 0), .int .u64 (pl s 1), .int .u64 (pl s 2), .int .u64 (pl s 3), .int .u64 (pl s 4), .int .u64 (pl s 5), .int .u64 (pl s 6), .int .u64 (pl s 7)] 26 := by subst hw3; exact Blk.at _ _ (by simp)
 have hb3 : Below w.heap.size w w3 := by subst hw3; exact (by repeat (first | with_reducible exact bel_refl _ | with_reducible assumption | with_reducible refine bel_drewN ?_ _ | with_reducible refine bel_drew ?_ | with_reducible refine bel_alloc ?_ _ | with_reducible refine bel_row ?_ ?_ _ | with_reducible refine bel_set ?_ ?_ _ | refine bel_trans ?_ (by with_reducible assumption) | (simp; done) | (simp; omega)))
 have hsz3 : w3.heap.size = w.heap.size + 1 + 1 + 1 + 1 + 1 + 1 := by subst hw3; simp
 have hM : MapI w s 0 (.func (.func fid) #[] lb) Inv w3 := by
  refine ⟨hb3, HH.out.1 _ _ none HH.out.2.1 ⟨hb3.os, hb3.tape, hb3.output, hb3.size, fun k hk _ => hb3.block k hk⟩ (fun k e => by cases e), ?_, ?_, ?_, ?_, ?_⟩
  all_goals (try simp only [pl_zero])
  all_goals (subst hw3; exact (by repeat (first | with_reducible assumption | (refine Blk.at _ _ ?_; (simp; done)) | with_reducible refine Blk.alloc ?_ _ | with_reducible refine Blk.drew ?_ | with_reducible refine Blk.rowS ?_ _ | with_reducible refine Blk.rowO ?_ _ (by simp))))
 have H3 := Lib.hid (And.intro b5 (And.intro hsz3 hM))
 have hT3 := HH.out.2.2.1.grow hb3
 have HT3 := Lib.hid hT3
 clear hw3 b5 hb3 hsz3 hM hT3
 go_wp2_with fail
 refine (wpIn_wide (n := 9)).1 ?_
 refine wpIn_rangeFunc_C (α := GCl) rfl (by omega) (gf := 147) (lb := #[.pointer (some ⟨w.heap.size + 1 + 1 + 1 + 1 + 1, 0, none⟩)]) rfl trivial (enters_of Tryz.func147 (by kernel_rfl) rfl) (wr := fun k => k = w.heap.size + 1 + 1 ∨ k = w.heap.size + 1 + 1 + 1 ∨ k = w.heap.size + 1 + 1 + 1 + 1) 0
  (fun W hbW _ => cells_seq (n := 9 - 1) (by omega) s (H3.out.1.grow hbW) (HT3.out.grow hbW) (by omega)) (fun r h1 h2 => by have := H3.out.2.1; omega) (fun _ => rfl)
  (fun (pre : List GCl) W => (∀ c ∈ pre, inG (f c.1) = true) ∧ MapI w s (orG f pre) (.func (.func fid) #[] lb) Inv W) (fun c (pre : List GCl) W => c = .ret ∧ (∃ y ∈ pre, inG (f y.1) = false) ∧ MapR w 0 false W)
  (fun pre W W' r h hg hr => ⟨h.1, h.2.kept HH.out.1 hg (fun k e => by have := hr k e; have := H3.out.2.1; omega)⟩) (fun c pre W W' r h hg hr => ⟨h.1, h.2.1, h.2.2.kept hg (fun k e => by have := hr k e; have := H3.out.2.1; omega)⟩) ⟨by simp, H3.out.2.2⟩
  (fun z a' W => ∃ B8, w3.heap.size + 1 + 1 + 0 ≤ B8 ∧ Blk W B8 #[.int .i64 z.1.1, .int .i64 z.1.2.1, .int .i64 z.1.2.2] 60 ∧ a' = { tmps := #[solV s, .func (.func fid) #[] lb, .pointer (some ⟨w.heap.size, 0, none⟩), .pointer (some ⟨w.heap.size + 1, 0, none⟩), .pointer (some ⟨w.heap.size + 1 + 1, 0, none⟩), .pointer (some ⟨w.heap.size + 1 + 1 + 1, 0, none⟩), .pointer (some ⟨w.heap.size + 1 + 1 + 1 + 1, 0, none⟩), .pointer (some ⟨B8, 0, none⟩), undef, solV s, .func (.func 147) #[] #[.pointer (some ⟨w.heap.size + 1 + 1 + 1 + 1 + 1, 0, none⟩)], clV z.1, undef, undef, undef, undef, undef, undef, undef, undef, undef, undef, undef, undef, undef, undef, undef, undef], defers := [] })
  (fun z a' _ X Y row hs hg hr => by obtain ⟨B8, e1, e2, e3⟩ := hs; exact ⟨B8, e1, e2.gb hg (fun e => by have := hr _ e.symm; omega), e3⟩)
  ?assign ?body ?done ?stop
 case assign =>
  rintro lp pre z W K ⟨hp1, hM⟩ hsz hK
  have HI := Lib.hid (And.intro hp1 hM); clear hp1 hM
  have hK' := fun a' W' => hK a' W'
  clear hK
  gi_wp2_with fail
  exact hK' _ _ (KeepsBut.alloc _ _ _) ⟨HI.out.1, HI.out.2.kept HH.out.1 (World.grownBy_alloc _ _ none) (fun k e => by cases e)⟩ ⟨W.heap.size, hsz, Blk.new _ _ _, rfl⟩
 case body =>
  rintro lp pre z a' W hsz ⟨hp1, hM⟩ ⟨B8, hB8, bB, rfl⟩ hlen
  have HC := Lib.hid (HH.out.2.2.2.2 z.1 W hM.2.1 z.2)
  have HEN := HH.out.2.2.2.1
  have hH3 := H3.out.2.1
  have c1 := hM.2.2.2.1.cell; have l1 := hM.2.2.2.1.lt; have c8 := bB.cell; have l8 := bB.lt
  have HI := Lib.hid (And.intro hp1 (And.intro hM bB))
  clear hp1 hM bB
  gi_wp2_with fail
  refine ⟨trivial, (CallsIn.inRound lp (callsIn_wide.2 HC.out)).mono ?_⟩
  rintro e w4 ⟨rfl, hb4⟩
  have HM4 := Lib.hid (And.intro (HI.out.2.1.bel HH.out.1 hb4) hb4)
  obtain ⟨d, hd⟩ : ∃ d, d = f z.1 := ⟨_, rfl⟩
  rw [← hd]
  have HD := Lib.hid hd
  clear hd c1 l1 c8 l8 hb4 HC HEN
  have HIN := Lib.hid (fun W => inside_spec d W)
  cases hg : inG d with
  | false =>
   rw [hg] at HIN
   gi_wp2_with fail
   refine ⟨trivial, (CallsIn.inRound lp (callsIn_wide.2 (HIN.out _))).mono ?_⟩
   rintro e w5 ⟨rfl, hb5⟩
   have hb45 : Below w4.heap.size w4 w5 := bel_trans (by repeat (first | with_reducible exact bel_refl _ | with_reducible assumption | with_reducible refine bel_drewN ?_ _ | with_reducible refine bel_drew ?_ | with_reducible refine bel_alloc ?_ _ | with_reducible refine bel_row ?_ ?_ _ | with_reducible refine bel_set ?_ ?_ _ | refine bel_trans ?_ (by with_reducible assumption) | (simp; done) | (simp; omega))) hb5
   have hM5 := HM4.out.1.bel HH.out.1 hb45
   have hkW : KeepsBut (fun k => k = w.heap.size + 1 + 1 ∨ k = w.heap.size + 1 + 1 + 1 ∨ k = w.heap.size + 1 + 1 + 1 + 1) W w5 := KeepsBut.trans (.bel HM4.out.2) (.bel hb45)
   have m2 := hM5.2.2.2.2.1; have m3 := hM5.2.2.2.2.2.1
   have r2 := m2.row; have r3 := m3.row; have l2 := m2.lt; have l3 := m3.lt
   have HZ := Lib.hid (And.intro hM5.1 (And.intro m2 (And.intro m3 hkW)))
   rw [← m2.rw, ← m3.rw]
   clear hM5 hb45 hb5 m2 m3 hkW
   gi_wp2_with fail
   have HR : ∀ c2 c3, Blk ((w5.setRow (w.heap.size + 1 + 1 + 1) c3).setRow (w.heap.size + 1 + 1) c2) (w.heap.size + 1 + 1) c2 26 ∧ Blk ((w5.setRow (w.heap.size + 1 + 1 + 1) c3).setRow (w.heap.size + 1 + 1) c2) (w.heap.size + 1 + 1 + 1) c3 4 ∧ KeepsBut (fun k => k = w.heap.size + 1 + 1 ∨ k = w.heap.size + 1 + 1 + 1 ∨ k = w.heap.size + 1 + 1 + 1 + 1) w5 ((w5.setRow (w.heap.size + 1 + 1 + 1) c3).setRow (w.heap.size + 1 + 1) c2) ∧ Below w.heap.size w ((w5.setRow (w.heap.size + 1 + 1 + 1) c3).setRow (w.heap.size + 1 + 1) c2) := fun c2 c3 =>
    ⟨(HZ.out.2.1.rowO c3 (by omega)).rowS c2, (HZ.out.2.2.1.rowS c3).rowO c2 (by omega), KeepsBut.trans (.gb (gb_row (gb_refl w5 (some (w.heap.size + 1 + 1 + 1))) c3) (fun r e => by cases e; exact .inr (.inl rfl))) (.gb (gb_row (gb_refl _ (some (w.heap.size + 1 + 1))) c2) (fun r e => by cases e; exact .inl rfl)),
     bel_row (bel_row HZ.out.1 (by omega) _) (by omega) _⟩
   have HR2 := HR #[.int .u64 (pl 0 0), .int .u64 (pl 0 1), .int .u64 (pl 0 2), .int .u64 (pl 0 3), .int .u64 (pl 0 4), .int .u64 (pl 0 5), .int .u64 (pl 0 6), .int .u64 (pl 0 7)] #[.bool false]
   simp only [pl_zero] at HR2
   refine ⟨HZ.out.2.2.2.trans HR2.2.2.1, rfl, ⟨z, by simp, by rw [← HD.out, hg]⟩, HR2.2.2.2, ?_, HR2.2.1⟩
   simp only [pl_zero]
   exact HR2.1
  | true =>
   rw [hg] at HIN
   have HBI := Lib.hid (fun W => bit_spec hg W)
   obtain ⟨Z, hZ, hZ8⟩ : ∃ Z : Nat, d.2.2 = (Z : Int) ∧ Z < 8 := by
    obtain ⟨Z, j, hZ, hZ8, _, _, _⟩ := cellZ hg
    exact ⟨Z, hZ, hZ8⟩
   obtain ⟨x, y, z3⟩ := d
   simp only at hZ
   subst hZ
   obtain ⟨T, hT⟩ : ∃ T, T = orG f pre := ⟨_, rfl⟩
   obtain ⟨T2, hT2⟩ : ∃ T2, T2 = T ||| Go.Solid.one (bitN (x, y, (Z : Int))) := ⟨_, rfl⟩
   have eo : bits .or .u64 (pl T Z) (uI (bitP (x, y, (Z : Int)))) = pl T2 Z := by rw [hT2]; exact or_cell T hg rfl
   have HT := Lib.hid (And.intro hT hT2); clear hT hT2
   gi_wp2_with fail
   refine ⟨trivial, (CallsIn.inRound lp (callsIn_wide.2 (HIN.out _))).mono ?_⟩
   rintro e w5 ⟨rfl, hb5⟩
   have hb45 : Below w4.heap.size w4 w5 := bel_trans (by repeat (first | with_reducible exact bel_refl _ | with_reducible assumption | with_reducible refine bel_drewN ?_ _ | with_reducible refine bel_drew ?_ | with_reducible refine bel_alloc ?_ _ | with_reducible refine bel_row ?_ ?_ _ | with_reducible refine bel_set ?_ ?_ _ | refine bel_trans ?_ (by with_reducible assumption) | (simp; done) | (simp; omega))) hb5
   have hM5 := HM4.out.1.bel HH.out.1 hb45
   have hkW : KeepsBut (fun k => k = w.heap.size + 1 + 1 ∨ k = w.heap.size + 1 + 1 + 1 ∨ k = w.heap.size + 1 + 1 + 1 + 1) W w5 := KeepsBut.trans (.bel HM4.out.2) (.bel hb45)
   have bD : Blk w5 w4.heap.size #[.int .i64 x, .int .i64 y, .int .i64 (Z : Int)] 60 := (Blk.new w4 _ _).grow hb5
   rw [← HT.out.1] at hM5
   have m4 := hM5.2.2.2.2.2.2
   have cD := bD.cell; have lD := bD.lt; have HBD := Lib.hid bD
   have HZ := Lib.hid (And.intro hM5 (And.intro hkW m4))
   have lw4 : w.heap.size + 1 + 1 + 1 + 1 + 1 < w4.heap.size := by have := HM4.out.2.size; omega
   clear hM5 hb45 hb5 m4 hkW bD
   gi_wp2_with fail
   clear cD lD
   refine wpIn_region_val (GbN (w.heap.size + 1 + 1 + 1 + 1)) (fun L vs W => I8s (w.heap.size + 1 + 1 + 1 + 1) T T2 (L 8) W) [Is (.pointer (some ⟨w4.heap.size, 2, none⟩)), Is (.int .i64 (Z : Int)), Is (.pointer (some ⟨w.heap.size + 1 + 1 + 1 + 1, Z, none⟩)), Is (.int .u64 (pl T Z)), Is (.agg #[.int .i64 x, .int .i64 y, .int .i64 (Z : Int)]), Is (.int .u64 (uI (bitP (x, y, (Z : Int))))), Is (.int .u64 (pl T2 Z)), Is (.pointer (some ⟨w.heap.size + 1 + 1 + 1 + 1, Z, none⟩)), AnyV] (by kernel_rfl) (by kernel_rfl) (by kernel_rfl) rfl (fun W => gb_refl W _) (GbN.trans (w.heap.size + 1 + 1 + 1 + 1)) (stable_mem ⟨fun _ _ _ h _ => h, fun _ _ _ h _ => h, fun _ _ _ h _ => h, fun _ _ _ h _ => h, fun _ _ _ h _ => h, fun _ _ _ h _ => h, fun _ _ _ h _ => h, fun _ _ _ h _ => h, fun _ _ _ h _ => h, trivial⟩) w5 (gb_drew (gb_refl _ _)) (⟨fun _ => HZ.out.2.2, fun e => (by cases e)⟩) ?_
   refine val_cons ?_ (fun v0 => ?_)
   ·intro L vs w1 hvs hat hb hI hF; try simp [factsI, Region.binds, Is] at hF
    have HI2 := Lib.hid hI; clear hI
    go_simp
    first | exact ⟨gb_refl _ _, HI2.out⟩ | exact HI2.out | exact ⟨HI2.out, trivial⟩
   refine val_cons ?_ (fun v1 => ?_)
   ·intro L vs w1 hvs hat hb hI hF; try simp [factsI, Region.binds, Is] at hF
    have cD := (HBD.out.gb hb (by simp; omega)).cell; have lD := (HBD.out.gb hb (by simp; omega)).lt
    have HI2 := Lib.hid hI; clear hI
    go_simp
    first | exact ⟨gb_refl _ _, HI2.out⟩ | exact HI2.out | exact ⟨HI2.out, trivial⟩
   refine val_cons ?_ (fun v2 => ?_)
   ·intro L vs w1 hvs hat hb hI hF; try simp [factsI, Region.binds, Is] at hF
    have hz9 : (Z : Int) < 8 := by omega
    have HI2 := Lib.hid hI; clear hI
    go_simp
    try rw [if_pos hz9]
    first | exact ⟨gb_refl _ _, HI2.out⟩ | exact HI2.out | exact ⟨HI2.out, trivial⟩ | exact ⟨gb_refl _ _, HI2.out, rfl⟩
   refine val_cons ?_ (fun v3 => ?_)
   ·intro L vs w1 hvs hat hb hI hF; try simp [factsI, Region.binds, Is] at hF
    have h8 := hat.later 9 8 (by kernel_rfl)
    have c6 := ((hI.1 h8).cell Z).trans (getZ T hZ8)
    have l6 := (hI.1 h8).lt
    clear h8
    have HI2 := Lib.hid hI; clear hI
    go_simp
    first | exact ⟨gb_refl _ _, HI2.out⟩ | exact HI2.out | exact ⟨HI2.out, trivial⟩
   refine val_cons ?_ (fun v4 => ?_)
   ·intro L vs w1 hvs hat hb hI hF; try simp [factsI, Region.binds, Is] at hF
    have cD := (HBD.out.gb hb (by simp; omega)).cell; have lD := (HBD.out.gb hb (by simp; omega)).lt
    have HI2 := Lib.hid hI; clear hI
    go_simp
    first | exact ⟨gb_refl _ _, HI2.out⟩ | exact HI2.out | exact ⟨HI2.out, trivial⟩
   refine val_cons ?_ (fun v5 => ?_)
   ·intro L vs w1 hvs hat hb hI hF; try simp [factsI, Region.binds, Is] at hF
    have HI2 := Lib.hid hI; clear hI
    go_simp
    first | refine (HBI.out _).mono ?_ | refine ⟨trivial, (CallsIn.inRound lp (callsIn_wide.2 (HBI.out _))).mono ?_⟩
    rintro e w2 ⟨rfl, hb2⟩
    exact ⟨_, rfl, gb_below (gb_refl _ _) hb2, HI2.out.bel hb2, rfl⟩
   refine val_cons ?_ (fun v6 => ?_)
   ·intro L vs w1 hvs hat hb hI hF; try simp [factsI, Region.binds, Is] at hF
    have HI2 := Lib.hid hI; clear hI
    go_simp
    first | exact ⟨gb_refl _ _, HI2.out⟩ | exact HI2.out | exact ⟨HI2.out, trivial⟩
   refine val_cons ?_ (fun v7 => ?_)
   ·intro L vs w1 hvs hat hb hI hF; try simp [factsI, Region.binds, Is] at hF
    have hz9 : (Z : Int) < 8 := by omega
    have HI2 := Lib.hid hI; clear hI
    go_simp
    try rw [if_pos hz9]
    first | exact ⟨gb_refl _ _, HI2.out⟩ | exact HI2.out | exact ⟨HI2.out, trivial⟩ | exact ⟨gb_refl _ _, HI2.out, rfl⟩
   refine val_cons ?_ (fun v8 => ?_)
   ·intro L vs w1 hvs hat hb hI hF; try simp [factsI, Region.binds, Is] at hF
    have h8 := Lib.hid hat.self
    have hB := hI.1 h8.out
    have l6 := hB.lt
    have f6 := hB.free Z
    have e6 := (hB.cell Z).trans (getZ T hZ8)
    have HW := Lib.hid hB
    clear hI hB
    go_simp
    refine ⟨gb_set (gb_refl _ _) _ rfl _, ⟨fun e => (by cases e), fun _ => ?_⟩, trivial⟩
    have := HW.out.set Z (.int .u64 (pl T2 Z))
    rw [HT.out.2] at this ⊢
    have ec := cell_set T hg (Z := Z) rfl
    rw [show (#[.int .u64 (pl T 0), .int .u64 (pl T 1), .int .u64 (pl T 2), .int .u64 (pl T 3), .int .u64 (pl T 4), .int .u64 (pl T 5), .int .u64 (pl T 6), .int .u64 (pl T 7)] : Array Value) = mixA fun i => pl T i from rfl, ec] at this
    exact this
   refine val_nil ?_
   intro vs w1 hvs hb hI hF
   simp [Is, Nat.forall_lt_succ_right] at hF
   have e0 := hF.1.1.1.1.1.1.1.1
   have e1 := hF.1.1.1.1.1.1.1.2
   have e2 := hF.1.1.1.1.1.1.2
   have e3 := hF.1.1.1.1.1.2
   have e4 := hF.1.1.1.1.2
   have e5 := hF.1.1.1.2
   have e6 := hF.1.1.2
   have e7 := hF.1.2
   have e8 := hF.2
   clear hF
   simp only [Act.put, List.setIfInBounds_toArray, List.set_cons_succ, List.set_cons_zero, e0, e1, e2, e3, e4, e5, e6, e7]
   clear e0 e1 e2 e3 e4 e5 e6 e7
   have hB7 := hI.2 rfl
   have hgW : w5.grownBy w1 (some (w.heap.size + 1 + 1 + 1 + 1)) := hb
   have hM5 := HZ.out.1
   have hH3' := H3.out.2.1
   refine ⟨HZ.out.2.1.trans (.gb hgW (fun r e => by cases e; exact .inr (.inr rfl))), ?_, ?_⟩
   ·intro c hc
    rcases List.mem_append.1 hc with h | h
    ·exact HI.out.1 c h
    ·rw [List.mem_singleton.1 h, ← HD.out]; exact hg
   ·rw [orG_snoc, ← HD.out, ← HT.out.1, ← HT.out.2]
    obtain ⟨h1, h2, h3, h4, h5, h6, h7⟩ := hM5
    refine ⟨h1.grown hgW h1.size (fun k e => by cases e; omega), HH.out.1 _ _ _ h2 hgW (fun k e => by cases e; omega), h3.gb hgW ?_, h4.gb hgW ?_, h5.gb hgW ?_, h6.gb hgW ?_, hB7⟩
    all_goals (simp; try omega)
 case done =>
  rintro D xs W hD hS ⟨hp1, hM⟩ hK
  have hH3 := H3.out.2.1
  have hst : stays f s = true := by
   unfold stays
   rw [List.all_eq_true]
   intro c hc
   rw [← hS] at hc
   obtain ⟨z, hz, rfl⟩ := List.mem_map.1 hc
   exact hp1 z hz
  have himg : orG f xs = imgS f s := by
   rw [← orC_all, ← hS]; rfl
  rw [himg] at hM
  obtain ⟨Y, hY⟩ : ∃ Y, Y = imgS f s := ⟨_, rfl⟩
  rw [← hY] at hM
  have lD := (Array.getElem?_eq_some_iff.1 hK).1
  obtain ⟨hbw, _, _, _, b2, b3, b4⟩ := hM
  have c4 := b4.cell; have l4 := b4.lt
  have r2 := b2.row; have r3 := b3.row; have l2 := b2.lt; have l3 := b3.lt
  have HZ := Lib.hid (And.intro hbw (And.intro b2 (And.intro b3 (And.intro hK (And.intro hD (And.intro hst hY))))))
  rw [← b2.rw, ← b3.rw]
  clear hp1 b2 b3 b4 hK hD hst hY himg hbw hS
  gi_wp2_with fail
  go_wp2_with fail
  have hne2 : w.heap.size + 1 + 1 ≠ D := by have := HZ.out.2.2.2.2.1; omega
  have hne3 : w.heap.size + 1 + 1 + 1 ≠ D := by have := HZ.out.2.2.2.2.1; omega
  obtain ⟨W2, hW2⟩ : ∃ W2, W2 = (W.setRow (w.heap.size + 1 + 1 + 1) #[.bool true]).setRow (w.heap.size + 1 + 1) #[.int .u64 (pl Y 0), .int .u64 (pl Y 1), .int .u64 (pl Y 2), .int .u64 (pl Y 3), .int .u64 (pl Y 4), .int .u64 (pl Y 5), .int .u64 (pl Y 6), .int .u64 (pl Y 7)] := ⟨_, rfl⟩
  have hK2 : W2.heap[D]? = some (.deferred (some [])) := by rw [hW2]; exact (setRow_other _ _ _ _ hne2.symm).trans ((setRow_other _ _ _ _ hne3.symm).trans HZ.out.2.2.2.1)
  have B2 : Blk W2 (w.heap.size + 1 + 1) #[.int .u64 (pl Y 0), .int .u64 (pl Y 1), .int .u64 (pl Y 2), .int .u64 (pl Y 3), .int .u64 (pl Y 4), .int .u64 (pl Y 5), .int .u64 (pl Y 6), .int .u64 (pl Y 7)] 26 := by rw [hW2]; exact (HZ.out.2.1.rowO _ (by omega)).rowS _
  have B3 : Blk W2 (w.heap.size + 1 + 1 + 1) #[.bool true] 4 := by rw [hW2]; exact (HZ.out.2.2.1.rowS _).rowO _ (by omega)
  have hbW2 : Below w.heap.size w W2 := by rw [hW2]; exact bel_row (bel_row HZ.out.1 (by omega) _) (by omega) _
  rw [← hW2]
  refine ⟨by simp, .inl ⟨_, _, rfl, run_takeDeferred hK2, ?_⟩⟩
  have hgP := grownBy_putObj' W2 D (.deferred none)
  have c2P := (B2.gb hgP (by simp; omega)).cell
  have c3P := (B3.gb hgP (by simp; omega)).cell
  refine ⟨.tuple #[solV Y, .bool true], by simp [results, Tryz.results128, go_sem, c2P, c3P], ?_, hbW2.grown hgP hbW2.size (fun k e => by cases e; have := HZ.out.2.2.2.2.1; omega)⟩
  rw [HRV.out, HZ.out.2.2.2.2.2.1, HZ.out.2.2.2.2.2.2]; rfl
 case stop =>
  rintro D c pre W hD hS ⟨rfl, ⟨y, hy, hyf⟩, hM⟩ hK
  have hH3 := H3.out.2.1
  have hst : stays f s = false := by
   cases h : stays f s with
   | false => rfl
   | true =>
    have hm : y.1 ∈ cellsS s := hS.subset (List.mem_map.2 ⟨y, hy, rfl⟩)
    unfold stays at h
    rw [List.all_eq_true] at h
    rw [h _ hm] at hyf
    cases hyf
  obtain ⟨hbw, b2, b3⟩ := hM
  have HZ := Lib.hid (And.intro hbw (And.intro b2 (And.intro b3 (And.intro hK (And.intro hD hst)))))
  have lD := (Array.getElem?_eq_some_iff.1 hK).1
  clear hbw b2 b3 hK hD hst hS hy hyf
  gi_wp2_with fail
  refine ⟨by simp, .inl ⟨_, _, rfl, run_takeDeferred HZ.out.2.2.2.1, ?_⟩⟩
  have hne2 : w.heap.size + 1 + 1 ≠ D := by have := HZ.out.2.2.2.2.1; omega
  have hne3 : w.heap.size + 1 + 1 + 1 ≠ D := by have := HZ.out.2.2.2.2.1; omega
  have hgP := grownBy_putObj' W D (.deferred none)
  have c2P := (HZ.out.2.1.gb hgP (by simp; omega)).cell
  have c3P := (HZ.out.2.2.1.gb hgP (by simp; omega)).cell
  refine ⟨.tuple #[solV 0, .bool false], by simp [results, Tryz.results128, go_sem, c2P, c3P], ?_, HZ.out.1.grown hgP HZ.out.1.size (fun k e => by cases e; have := HZ.out.2.2.2.2.1; omega)⟩
  rw [HRV.out, HZ.out.2.2.2.2.2]; rfl
end Go.Proofs.YtkfimbonmnoglaaGreatDoor
end
section
namespace Go.Proofs.YtkfimbonmnoglaaGreatDoor
open Go.RowKit Go.Rel Go.Draw Go.Solid
set_option maxRecDepth 100000
abbrev cV (x y z : Int) : Value := .agg #[.int .i64 x, .int .i64 y, .int .i64 z]
set_option maxHeartbeats 1000000 in
theorem roll_none {x y z : Int} (hx : -7 ≤ x ∧ x ≤ 14) (hy : -7 ≤ y ∧ y ≤ 14) (hz : -7 ≤ z ∧ z ≤ 14) (w : World) : Calls Tryz.prog 134 #[.int .i64 0, cV x y z] w fun e w' => e = .returned (cV (x) (y) (z)) ∧ Below w.heap.size w w' := by
 go_enter Tryz.func134, Tryz.ntmps134
 go_wp2_with fail
 exact bodyPost_ret (v := cV (x) (y) (z)) (by simp [results, Tryz.results134, go_sem]) rfl ⟨rfl, (by repeat (first | with_reducible exact bel_refl _ | with_reducible assumption | with_reducible refine bel_drewN ?_ _ | with_reducible refine bel_drew ?_ | with_reducible refine bel_alloc ?_ _ | with_reducible refine bel_row ?_ ?_ _ | with_reducible refine bel_set ?_ ?_ _ | refine bel_trans ?_ (by with_reducible assumption) | (simp; done) | (simp; omega)))⟩
set_option maxHeartbeats 1000000 in
theorem roll_one {x y z : Int} (hx : -7 ≤ x ∧ x ≤ 14) (hy : -7 ≤ y ∧ y ≤ 14) (hz : -7 ≤ z ∧ z ≤ 14) (w : World) : Calls Tryz.prog 135 #[.int .i64 0, cV x y z] w fun e w' => e = .returned (cV (x) (7 - z) (y)) ∧ Below w.heap.size w w' := by
 go_enter Tryz.func135, Tryz.ntmps135
 go_wp2_with fail
 exact bodyPost_ret (v := cV (x) (7 - z) (y)) (by simp [results, Tryz.results135, go_sem]) rfl ⟨rfl, (by repeat (first | with_reducible exact bel_refl _ | with_reducible assumption | with_reducible refine bel_drewN ?_ _ | with_reducible refine bel_drew ?_ | with_reducible refine bel_alloc ?_ _ | with_reducible refine bel_row ?_ ?_ _ | with_reducible refine bel_set ?_ ?_ _ | refine bel_trans ?_ (by with_reducible assumption) | (simp; done) | (simp; omega)))⟩
set_option maxHeartbeats 1000000 in
theorem roll_two {x y z : Int} (hx : -7 ≤ x ∧ x ≤ 14) (hy : -7 ≤ y ∧ y ≤ 14) (hz : -7 ≤ z ∧ z ≤ 14) (w : World) : Calls Tryz.prog 136 #[.int .i64 0, cV x y z] w fun e w' => e = .returned (cV (x) (7 - y) (7 - z)) ∧ Below w.heap.size w w' := by
 go_enter Tryz.func136, Tryz.ntmps136
 go_wp2_with fail
 exact bodyPost_ret (v := cV (x) (7 - y) (7 - z)) (by simp [results, Tryz.results136, go_sem]) rfl ⟨rfl, (by repeat (first | with_reducible exact bel_refl _ | with_reducible assumption | with_reducible refine bel_drewN ?_ _ | with_reducible refine bel_drew ?_ | with_reducible refine bel_alloc ?_ _ | with_reducible refine bel_row ?_ ?_ _ | with_reducible refine bel_set ?_ ?_ _ | refine bel_trans ?_ (by with_reducible assumption) | (simp; done) | (simp; omega)))⟩
set_option maxHeartbeats 1000000 in
theorem roll_three {x y z : Int} (hx : -7 ≤ x ∧ x ≤ 14) (hy : -7 ≤ y ∧ y ≤ 14) (hz : -7 ≤ z ∧ z ≤ 14) (w : World) : Calls Tryz.prog 137 #[.int .i64 0, cV x y z] w fun e w' => e = .returned (cV (x) (z) (7 - y)) ∧ Below w.heap.size w w' := by
 go_enter Tryz.func137, Tryz.ntmps137
 go_wp2_with fail
 exact bodyPost_ret (v := cV (x) (z) (7 - y)) (by simp [results, Tryz.results137, go_sem]) rfl ⟨rfl, (by repeat (first | with_reducible exact bel_refl _ | with_reducible assumption | with_reducible refine bel_drewN ?_ _ | with_reducible refine bel_drew ?_ | with_reducible refine bel_alloc ?_ _ | with_reducible refine bel_row ?_ ?_ _ | with_reducible refine bel_set ?_ ?_ _ | refine bel_trans ?_ (by with_reducible assumption) | (simp; done) | (simp; omega)))⟩
set_option maxHeartbeats 1000000 in
theorem roll_left {x y z : Int} (hx : -7 ≤ x ∧ x ≤ 14) (hy : -7 ≤ y ∧ y ≤ 14) (hz : -7 ≤ z ∧ z ≤ 14) (w : World) : Calls Tryz.prog 138 #[.int .i64 0, cV x y z] w fun e w' => e = .returned (cV (z) (y) (7 - x)) ∧ Below w.heap.size w w' := by
 go_enter Tryz.func138, Tryz.ntmps138
 go_wp2_with fail
 exact bodyPost_ret (v := cV (z) (y) (7 - x)) (by simp [results, Tryz.results138, go_sem]) rfl ⟨rfl, (by repeat (first | with_reducible exact bel_refl _ | with_reducible assumption | with_reducible refine bel_drewN ?_ _ | with_reducible refine bel_drew ?_ | with_reducible refine bel_alloc ?_ _ | with_reducible refine bel_row ?_ ?_ _ | with_reducible refine bel_set ?_ ?_ _ | refine bel_trans ?_ (by with_reducible assumption) | (simp; done) | (simp; omega)))⟩
set_option maxHeartbeats 1000000 in
theorem roll_right {x y z : Int} (hx : -7 ≤ x ∧ x ≤ 14) (hy : -7 ≤ y ∧ y ≤ 14) (hz : -7 ≤ z ∧ z ≤ 14) (w : World) : Calls Tryz.prog 139 #[.int .i64 0, cV x y z] w fun e w' => e = .returned (cV (7 - z) (y) (x)) ∧ Below w.heap.size w w' := by
 go_enter Tryz.func139, Tryz.ntmps139
 go_wp2_with fail
 exact bodyPost_ret (v := cV (7 - z) (y) (x)) (by simp [results, Tryz.results139, go_sem]) rfl ⟨rfl, (by repeat (first | with_reducible exact bel_refl _ | with_reducible assumption | with_reducible refine bel_drewN ?_ _ | with_reducible refine bel_drew ?_ | with_reducible refine bel_alloc ?_ _ | with_reducible refine bel_row ?_ ?_ _ | with_reducible refine bel_set ?_ ?_ _ | refine bel_trans ?_ (by with_reducible assumption) | (simp; done) | (simp; omega)))⟩
end Go.Proofs.YtkfimbonmnoglaaGreatDoor
end
