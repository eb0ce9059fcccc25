import Derived.Test.YtccnkebkgegohaaGreatDoorL1
import Derived.Deep.Cut
import Derived.Lib.ConvBytes
import Derived.Laws.IdiomStrings
import Derived.RangeFuncBox
import Derived.Lib.IndexMore
import Derived.Lib.SlicesS
import Derived.Shelf.Strconv.AtoiAll
/-
  Given contracts of functions of the program, and laws for them, one behind the other.
-/
set_option linter.unusedVariables false
set_option linter.unusedSimpArgs false
set_option linter.unusedSectionVars false
section
namespace Go.Proofs.YtccnkebkgegohaaGreatDoor.Ln
open Go.RowKit Go.Rel Go.Draw Go.Solid
set_option maxRecDepth 100000
/-! the reference's fits and Write of actions -/
def fitsN (n : Nat) (a : Ax) : Bool :=
 if a.1 = 1 then a.2.1 == 0 && !(a.2.2 == 0#512)
 else (a.1 == 2 || a.1 == 3) && decide (0 ≤ a.2.1) && decide (a.2.1 < n) && a.2.2 == 0#512
theorem fitsN_8 (a : Ax) : fitsN 8 a = fitX a := rfl
set_option maxHeartbeats 2000000 in
theorem refFits_cut (n : Nat) (p : Int) (s : Sol) (w : World) :
  Calls Tryz.prog 104 #[.int .i64 n, .agg #[.int .u8 1, .int .i64 p, .int .u64 (pl s 0), .int .u64 (pl s 1), .int .u64 (pl s 2), .int .u64 (pl s 3), .int .u64 (pl s 4), .int .u64 (pl s 5), .int .u64 (pl s 6), .int .u64 (pl s 7)]] w fun e w' => e = .returned (.bool (p == 0 && !(s == 0#512))) ∧ Below w.heap.size w w' := by
 cases hp : (p == 0) with
 | false =>
  go_enter Tryz.func104, Tryz.ntmps104
  go_wp2
  go_ret
  exact ⟨rfl, (by repeat (first | with_reducible exact bel_refl _ | with_reducible assumption | with_reducible refine bel_drewN ?_ _ | with_reducible refine bel_drew ?_ | with_reducible refine bel_alloc ?_ _ | with_reducible refine bel_row ?_ ?_ _ | with_reducible refine bel_set ?_ ?_ _ | refine bel_trans ?_ (by with_reducible assumption) | (simp; done) | (simp; omega)))⟩
 | true =>
  go_enter Tryz.func104, Tryz.ntmps104
  go_wp2
  go_ret
  exact ⟨rfl, (by repeat (first | with_reducible exact bel_refl _ | with_reducible assumption | with_reducible refine bel_drewN ?_ _ | with_reducible refine bel_drew ?_ | with_reducible refine bel_alloc ?_ _ | with_reducible refine bel_row ?_ ?_ _ | with_reducible refine bel_set ?_ ?_ _ | refine bel_trans ?_ (by with_reducible assumption) | (simp; done) | (simp; omega)))⟩
set_option maxHeartbeats 2000000 in
theorem refFits_kept (n : Nat) (K : Nat) (p : Int) (s : Sol) (w : World) (hK : K = 2 ∨ K = 3) :
  Calls Tryz.prog 104 #[.int .i64 n, .agg #[.int .u8 K, .int .i64 p, .int .u64 (pl s 0), .int .u64 (pl s 1), .int .u64 (pl s 2), .int .u64 (pl s 3), .int .u64 (pl s 4), .int .u64 (pl s 5), .int .u64 (pl s 6), .int .u64 (pl s 7)]] w fun e w' => e = .returned (.bool (decide (0 ≤ p) && decide (p < n) && s == 0#512)) ∧ Below w.heap.size w w' := by
 rcases hK with rfl | rfl
 all_goals
  by_cases h0 : 0 ≤ p
  ·by_cases h1 : p < n
   ·go_enter Tryz.func104, Tryz.ntmps104
    go_wp2
    go_ret
    exact ⟨ret_bool (by simp [h0, h1]), (by repeat (first | with_reducible exact bel_refl _ | with_reducible assumption | with_reducible refine bel_drewN ?_ _ | with_reducible refine bel_drew ?_ | with_reducible refine bel_alloc ?_ _ | with_reducible refine bel_row ?_ ?_ _ | with_reducible refine bel_set ?_ ?_ _ | refine bel_trans ?_ (by with_reducible assumption) | (simp; done) | (simp; omega)))⟩
   ·go_enter Tryz.func104, Tryz.ntmps104
    go_wp2
    go_ret
    exact ⟨ret_bool (by rw [show decide (p < (n : Int)) = false from decide_eq_false (by omega)]; simp), (by repeat (first | with_reducible exact bel_refl _ | with_reducible assumption | with_reducible refine bel_drewN ?_ _ | with_reducible refine bel_drew ?_ | with_reducible refine bel_alloc ?_ _ | with_reducible refine bel_row ?_ ?_ _ | with_reducible refine bel_set ?_ ?_ _ | refine bel_trans ?_ (by with_reducible assumption) | (simp; done) | (simp; omega)))⟩
  ·go_enter Tryz.func104, Tryz.ntmps104
   go_wp2
   go_ret
   exact ⟨ret_bool (by rw [show decide (0 ≤ p) = false from decide_eq_false (by omega)]; simp), (by repeat (first | with_reducible exact bel_refl _ | with_reducible assumption | with_reducible refine bel_drewN ?_ _ | with_reducible refine bel_drew ?_ | with_reducible refine bel_alloc ?_ _ | with_reducible refine bel_row ?_ ?_ _ | with_reducible refine bel_set ?_ ?_ _ | refine bel_trans ?_ (by with_reducible assumption) | (simp; done) | (simp; omega)))⟩
set_option maxHeartbeats 2000000 in
theorem refFits_other (n : Nat) (K : Nat) (p : Int) (s : Sol) (w : World) (h1 : ¬ K = 1) (h2 : ¬ K = 2) (h3 : ¬ K = 3) :
  Calls Tryz.prog 104 #[.int .i64 n, .agg #[.int .u8 K, .int .i64 p, .int .u64 (pl s 0), .int .u64 (pl s 1), .int .u64 (pl s 2), .int .u64 (pl s 3), .int .u64 (pl s 4), .int .u64 (pl s 5), .int .u64 (pl s 6), .int .u64 (pl s 7)]] w fun e w' => e = .returned (.bool false) ∧ Below w.heap.size w w' := by
 have g1 : ((K : Int) == 1) = false := by rw [beq_eq_false_iff_ne]; omega
 have g2 : ((K : Int) == 2) = false := by rw [beq_eq_false_iff_ne]; omega
 have g3 : ((K : Int) == 3) = false := by rw [beq_eq_false_iff_ne]; omega
 go_enter Tryz.func104, Tryz.ntmps104
 go_wp2
 go_ret
 exact ⟨rfl, (by repeat (first | with_reducible exact bel_refl _ | with_reducible assumption | with_reducible refine bel_drewN ?_ _ | with_reducible refine bel_drew ?_ | with_reducible refine bel_alloc ?_ _ | with_reducible refine bel_row ?_ ?_ _ | with_reducible refine bel_set ?_ ?_ _ | refine bel_trans ?_ (by with_reducible assumption) | (simp; done) | (simp; omega)))⟩
theorem refFits_spec (n : Nat) (a : Ax) (w : World) :
  Calls Tryz.prog 104 #[.int .i64 n, .agg #[.int .u8 a.1, .int .i64 a.2.1, .int .u64 (pl a.2.2 0), .int .u64 (pl a.2.2 1), .int .u64 (pl a.2.2 2), .int .u64 (pl a.2.2 3), .int .u64 (pl a.2.2 4), .int .u64 (pl a.2.2 5), .int .u64 (pl a.2.2 6), .int .u64 (pl a.2.2 7)]] w fun e w' => e = .returned (.bool (fitsN n a)) ∧ Below w.heap.size w w' := by
 obtain ⟨K, p, s⟩ := a
 by_cases h1 : K = 1
 ·subst h1; exact refFits_cut n p s w
 ·by_cases h23 : K = 2 ∨ K = 3
  ·have := refFits_kept n K p s w h23
   have e : fitsN n (K, p, s) = (decide (0 ≤ p) && decide (p < n) && s == 0#512) := by
    unfold fitsN; rw [if_neg h1]
    rcases h23 with rfl | rfl <;> simp
   rw [e]; exact this
  ·have e : fitsN n (K, p, s) = false := by
    unfold fitsN; rw [if_neg h1]
    have : K ≠ 2 ∧ K ≠ 3 := by omega
    simp [this.1, this.2]
   rw [e]; exact refFits_other n K p s w h1 (by omega) (by omega)
end Go.Proofs.YtccnkebkgegohaaGreatDoor.Ln
end
section
namespace Go.Proofs.YtccnkebkgegohaaGreatDoor.Ln
open Go.RowKit Go.Rel Go.Draw Go.Solid
set_option maxRecDepth 100000
/-! the reference's Write of actions -/
theorem conv_oneX (w : World) (d : UInt8) : (convert 72 9 (.slice (some ⟨w.heap.size, 0, none⟩) 1 1)).run Tryz.prog (w.alloc (.cells #[.int .u8 (d.toNat : Int)] 5)) = .ok (.string ⟨#[d]⟩) (w.alloc (.cells #[.int .u8 (d.toNat : Int)] 5)) :=
 run_convert_bytes_back (P := Tryz.prog) (w.alloc (.cells #[.int .u8 (d.toNat : Int)] 5)) 72 9 5 ⟨w.heap.size, 0, none⟩ 1 [d] Tryz.underlying72 Tryz.underlying5 Tryz.underlying9 (fun j hj => by
  have : j = 0 := by simpa using hj
  subst this
  exact (Blk.new w #[.int .u8 (d.toNat : Int)] 5).cell 0)
theorem bytes_cat (l m : List UInt8) : ((⟨l.toArray⟩ : ByteArray) ++ ⟨m.toArray⟩) = ⟨(l ++ m).toArray⟩ := by
 apply ByteArray.ext
 simp [ByteArray.data_append]
theorem digX_nat {p : Int} (h : 0 ≤ p ∧ p < 8) : (((digX p).toNat : Nat) : Int) = 48 + p := by
 unfold digX
 rw [UInt8.toNat_ofNat']
 omega
set_option maxHeartbeats 4000000 in
theorem refWriteA (K : Nat) (p : Int) (s : Sol) (w : World) : Calls Tryz.prog 82 #[.agg #[.int .u8 K, .int .i64 p, .int .u64 (pl s 0), .int .u64 (pl s 1), .int .u64 (pl s 2), .int .u64 (pl s 3), .int .u64 (pl s 4), .int .u64 (pl s 5), .int .u64 (pl s 6), .int .u64 (pl s 7)]] w fun e w' => e = .returned (.tuple #[.string ⟨(wrXM (K, p, s)).1.toArray⟩, .int .i64 (wrXM (K, p, s)).2]) ∧ Below w.heap.size w w' := by
 have HF : Hid (∀ W, Calls Tryz.prog 104 #[.int .i64 8, .agg #[.int .u8 K, .int .i64 p, .int .u64 (pl s 0), .int .u64 (pl s 1), .int .u64 (pl s 2), .int .u64 (pl s 3), .int .u64 (pl s 4), .int .u64 (pl s 5), .int .u64 (pl s 6), .int .u64 (pl s 7)]] W fun e w' => e = .returned (.bool (fitX (K, p, s))) ∧ Below W.heap.size W w') := Lib.hid fun W => refFits_spec 8 (K, p, s) W
 cases hf : fitX (K, p, s)
 ·rw [hf] at HF
  have hm : wrXM (K, p, s) = ([], 1) := by unfold wrXM; rw [hf]; rfl
  rw [hm]
  clear hm hf
  go_enter Tryz.func82, Tryz.ntmps82
  go_wp2_with fail
  refine (HF.out _).mono ?_
  rintro e w1 ⟨rfl, hb1⟩
  have H1 := Lib.hid (bel_trans (bel_alloc (bel_refl w) (.cells #[.int .u8 K, .int .i64 p, .int .u64 (pl s 0), .int .u64 (pl s 1), .int .u64 (pl s 2), .int .u64 (pl s 3), .int .u64 (pl s 4), .int .u64 (pl s 5), .int .u64 (pl s 6), .int .u64 (pl s 7)] 46)) hb1); clear hb1
  go_wp2_with fail
  exact bodyPost_ret (v := .tuple #[.string ⟨#[]⟩, .int .i64 1]) (by simp [results, Tryz.results82, go_sem]) rfl ⟨rfl, H1.out⟩
 ·rw [hf] at HF
  have hm : wrXM (K, p, s) = (wrX (K, p, s), 0) := by unfold wrXM; rw [hf]; rfl
  rw [hm]
  rcases fitX_cases hf with ⟨h1, h2, h3⟩ | ⟨h1, h2, h3⟩ <;> simp only at h1 h2 h3
  ·subst h1 h2
   have HW := Lib.hid fun W => refWrite_spec s W
   have HR : Hid ((⟨#[99, 117, 116, 32]⟩ : ByteArray) ++ ⟨(wrS s).toArray⟩ = ⟨(wrX (1, 0, s)).toArray⟩) := Lib.hid (bytes_cat [99, 117, 116, 32] (wrS s))
   have hwl : (⟨(wrS s).toArray⟩ : ByteArray).size ≤ 144 := wrS_len s
   obtain ⟨A, hA⟩ : ∃ A : ByteArray, A = ⟨(wrS s).toArray⟩ := ⟨_, rfl⟩
   rw [← hA] at HW HR hwl
   clear hm hf h3 hA
   go_enter Tryz.func82, Tryz.ntmps82
   go_wp2_with fail
   refine (HF.out _).mono ?_
   rintro e w1 ⟨rfl, hb1⟩
   have k := (Blk.new w #[.int .u8 ((1 : Nat) : Int), .int .i64 0, .int .u64 (pl s 0), .int .u64 (pl s 1), .int .u64 (pl s 2), .int .u64 (pl s 3), .int .u64 (pl s 4), .int .u64 (pl s 5), .int .u64 (pl s 6), .int .u64 (pl s 7)] 46).grow hb1
   have H1 := Lib.hid (bel_trans (bel_alloc (bel_refl w) (.cells #[.int .u8 ((1 : Nat) : Int), .int .i64 0, .int .u64 (pl s 0), .int .u64 (pl s 1), .int .u64 (pl s 2), .int .u64 (pl s 3), .int .u64 (pl s 4), .int .u64 (pl s 5), .int .u64 (pl s 6), .int .u64 (pl s 7)] 46)) hb1); clear hb1
   have c := k.cell; have l := k.lt
   clear k
   go_wp2_with fail
   refine (HW.out _).mono ?_
   rintro e w2 ⟨rfl, hb2⟩
   have H2 := Lib.hid (bel_trans H1.out hb2); clear hb2
   go_wp2_with fail
   exact bodyPost_ret (v := .tuple #[.string ((⟨#[99, 117, 116, 32]⟩ : ByteArray) ++ A), .int .i64 0]) (by simp [results, Tryz.results82, go_sem]) rfl ⟨by rw [HR.out], H2.out⟩
  ·have hd := digX_nat h2
   have w1 : IntKind.i64.wrap (48 + p) = 48 + p := (Go.IntWalk.i64_left _).trans (Go.IntWalk.wrap64_in _ (by omega))
   have w2 : IntKind.u8.wrap (48 + p) = 48 + p := u8_in _ (by omega) (by omega)
   obtain ⟨d, hdd⟩ : ∃ d, d = digX p := ⟨_, rfl⟩
   rw [← hdd] at hd
   have HCV := Lib.hid fun W => conv_oneX W d
   rw [hd] at HCV
   rcases h1 with rfl | rfl
   ·have HR : Hid ((⟨#[102, 105, 116, 32]⟩ : ByteArray) ++ ⟨#[d]⟩ = ⟨(wrX (2, p, s)).toArray⟩) := Lib.hid (by rw [hdd]; exact bytes_cat [102, 105, 116, 32] [digX p])
    clear hm hf h2 h3 hd hdd
    go_enter Tryz.func82, Tryz.ntmps82
    go_wp2_with fail
    refine (HF.out _).mono ?_
    rintro e w3 ⟨rfl, hb1⟩
    have k := (Blk.new w #[.int .u8 ((2 : Nat) : Int), .int .i64 p, .int .u64 (pl s 0), .int .u64 (pl s 1), .int .u64 (pl s 2), .int .u64 (pl s 3), .int .u64 (pl s 4), .int .u64 (pl s 5), .int .u64 (pl s 6), .int .u64 (pl s 7)] 46).grow hb1
    have H1 := Lib.hid (bel_trans (bel_alloc (bel_refl w) (.cells #[.int .u8 ((2 : Nat) : Int), .int .i64 p, .int .u64 (pl s 0), .int .u64 (pl s 1), .int .u64 (pl s 2), .int .u64 (pl s 3), .int .u64 (pl s 4), .int .u64 (pl s 5), .int .u64 (pl s 6), .int .u64 (pl s 7)] 46)) hb1); clear hb1
    have k' := k.alloc (.cells #[.int .u8 (48 + p)] 5)
    have c := k.cell; have l := k.lt
    have c' := k'.cell; have l' := k'.lt
    have hcv := HCV.out w3
    clear k k'
    go_wp2_with fail
    exact bodyPost_ret (v := .tuple #[.string ((⟨#[102, 105, 116, 32]⟩ : ByteArray) ++ ⟨#[d]⟩), .int .i64 0]) (by simp [results, Tryz.results82, go_sem]) rfl ⟨by rw [HR.out], bel_alloc H1.out _⟩
   ·have HR : Hid ((⟨#[116, 97, 107, 101, 32]⟩ : ByteArray) ++ ⟨#[d]⟩ = ⟨(wrX (3, p, s)).toArray⟩) := Lib.hid (by rw [hdd]; exact bytes_cat [116, 97, 107, 101, 32] [digX p])
    clear hm hf h2 h3 hd hdd
    go_enter Tryz.func82, Tryz.ntmps82
    go_wp2_with fail
    refine (HF.out _).mono ?_
    rintro e w3 ⟨rfl, hb1⟩
    have k := (Blk.new w #[.int .u8 ((3 : Nat) : Int), .int .i64 p, .int .u64 (pl s 0), .int .u64 (pl s 1), .int .u64 (pl s 2), .int .u64 (pl s 3), .int .u64 (pl s 4), .int .u64 (pl s 5), .int .u64 (pl s 6), .int .u64 (pl s 7)] 46).grow hb1
    have H1 := Lib.hid (bel_trans (bel_alloc (bel_refl w) (.cells #[.int .u8 ((3 : Nat) : Int), .int .i64 p, .int .u64 (pl s 0), .int .u64 (pl s 1), .int .u64 (pl s 2), .int .u64 (pl s 3), .int .u64 (pl s 4), .int .u64 (pl s 5), .int .u64 (pl s 6), .int .u64 (pl s 7)] 46)) hb1); clear hb1
    have k' := k.alloc (.cells #[.int .u8 (48 + p)] 5)
    have c := k.cell; have l := k.lt
    have c' := k'.cell; have l' := k'.lt
    have hcv := HCV.out w3
    clear k k'
    go_wp2_with fail
    exact bodyPost_ret (v := .tuple #[.string ((⟨#[116, 97, 107, 101, 32]⟩ : ByteArray) ++ ⟨#[d]⟩), .int .i64 0]) (by simp [results, Tryz.results82, go_sem]) rfl ⟨by rw [HR.out], bel_alloc H1.out _⟩
end Go.Proofs.YtccnkebkgegohaaGreatDoor.Ln
end
section
namespace Go.Proofs.YtccnkebkgegohaaGreatDoor.Ln
open Go.RowKit Go.Rel Go.Draw Go.Solid
set_option maxRecDepth 100000
/-! Write of actions -/
theorem cells_new (w : World) (xs : List Value) (t : TypeId) : ∀ j u, xs[j]? = some u → (w.alloc (.cells xs.toArray t)).cell? ((⟨w.heap.size, 0, none⟩ : Addr).add j) = some u := by
 intro j u h
 rw [Addr.add_lit, Nat.zero_add, World.cell?_alloc_at _ _ _ _ rfl]
 simpa using h
theorem own_setOther {w : World} {base : Nat} {e : TypeId} {size : Nat} {v : Value} {n : Nat} {xs : List Value} (h : w.ownsRow base e size v n xs) {a : Addr} (hab : a.block < base) (u : Value) : (w.setCell a u).ownsRow base e size v n xs := by
 refine ⟨h.1, ?_⟩
 rcases h.2 with h | ⟨g, cap, cur, e1, hb, hg, rest⟩
 ·exact .inl h
 ·exact .inr ⟨g, cap, cur, e1, hb, (Below.heap_setCell w a u g (by omega)).trans hg, rest⟩
theorem pl_one0 : pl 1 0 = 1 := by kernel_rfl
theorem pl_one1 : pl 1 1 = 0 := by kernel_rfl
theorem pl_one2 : pl 1 2 = 0 := by kernel_rfl
theorem pl_one3 : pl 1 3 = 0 := by kernel_rfl
theorem pl_one4 : pl 1 4 = 0 := by kernel_rfl
theorem pl_one5 : pl 1 5 = 0 := by kernel_rfl
theorem pl_one6 : pl 1 6 = 0 := by kernel_rfl
theorem pl_one7 : pl 1 7 = 0 := by kernel_rfl
set_option maxHeartbeats 16000000 in
theorem WriteA (K : Nat) (p : Int) (s : Sol) (w : World) (hT : Tab w)
  (hCK : ∀ u W, SlS W u (List.replicate 8 (1 : Sol)) → Calls Tryz.prog 36 #[.agg #[.int .u64 1, .int .u64 0, .int .u64 0, .int .u64 0, .int .u64 0, .int .u64 0, .int .u64 0, .int .u64 0, u], .agg #[.int .u8 K, .int .i64 p, .int .u64 (pl s 0), .int .u64 (pl s 1), .int .u64 (pl s 2), .int .u64 (pl s 3), .int .u64 (pl s 4), .int .u64 (pl s 5), .int .u64 (pl s 6), .int .u64 (pl s 7)]] W fun e w' => e = .returned (.int .i64 (if fitX (K, p, s) then 0 else 1)) ∧ Below W.heap.size W w') :
  Calls Tryz.prog 81 #[.agg #[.int .u8 K, .int .i64 p, .int .u64 (pl s 0), .int .u64 (pl s 1), .int .u64 (pl s 2), .int .u64 (pl s 3), .int .u64 (pl s 4), .int .u64 (pl s 5), .int .u64 (pl s 6), .int .u64 (pl s 7)]] w fun e w' => e = .returned (.tuple #[.string ⟨(wrXM (K, p, s)).1.toArray⟩, .int .i64 (wrXM (K, p, s)).2]) ∧ Below w.heap.size w w' := by
 have HSW : Hid (∀ W, Below w.heap.size w W → Calls Tryz.prog 132 #[.agg #[.int .u64 (pl s 0), .int .u64 (pl s 1), .int .u64 (pl s 2), .int .u64 (pl s 3), .int .u64 (pl s 4), .int .u64 (pl s 5), .int .u64 (pl s 6), .int .u64 (pl s 7)]] W fun e w' => e = .returned (.string ⟨(wrS s).toArray⟩) ∧ Below W.heap.size W w') := Lib.hid fun W hb => solidWrite_n s W ((hT.grow hb) 15 (by omega))
 have HCK := Lib.hid hCK
 clear hCK
 obtain ⟨⟨L, er⟩, hRR⟩ : ∃ x, wrXM (K, p, s) = x := ⟨_, rfl⟩
 have HRR := Lib.hid hRR
 rw [hRR]
 clear hRR
 obtain ⟨i24, hi, hz0, hz1, hz2⟩ := info_parts infoSolid
 have HI24 := Lib.hid (And.intro hi (And.intro hz0 (And.intro hz1 hz2))); clear hi hz0 hz1 hz2
 have HSL : Hid (∀ k, ((List.replicate (k + 1) (1 : Sol)).map solL).flatten = ((List.replicate k (1 : Sol)).map solL).flatten ++ [.int .u64 1, .int .u64 0, .int .u64 0, .int .u64 0, .int .u64 0, .int .u64 0, .int .u64 0, .int .u64 0]) := Lib.hid fun k => by
  rw [List.replicate_succ', List.map_append, List.flatten_append]
  simp only [List.map_cons, List.map_nil, List.flatten_cons, List.flatten_nil, List.append_nil, solL, pl_one0, pl_one1, pl_one2, pl_one3, pl_one4, pl_one5, pl_one6, pl_one7]
 clear hT
 go_enter Tryz.func81, Tryz.ntmps81
 go_wp2_with fail
 go_loopw [8] (fun y wr => ∃ (k : Nat) (u : Value), k ≤ 8 ∧ y = .int .i64 k ∧ Blk wr w.heap.size #[.int .u8 K, .int .i64 p, .int .u64 (pl s 0), .int .u64 (pl s 1), .int .u64 (pl s 2), .int .u64 (pl s 3), .int .u64 (pl s 4), .int .u64 (pl s 5), .int .u64 (pl s 6), .int .u64 (pl s 7)] 46 ∧ Blk wr (w.heap.size + 1) #[.int .u64 1, .int .u64 0, .int .u64 0, .int .u64 0, .int .u64 0, .int .u64 0, .int .u64 0, .int .u64 0, u] 27 ∧ Hid (wr.ownsRow (w.heap.size + 1 + 1) 24 8 u k ((List.replicate k (1 : Sol)).map solL).flatten) ∧ Below w.heap.size w wr) (fun y _ => 8 - (intOf y).toNat)
 case atStart => exact ⟨0, _, by omega, rfl, (by repeat (first | with_reducible assumption | (refine Blk.at _ _ ?_; (simp; done)) | with_reducible refine Blk.alloc ?_ _ | with_reducible refine Blk.drew ?_ | with_reducible refine Blk.rowS ?_ _ | with_reducible refine Blk.rowO ?_ _ (by simp))), (by repeat (first | with_reducible assumption | (refine Blk.at _ _ ?_; (simp; done)) | with_reducible refine Blk.alloc ?_ _ | with_reducible refine Blk.drew ?_ | with_reducible refine Blk.rowS ?_ _ | with_reducible refine Blk.rowO ?_ _ (by simp))), Lib.hid (World.ownsRow_nil _ _ _ _), (by repeat (first | with_reducible exact bel_refl _ | with_reducible assumption | with_reducible refine bel_drewN ?_ _ | with_reducible refine bel_drew ?_ | with_reducible refine bel_alloc ?_ _ | with_reducible refine bel_row ?_ ?_ _ | with_reducible refine bel_set ?_ ?_ _ | refine bel_trans ?_ (by with_reducible assumption) | (simp; done) | (simp; omega)))⟩
 case round =>
  obtain ⟨k, u, hk, rfl, ba, bw, hO, hbel⟩ := hrel
  have cw := bw.cell
  have lw := bw.lt
  by_cases hlt : k < 8
  ·have HB := Lib.hid (And.intro ba (And.intro bw hbel)); clear ba bw hbel
   have hsz := HB.out.2.2.size
   go_wp2_with (first
    | (at_builtin; refine wpList_append_own _ rfl _ _ 25 rfl (w.heap.size + 1 + 1) 24 i24 (.agg #[.int .u64 0, .int .u64 0, .int .u64 0, .int .u64 0, .int .u64 0, .int .u64 0, .int .u64 0, .int .u64 0]) 8 64 Tryz.underlying25 HI24.out.1 HI24.out.2.1 HI24.out.2.2.1 HI24.out.2.2.2 rfl (by decide) _ _ _ rfl (hO.out.alloc _) ⟨wr.heap.size, 0, none⟩ 1 1 [.int .u64 1, .int .u64 0, .int .u64 0, .int .u64 0, .int .u64 0, .int .u64 0, .int .u64 0, .int .u64 0] rfl rfl (cells_new _ _ _) (fun z hz => by simp at hz; rcases hz with rfl | rfl <;> rfl) (by unfold maxLen; omega) (by omega) (by simp; omega) ?_; intro v' w4 hown' hgrow4 hnil4; obtain ⟨g', cap', rfl⟩ := ownsRow_succ hown'; have b4 : Blk w4 (w.heap.size + 1) #[.int .u64 1, .int .u64 0, .int .u64 0, .int .u64 0, .int .u64 0, .int .u64 0, .int .u64 0, .int .u64 0, u] 27 := (hgrow4.block (w.heap.size + 1) (by simp; omega) (fun e => by have := (hO.out.lt _ e.symm).1; omega)).trans (HB.out.2.1.alloc _); have c8 := b4.cell 8; have f8 := b4.free 8; have l8 := b4.lt; have HB4 := Lib.hid b4; have HG4 := Lib.hid hgrow4; have HO4 := Lib.hid hown'; clear b4 hown' hgrow4 hnil4))
   have ha4 : Blk w4 w.heap.size #[.int .u8 K, .int .i64 p, .int .u64 (pl s 0), .int .u64 (pl s 1), .int .u64 (pl s 2), .int .u64 (pl s 3), .int .u64 (pl s 4), .int .u64 (pl s 5), .int .u64 (pl s 6), .int .u64 (pl s 7)] 46 := (HG4.out.block w.heap.size (by simp; omega) (fun e => by have := (hO.out.lt _ e.symm).1; omega)).trans (HB.out.1.alloc _)
   have hB4 : Below w.heap.size w w4 := (bel_alloc HB.out.2.2 _).grown HG4.out (by simp; omega) (fun j hj => by have := (hO.out.lt j hj).1; omega)
   have HX := Lib.hid (And.intro ha4 hB4); clear ha4 hB4
   go_wp2_with fail
   go_roundw
   case rel => exact ⟨k + 1, _, by omega, by go_num, HX.out.1.other (by simp) _, by have := HB4.out.set 8 (.slice (some ⟨g', 0, none⟩) (k + 1) cap'); simpa using this, Lib.hid (by rw [HSL.out]; exact own_setOther HO4.out (by simp) _), HX.out.2.setCell (by simp) _⟩
   case measure => simp [intOf]; omega
  ·have hk8 : k = 8 := by omega
   subst hk8
   have ca := ba.cell
   have la := ba.lt
   have HCC := Lib.hid (HCK.out u wr (own_sl (ls := (List.replicate 8 (1 : Sol)).map solL) (fun r hr => by obtain ⟨i, _, rfl⟩ := List.mem_map.1 hr; rfl) rfl (by rw [List.length_map]; exact hO.out)))
   have HB := Lib.hid (And.intro ba hbel); clear ba bw hbel
   go_wp2_with fail
   refine HCC.out.mono ?_
   rintro e w2 ⟨rfl, hb2⟩
   have hb := bel_trans HB.out.2 hb2
   have ca2 := (HB.out.1.grow hb2).cell
   have la2 := (HB.out.1.grow hb2).lt
   have HB2 := Lib.hid hb; clear hb hb2 ca la cw lw HCC HCK
   cases hf : fitX (K, p, s)
   ·have hm : wrXM (K, p, s) = ([], 1) := by unfold wrXM; rw [hf]; rfl
    have e := HRR.out.symm.trans hm
    have e1 : L = [] := congrArg Prod.fst e
    have e2 : er = 1 := congrArg Prod.snd e
    have HE := Lib.hid (And.intro e1 e2)
    simp only [Bool.false_eq_true, if_false]
    clear hm hf e e1 e2 HRR
    go_wp2_with fail
    exact bodyPost_ret (v := .tuple #[.string ⟨#[]⟩, .int .i64 1]) (by simp [results, Tryz.results81, go_sem]) rfl ⟨by rw [HE.out.1, HE.out.2], HB2.out⟩
   ·have hm : wrXM (K, p, s) = (wrX (K, p, s), 0) := by unfold wrXM; rw [hf]; rfl
    have e := HRR.out.symm.trans hm
    have e1 : L = wrX (K, p, s) := congrArg Prod.fst e
    have e2 : er = 0 := congrArg Prod.snd e
    have HE := Lib.hid (And.intro e1 e2)
    simp only [if_true]
    clear e e1 e2 HRR
    rcases fitX_cases hf with ⟨h1, h2, h3⟩ | ⟨h1, h2, h3⟩ <;> simp only at h1 h2 h3
    ·subst h1 h2
     have HR : Hid ((⟨#[99, 117, 116, 32]⟩ : ByteArray) ++ ⟨(wrS s).toArray⟩ = ⟨(wrX (1, 0, s)).toArray⟩) := Lib.hid (bytes_cat [99, 117, 116, 32] (wrS s))
     have hwl : (⟨(wrS s).toArray⟩ : ByteArray).size ≤ 144 := wrS_len s
     obtain ⟨A, hA⟩ : ∃ A : ByteArray, A = ⟨(wrS s).toArray⟩ := ⟨_, rfl⟩
     rw [← hA] at HSW HR hwl
     clear hm hf h3 hA
     go_wp2_with fail
     refine (HSW.out w2 HB2.out).mono ?_
     rintro e w3 ⟨rfl, hb3⟩
     have HB3 := Lib.hid (bel_trans HB2.out hb3); clear hb3
     go_wp2_with fail
     exact bodyPost_ret (v := .tuple #[.string ((⟨#[99, 117, 116, 32]⟩ : ByteArray) ++ A), .int .i64 0]) (by simp [results, Tryz.results81, go_sem]) rfl ⟨by rw [HE.out.1, HE.out.2, HR.out], HB3.out⟩
    ·obtain ⟨q, rfl⟩ : ∃ q : Nat, p = q := ⟨p.toNat, by omega⟩
     have hq : q < 8 := by omega
     have HIT : Hid (∀ W, Calls Tryz.prog 133 #[.int .i64 (q : Int)] W fun e w' => e = .returned (.string ⟨#[digX q]⟩) ∧ w' = W) := Lib.hid fun W => by
      have := Tryz.strconv_Itoa_small q (by omega) W
      rw [show Lib.decDigits q = [digX q] by rw [Lib.decDigits, dif_pos (by omega)]; rfl] at this
      exact this
     rcases h1 with rfl | rfl
     ·have HR : Hid ((⟨#[102, 105, 116, 32]⟩ : ByteArray) ++ ⟨#[digX q]⟩ = ⟨(wrX (2, (q : Int), s)).toArray⟩) := Lib.hid (bytes_cat [102, 105, 116, 32] [digX q])
      obtain ⟨d, hd⟩ : ∃ d, d = digX (q : Int) := ⟨_, rfl⟩
      rw [← hd] at HIT HR
      clear hm hf h2 h3 hd
      go_wp2_with fail
      refine (HIT.out w2).mono ?_
      rintro e w3 ⟨rfl, hw3⟩
      have hw4 := hw3.symm
      subst hw4
      clear hw3
      go_wp2_with fail
      exact bodyPost_ret (v := .tuple #[.string ((⟨#[102, 105, 116, 32]⟩ : ByteArray) ++ ⟨#[d]⟩), .int .i64 0]) (by simp [results, Tryz.results81, go_sem]) rfl ⟨by rw [HE.out.1, HE.out.2, HR.out], HB2.out⟩
     ·have HR : Hid ((⟨#[116, 97, 107, 101, 32]⟩ : ByteArray) ++ ⟨#[digX q]⟩ = ⟨(wrX (3, (q : Int), s)).toArray⟩) := Lib.hid (bytes_cat [116, 97, 107, 101, 32] [digX q])
      obtain ⟨d, hd⟩ : ∃ d, d = digX (q : Int) := ⟨_, rfl⟩
      rw [← hd] at HIT HR
      clear hm hf h2 h3 hd
      go_wp2_with fail
      refine (HIT.out w2).mono ?_
      rintro e w3 ⟨rfl, hw3⟩
      have hw4 := hw3.symm
      subst hw4
      clear hw3
      go_wp2_with fail
      exact bodyPost_ret (v := .tuple #[.string ((⟨#[116, 97, 107, 101, 32]⟩ : ByteArray) ++ ⟨#[d]⟩), .int .i64 0]) (by simp [results, Tryz.results81, go_sem]) rfl ⟨by rw [HE.out.1, HE.out.2, HR.out], HB2.out⟩
end Go.Proofs.YtccnkebkgegohaaGreatDoor.Ln
end
section
namespace Go.Proofs.YtccnkebkgegohaaGreatDoor.Ln
open Go.RowKit Go.Rel Go.Draw Go.Solid
set_option maxRecDepth 100000
/-! a line taken apart, and what it is read as (plain) -/
def atoiX (l : List UInt8) : Int := match Lib.atoiAll l with
 | .ok v => v
 | .range => Lib.atoiSat l
 | _ => 0
abbrev wordsX : List ByteArray := [⟨#[]⟩, ⟨#[99, 117, 116]⟩, ⟨#[102, 105, 116]⟩, ⟨#[116, 97, 107, 101]⟩]
def wordX (l : List UInt8) : List UInt8 := (Lib.cut l [32]).1
def restX (l : List UInt8) : List UInt8 := (Lib.cut l [32]).2.1
def idxX (l : List UInt8) : Int := Lib.idxOfS wordsX ⟨(wordX l).toArray⟩
def kindX (l : List UInt8) : Nat := (max 0 (idxX l)).toNat
def pX (l : List UInt8) : Ax := if kindX l = 1 then (1, 0, (readM (restX l)).1) else (kindX l, atoiX (restX l), 0)
theorem idxX_cases (l : List UInt8) : idxX l = -1 ∨ idxX l = 0 ∨ idxX l = 1 ∨ idxX l = 2 ∨ idxX l = 3 := by
 unfold idxX Lib.idxOfS
 simp only [wordsX, Lib.idxFromS]
 split
 ·exact .inr (.inl rfl)
 ·split
  ·exact .inr (.inr (.inl rfl))
  ·split
   ·exact .inr (.inr (.inr (.inl rfl)))
   ·split
    ·exact .inr (.inr (.inr (.inr rfl)))
    ·exact .inl rfl
theorem idx_space (a b c : UInt8) (t : List UInt8) (ha : a ≠ 32) (hb : b ≠ 32) (hc : c ≠ 32) : Lib.index (a :: b :: c :: 32 :: t) [32] = 3 := by
 have h0 : Lib.index (32 :: t) [32] = 0 := by unfold Lib.index; rw [if_pos (by simp [List.isPrefixOf])]
 have h1 : Lib.index (c :: 32 :: t) [32] = 1 := by
  unfold Lib.index
  rw [if_neg (by simp [List.isPrefixOf]; exact fun e => hc e.symm), h0, if_neg (by simp)]; rfl
 have h2 : Lib.index (b :: c :: 32 :: t) [32] = 2 := by
  unfold Lib.index
  rw [if_neg (by simp [List.isPrefixOf]; exact fun e => hb e.symm), h1, if_neg (by simp)]; rfl
 unfold Lib.index
 rw [if_neg (by simp [List.isPrefixOf]; exact fun e => ha e.symm), h2, if_neg (by simp)]; rfl
theorem cut_space (a b c : UInt8) (t : List UInt8) (ha : a ≠ 32) (hb : b ≠ 32) (hc : c ≠ 32) : Lib.cut (a :: b :: c :: 32 :: t) [32] = ([a, b, c], t, true) := by
 unfold Lib.cut
 rw [idx_space a b c t ha hb hc, if_pos (by decide)]
 rfl
theorem idx_cut : Lib.idxOfS wordsX ⟨([99, 117, 116] : List UInt8).toArray⟩ = 1 := by decide +kernel
theorem pX_take : ∀ q : Fin 8, wordX [116, 97, 107, 101, 32, digX ((q.val : Nat) : Int)] = [116, 97, 107, 101] ∧ restX [116, 97, 107, 101, 32, digX ((q.val : Nat) : Int)] = [digX ((q.val : Nat) : Int)] ∧ atoiX [digX ((q.val : Nat) : Int)] = ((q.val : Nat) : Int) := by decide +kernel
theorem pX_fit : ∀ q : Fin 8, wordX [102, 105, 116, 32, digX ((q.val : Nat) : Int)] = [102, 105, 116] ∧ restX [102, 105, 116, 32, digX ((q.val : Nat) : Int)] = [digX ((q.val : Nat) : Int)] := by decide +kernel
theorem idx_fit : Lib.idxOfS wordsX ⟨([102, 105, 116] : List UInt8).toArray⟩ = 2 := by decide +kernel
theorem idx_take : Lib.idxOfS wordsX ⟨([116, 97, 107, 101] : List UInt8).toArray⟩ = 3 := by decide +kernel
theorem pX_wr {a : Ax} (ha : fitX a = true) : pX (wrX a) = a := by
 obtain ⟨K, p, s⟩ := a
 rcases fitX_cases ha with ⟨h1, h2, h3⟩ | ⟨h1, h2, h3⟩ <;> simp only at h1 h2 h3
 ·subst h1 h2
  have hc : Lib.cut (wrX (1, 0, s)) [32] = ([99, 117, 116], wrS s, true) := cut_space 99 117 116 (wrS s) (by decide) (by decide) (by decide)
  have hk : kindX (wrX (1, 0, s)) = 1 := by
   unfold kindX idxX wordX
   rw [hc]
   show (max 0 (Lib.idxOfS wordsX ⟨([99, 117, 116] : List UInt8).toArray⟩)).toNat = 1
   rw [idx_cut]; rfl
  unfold pX
  rw [if_pos hk]
  unfold restX
  rw [hc]
  show ((1 : Nat), (0 : Int), (readM (wrS s)).1) = _
  rw [readM_wr]
 ·subst h3
  obtain ⟨q, rfl⟩ : ∃ q : Nat, p = q := ⟨p.toNat, by omega⟩
  have hq : q < 8 := by omega
  rcases h1 with rfl | rfl
  ·obtain ⟨g1, g2⟩ := pX_fit ⟨q, hq⟩
   obtain ⟨_, _, g3⟩ := pX_take ⟨q, hq⟩
   have hk : kindX (wrX (2, (q : Int), 0)) = 2 := by
    unfold kindX idxX
    rw [show wordX (wrX (2, (q : Int), 0)) = [102, 105, 116] from g1]
    rw [idx_fit]; rfl
   unfold pX
   rw [hk, if_neg (by decide), show restX (wrX (2, (q : Int), 0)) = [digX (q : Int)] from g2]
   rw [show atoiX [digX (q : Int)] = (q : Int) from g3]
  ·obtain ⟨g1, g2, g3⟩ := pX_take ⟨q, hq⟩
   have hk : kindX (wrX (3, (q : Int), 0)) = 3 := by
    unfold kindX idxX
    rw [show wordX (wrX (3, (q : Int), 0)) = [116, 97, 107, 101] from g1]
    rw [idx_take]; rfl
   unfold pX
   rw [hk, if_neg (by decide), show restX (wrX (3, (q : Int), 0)) = [digX (q : Int)] from g2]
   rw [show atoiX [digX (q : Int)] = (q : Int) from g3]
theorem wrXM_ok {a : Ax} {l : List UInt8} (h : wrXM a = (l, 0)) : fitX a = true ∧ wrX a = l := by
 unfold wrXM at h
 split at h
 ·next hf => exact ⟨hf, congrArg Prod.fst h⟩
 ·have := congrArg Prod.snd h
  cases this
theorem read_yes {l : List UInt8} {a : Ax} (h : wrXM a = (l, 0)) : rdX l = (a, 0) := by
 obtain ⟨h1, h2⟩ := wrXM_ok h
 rw [← h2]; exact rdX_wr h1
theorem read_not {l : List UInt8} (h : wrXM (pX l) ≠ (l, 0)) : rdX l = ((0, 0, 0), 4) := rdX_no fun a h1 h2 => by
 refine h ?_
 rw [← h2, pX_wr h1]
 unfold wrXM
 rw [h1]; rfl
theorem rest_len (l : List UInt8) : (restX l).length ≤ l.length := by
 unfold restX Lib.cut
 split
 ·simp only [List.length_drop]; omega
 ·simp
end Go.Proofs.YtccnkebkgegohaaGreatDoor.Ln
end
