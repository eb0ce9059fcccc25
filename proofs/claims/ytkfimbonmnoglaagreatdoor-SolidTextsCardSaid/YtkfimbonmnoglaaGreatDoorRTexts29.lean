import Derived.Test.YtkfimbonmnoglaaGreatDoorRTexts28
import Derived.Deep.Cut
import Derived.Lib.SplitLaws
/-
  Given contracts of functions of the program, and laws for them, one behind the other.
-/
set_option linter.unusedVariables false
set_option linter.unusedSimpArgs false
set_option linter.unusedSectionVars false
section
namespace Go.Proofs.YtkfimbonmnoglaaGreatDoor
open Go.RowKit Go.Rel Go.Draw Go.Solid
set_option maxRecDepth 100000
theorem plv_mkS (f : Nat → U) {k : Nat} (hk : k < 8) : plv (mkS f) k = f k := by
 apply BitVec.eq_of_getLsbD_eq
 intro i hi
 rw [plv_bit' _ _ hi, mkS_bit _ hk hi]
/-- a digit, as the reference reads it -/
def digV (c : UInt8) : Nat × Bool := if 48 ≤ c.toNat ∧ c.toNat ≤ 57 then (c.toNat - 48, true) else ((c.toNat + 159) % 256 + 10, decide (97 ≤ c.toNat ∧ c.toNat ≤ 102))
theorem digV_hex : ∀ r : Fin 16, digV (hexD r.val) = (r.val, true) ∧ hexD r.val ≠ 46 := by decide +kernel
def setP (s : Sol) (z v : Nat) : Sol := mkS fun k => if k = z then BitVec.ofNat 64 v else plv s k
theorem plN_setP (s : Sol) {z k : Nat} (v : Nat) (hk : k < 8) (hv : v < 18446744073709551616) : plN (setP s z v) k = if k = z then v else plN s k := by
 unfold plN setP
 rw [plv_mkS _ hk]
 split
 ·rw [BitVec.toNat_ofNat]; omega
 ·rfl
theorem sol_planes {a b : Sol} (h : ∀ k, k < 8 → plN a k = plN b k) : a = b := sol_ext fun k hk => BitVec.eq_of_toNat_eq (h k hk)
/-- a byte read -/
def rdB : Option (Nat × Sol) → UInt8 → Option (Nat × Sol)
 | none, _ => none
 | some (z, s), c => if c = 46 then some (z + 1, s) else if (digV c).2 = false ∨ 7 < z ∨ 1152921504606846976 ≤ plN s z then none else some (z, setP s z (16 * plN s z + (digV c).1))
def rdF (l : List UInt8) : Option (Nat × Sol) := l.foldl rdB (some (0, 0))
theorem rdB_none : ∀ l : List UInt8, l.foldl rdB none = none
 | [] => rfl
 | c :: l => by rw [List.foldl_cons]; exact rdB_none l
theorem rdB_dig {z : Nat} {s : Sol} {r : Nat} (hr : r < 16) (hz : z < 8) (h : plN s z < 1152921504606846976) : rdB (some (z, s)) (hexD r) = some (z, setP s z (16 * plN s z + r)) := by
 obtain ⟨h1, h2⟩ := digV_hex ⟨r, hr⟩
 simp only at h1 h2
 show (if hexD r = 46 then some (z + 1, s) else if (digV (hexD r)).2 = false ∨ 7 < z ∨ 1152921504606846976 ≤ plN s z then none else some (z, setP s z (16 * plN s z + (digV (hexD r)).1))) = _
 rw [if_neg h2, h1, if_neg]
 rintro (h3 | h3 | h3)
 ·cases h3
 ·omega
 ·omega
/-- a number read into an empty plane -/
theorem rd_hex (z : Nat) (hz : z < 8) : ∀ (n u : Nat) (s : Sol), u < 16 ^ (n + 1) → u < 18446744073709551616 → plN s z = 0 → (hexS u).foldl rdB (some (z, s)) = some (z, setP s z u) := by
 intro n
 induction n with
 | zero =>
  intro u s h _ h0
  have hu : u < 16 := by simpa using h
  rw [hexS_small hu, List.foldl_cons, List.foldl_nil, rdB_dig hu hz (by rw [h0]; decide), h0]
  simp
 | succ n ih =>
  intro u s h h64 h0
  by_cases hs : u < 16
  ·rw [hexS_small hs, List.foldl_cons, List.foldl_nil, rdB_dig hs hz (by rw [h0]; decide), h0]
   simp
  ·have h1 : u / 16 < 16 ^ (n + 1) := by rw [Nat.pow_succ] at h; omega
   have e1 : plN (setP s z (u / 16)) z = u / 16 := by rw [plN_setP s _ hz (by omega), if_pos rfl]
   rw [hexS_step (by omega) h64, List.foldl_append, ih (u / 16) s h1 (by omega) h0, List.foldl_cons, List.foldl_nil, rdB_dig (Nat.mod_lt _ (by decide)) hz (by rw [e1]; omega), e1]
   refine congrArg some (Prod.ext rfl (sol_planes fun k hk => ?_))
   show plN (setP (setP s z (u / 16)) z (16 * (u / 16) + u % 16)) k = plN (setP s z u) k
   rw [plN_setP _ _ hk (by omega), plN_setP _ _ hk h64, plN_setP _ _ hk (by omega)]
   split
   ·omega
   ·rfl
/-- the planes up to one -/
def upP (s : Sol) (k : Nat) : Sol := mkS fun j => if j ≤ k then plv s j else 0
theorem plN_upP (s : Sol) (k : Nat) {j : Nat} (hj : j < 8) : plN (upP s k) j = if j ≤ k then plN s j else 0 := by
 unfold plN upP
 rw [plv_mkS _ hj]
 split <;> rfl
theorem plN_zero (k : Nat) : plN (0 : Sol) k = 0 := by
 unfold plN plv
 simp
theorem rd_planes (s : Sol) : ∀ k, k < 8 → rdF (wrP s k) = some (k, upP s k) := by
 intro k
 induction k with
 | zero =>
  intro _
  show (hexS (plN s 0)).foldl rdB (some (0, 0)) = _
  rw [rd_hex 0 (by decide) 15 (plN s 0) 0 (by have := plN_lt s 0; omega) (plN_lt s 0) (plN_zero 0)]
  refine congrArg some (Prod.ext rfl (sol_planes fun j hj => ?_))
  show plN (setP 0 0 (plN s 0)) j = plN (upP s 0) j
  rw [plN_setP _ _ hj (plN_lt s 0), plN_upP s 0 hj, plN_zero]
  by_cases h : j = 0
  ·subst h; simp
  ·rw [if_neg h, if_neg (by omega)]
 | succ k ih =>
  intro hk
  have e : wrP s (k + 1) = wrP s k ++ 46 :: hexS (plN s (k + 1)) := rfl
  have e2 : rdF (wrP s k ++ 46 :: hexS (plN s (k + 1))) = (hexS (plN s (k + 1))).foldl rdB (some (k + 1, upP s k)) := by
   unfold rdF
   rw [List.foldl_append, List.foldl_cons]
   have h1 : (wrP s k).foldl rdB (some (0, 0)) = some (k, upP s k) := ih (by omega)
   rw [h1]
   rfl
  rw [e, e2, rd_hex (k + 1) hk 15 (plN s (k + 1)) (upP s k) (by have := plN_lt s (k + 1); omega) (plN_lt s (k + 1)) (by rw [plN_upP s k hk, if_neg (by omega)])]
  refine congrArg some (Prod.ext rfl (sol_planes fun j hj => ?_))
  show plN (setP (upP s k) (k + 1) (plN s (k + 1))) j = plN (upP s (k + 1)) j
  rw [plN_setP _ _ hj (plN_lt s (k + 1)), plN_upP s k hj, plN_upP s (k + 1) hj]
  by_cases h : j = k + 1
  ·subst h; rw [if_pos rfl, if_pos (Nat.le_refl _)]
  ·by_cases h2 : j ≤ k
   ·rw [if_neg h, if_pos h2, if_pos (by omega)]
   ·rw [if_neg h, if_neg h2, if_neg (by omega)]
theorem lastP_zero (s : Sol) : ∀ (m j : Nat), lastP s m < j → j < m → plN s j = 0
 | 0, j, _, h => by omega
 | m + 1, j, h1, h2 => by
  unfold lastP at h1
  split at h1
  ·rename_i h0
   by_cases e : j = m
   ·rw [e]; exact h0
   ·exact lastP_zero s m j h1 (by omega)
  ·omega
/-- what is written is read -/
theorem rd_wr (s : Sol) : rdF (wrS s) = some (lastP s 8, s) := by
 have h := lastP_seven s
 unfold wrS
 rw [rd_planes s _ (by omega)]
 refine congrArg some (Prod.ext rfl (sol_planes fun j hj => ?_))
 show plN (upP s (lastP s 8)) j = plN s j
 rw [plN_upP s _ hj]
 by_cases h2 : j ≤ lastP s 8
 ·rw [if_pos h2]
 ·rw [if_neg h2, lastP_zero s 8 j (by omega) hj]
theorem wrS_len (s : Sol) : (wrS s).length ≤ 144 := by
 have h1 := wrP_len s (lastP s 8)
 have h2 := lastP_seven s
 unfold wrS
 omega
/-- what Read answers -/
def readM (l : List UInt8) : Sol × Int := if l.length ≤ 150 then (match rdF l with
 | some (_, s) => if wrS s = l then (s, 0) else (0, 4)
 | none => (0, 4)) else (0, 4)
theorem readM_wr (s : Sol) : readM (wrS s) = (s, 0) := by
 have h := wrS_len s
 unfold readM
 rw [if_pos (by omega), rd_wr s]
 exact if_pos rfl
theorem readM_no {l : List UInt8} (h : ∀ s, wrS s ≠ l) : readM l = (0, 4) := by
 unfold readM
 split
 ·split
  ·rename_i s _
   rw [if_neg (h s)]
  ·rfl
 ·rfl
end Go.Proofs.YtkfimbonmnoglaaGreatDoor
end
section
namespace Go.Proofs.YtkfimbonmnoglaaGreatDoor
open Go.RowKit Go.Rel Go.Draw Go.Solid
set_option maxRecDepth 100000
set_option maxHeartbeats 8000000 in
theorem refDigit_spec (n : Nat) (hn : n < 256) (w : World) : Calls Tryz.prog 119 #[.int .u8 n] w fun e w' => e = .returned (.tuple #[.int .u64 ((digV (UInt8.ofNat n)).1 : Nat), .bool (digV (UInt8.ofNat n)).2]) ∧ Below w.heap.size w w' := by
 have ht : (UInt8.ofNat n).toNat = n := by simp; omega
 have hD : digV (UInt8.ofNat n) = if 48 ≤ n ∧ n ≤ 57 then (n - 48, true) else ((n + 159) % 256 + 10, decide (97 ≤ n ∧ n ≤ 102)) := by unfold digV; rw [ht]
 rw [hD]
 clear ht hD
 by_cases h0 : 48 ≤ n ∧ n ≤ 57
 ·have i1 : (48 : Int) ≤ (n : Int) := by omega
  have i2 : (n : Int) ≤ 57 := by omega
  rw [if_pos h0]
  have e1 : IntKind.u8.wrap ((n : Int) - 48) = ((n - 48 : Nat) : Int) := by rw [IntKind.wrap_u8]; omega
  have e2 : IntKind.u64.wrap (((n - 48 : Nat) : Int)) = ((n - 48 : Nat) : Int) := IntWalk.u64_in _ ⟨by omega, by omega⟩
  obtain ⟨m, hm⟩ : ∃ m, m = n - 48 := ⟨_, rfl⟩
  rw [← hm] at e1 e2 ⊢
  clear hm h0
  go_enter Tryz.func119, Tryz.ntmps119
  go_wp2_with fail
  exact bodyPost_ret (v := .tuple #[.int .u64 (m : Nat), .bool true]) (by simp [results, Tryz.results119, go_sem]) rfl ⟨rfl, Below.refl _ _⟩
 ·rw [if_neg h0]
  have e1 : IntKind.u8.wrap ((n : Int) - 97) = (((n + 159) % 256 : Nat) : Int) := by rw [IntKind.wrap_u8]; omega
  have hlt := Nat.mod_lt (n + 159) (show 0 < 256 by decide)
  obtain ⟨m, hm⟩ : ∃ m, m = (n + 159) % 256 := ⟨_, rfl⟩
  rw [← hm] at e1 hlt ⊢
  have e2 : IntKind.u64.wrap ((m : Nat) : Int) = (m : Int) := IntWalk.u64_in _ ⟨by omega, by omega⟩
  have e3 : IntKind.u64.wrap ((m : Int) + 10) = (m : Int) + 10 := IntWalk.u64_in _ ⟨by omega, by omega⟩
  have hv : (((m + 10 : Nat)) : Int) = (m : Int) + 10 := by omega
  rw [hv]
  clear hv hm hlt
  by_cases h1 : 48 ≤ n
  ·have i1 : (48 : Int) ≤ (n : Int) := by omega
   have i2 : ¬ (n : Int) ≤ 57 := by omega
   by_cases h2 : 97 ≤ n
   ·have i3 : (97 : Int) ≤ (n : Int) := by omega
    by_cases h3 : n ≤ 102
    ·have i4 : (n : Int) ≤ 102 := by omega
     rw [decide_eq_true (And.intro h2 h3)]
     clear h1 h2 h3
     clear h0
     go_enter Tryz.func119, Tryz.ntmps119
     go_wp2_with fail
     exact bodyPost_ret (v := .tuple #[.int .u64 ((m : Int) + 10), .bool true]) (by simp [results, Tryz.results119, go_sem]) rfl ⟨rfl, Below.refl _ _⟩
    ·have i4 : ¬ (n : Int) ≤ 102 := by omega
     rw [decide_eq_false (fun h => h3 h.2)]
     clear h1 h2 h3
     clear h0
     go_enter Tryz.func119, Tryz.ntmps119
     go_wp2_with fail
     exact bodyPost_ret (v := .tuple #[.int .u64 ((m : Int) + 10), .bool false]) (by simp [results, Tryz.results119, go_sem]) rfl ⟨rfl, Below.refl _ _⟩
   ·have i3 : ¬ (97 : Int) ≤ (n : Int) := by omega
    rw [decide_eq_false (fun h => h2 h.1)]
    clear h1 h2
    clear h0
    go_enter Tryz.func119, Tryz.ntmps119
    go_wp2_with fail
    exact bodyPost_ret (v := .tuple #[.int .u64 ((m : Int) + 10), .bool false]) (by simp [results, Tryz.results119, go_sem]) rfl ⟨rfl, Below.refl _ _⟩
  ·have i1 : ¬ (48 : Int) ≤ (n : Int) := by omega
   have i3 : ¬ (97 : Int) ≤ (n : Int) := by omega
   rw [decide_eq_false (fun h => h1 (by omega))]
   clear h1
   clear h0
   go_enter Tryz.func119, Tryz.ntmps119
   go_wp2_with fail
   exact bodyPost_ret (v := .tuple #[.int .u64 ((m : Int) + 10), .bool false]) (by simp [results, Tryz.results119, go_sem]) rfl ⟨rfl, Below.refl _ _⟩
end Go.Proofs.YtkfimbonmnoglaaGreatDoor
end
section
namespace Go.Proofs.YtkfimbonmnoglaaGreatDoor
open Go.RowKit Go.Rel Go.Draw Go.Solid
set_option maxRecDepth 100000
abbrev Z8a : Array Value := #[.int .u64 0, .int .u64 0, .int .u64 0, .int .u64 0, .int .u64 0, .int .u64 0, .int .u64 0, .int .u64 0]
theorem rdB_dot {z : Nat} {s : Sol} {c : UInt8} (h : c.toNat = 46) : rdB (some (z, s)) c = some (z + 1, s) := by
 have hc : c = 46 := by
  have : c.toNat = (46 : UInt8).toNat := h
  exact UInt8.toNat_inj.1 this
 exact if_pos hc
theorem rdB_bad {z : Nat} {s : Sol} {c : UInt8} (h : c.toNat ≠ 46) (k : (digV c).2 = false ∨ 7 < z ∨ 1152921504606846976 ≤ plN s z) : rdB (some (z, s)) c = none := by
 show (if c = 46 then some (z + 1, s) else if (digV c).2 = false ∨ 7 < z ∨ 1152921504606846976 ≤ plN s z then none else some (z, setP s z (16 * plN s z + (digV c).1))) = _
 rw [if_neg (fun e => h (by rw [e]; rfl)), if_pos k]
theorem rdB_ok {z : Nat} {s : Sol} {c : UInt8} (h : c.toNat ≠ 46) (k1 : (digV c).2 = true) (k2 : z ≤ 7) (k3 : plN s z < 1152921504606846976) : rdB (some (z, s)) c = some (z, setP s z (16 * plN s z + (digV c).1)) := by
 show (if c = 46 then some (z + 1, s) else if (digV c).2 = false ∨ 7 < z ∨ 1152921504606846976 ≤ plN s z then none else some (z, setP s z (16 * plN s z + (digV c).1))) = _
 rw [if_neg (fun e => h (by rw [e]; rfl)), if_neg]
 rintro (h3 | h3 | h3)
 ·rw [k1] at h3; cases h3
 ·omega
 ·omega
theorem digV_lt {c : UInt8} (h : (digV c).2 = true) : (digV c).1 < 16 := by
 have hc := c.toNat_lt
 unfold digV at h ⊢
 split
 ·simp only; omega
 ·rename_i h1
  rw [if_neg h1] at h
  have h2 := of_decide_eq_true h
  simp only
  omega
theorem readM_bad {l : List UInt8} {i : Nat} (h : (l.take i).foldl rdB (some (0, 0)) = none) : readM l = (0, 4) := by
 have h1 : rdF l = none := by
  unfold rdF
  rw [← List.take_append_drop i l, List.foldl_append, h]
  exact rdB_none _
 unfold readM
 split
 ·rw [h1]
 ·rfl
theorem cells_setP (s : Sol) {z v : Nat} (hz : z < 8) (hv : v < 18446744073709551616) : (#[.int .u64 (pl s 0), .int .u64 (pl s 1), .int .u64 (pl s 2), .int .u64 (pl s 3), .int .u64 (pl s 4), .int .u64 (pl s 5), .int .u64 (pl s 6), .int .u64 (pl s 7)] : Array Value).setIfInBounds z (.int .u64 ((v : Nat) : Int)) = #[.int .u64 (pl (setP s z v) 0), .int .u64 (pl (setP s z v) 1), .int .u64 (pl (setP s z v) 2), .int .u64 (pl (setP s z v) 3), .int .u64 (pl (setP s z v) 4), .int .u64 (pl (setP s z v) 5), .int .u64 (pl (setP s z v) 6), .int .u64 (pl (setP s z v) 7)] := by
 have hp : ∀ k, k < 8 → pl (setP s z v) k = if k = z then ((v : Nat) : Int) else pl s k := fun k hk => by
  rw [pl_plN, plN_setP s v hk hv]
  split
  ·rfl
  ·rw [pl_plN]
 rw [hp 0 (by decide), hp 1 (by decide), hp 2 (by decide), hp 3 (by decide), hp 4 (by decide), hp 5 (by decide), hp 6 (by decide), hp 7 (by decide)]
 obtain rfl | rfl | rfl | rfl | rfl | rfl | rfl | rfl : z = 0 ∨ z = 1 ∨ z = 2 ∨ z = 3 ∨ z = 4 ∨ z = 5 ∨ z = 6 ∨ z = 7 := by omega
 all_goals simp [Array.setIfInBounds]
theorem rd_take {l : List UInt8} {i : Nat} {c : UInt8} (h : l[i]? = some c) : (l.take (i + 1)).foldl rdB (some (0, 0)) = rdB ((l.take i).foldl rdB (some (0, 0))) c := by
 rw [List.take_add_one, h, List.foldl_append]; rfl
attribute [local irreducible] rdB rdF readM wrS plN setP digV
set_option maxHeartbeats 8000000 in
theorem refRead_n (l : List UInt8) (hl : l.length ≤ 200) (w : World) : Calls Tryz.prog 49 #[.string ⟨l.toArray⟩] w fun e w' => e = .returned (.tuple #[solV (readM l).1, .int .i64 (readM l).2]) ∧ Below w.heap.size w w' := by
 obtain ⟨n, hn⟩ : ∃ n, n = l.length := ⟨_, rfl⟩
 have hsz : (⟨l.toArray⟩ : ByteArray).size = n := by rw [hn]; rfl
 have hl2 : n ≤ 200 := by omega
 have HN := Lib.hid hn
 have HZV := Lib.hid zero_solV
 have HIX : Hid (∀ (i : Nat) (c : UInt8), l[i]? = some c → ∀ W, (Instr.index 9 (.string ⟨l.toArray⟩) (.int .i64 (i : Int))).run Tryz.prog W = .ok (.int .u8 ((c.toNat : Nat) : Int)) W) := Lib.hid (fun i c hc W => by
  obtain ⟨h1, h2⟩ := List.getElem?_eq_some_iff.1 hc
  have hb : (0 : Int) ≤ (i : Int) ∧ (i : Int) < ((⟨l.toArray⟩ : ByteArray).size : Int) := ⟨by omega, by show (i : Int) < (l.length : Int); omega⟩
  rw [run_index_string (P := Tryz.prog) (w := W) 9 (⟨l.toArray⟩ : ByteArray) .i64 (i : Int) Tryz.underlying9, dif_pos hb]
  have h3 : ((⟨l.toArray⟩ : ByteArray)[((i : Int)).toNat]'(by show ((i : Int)).toNat < l.length; rw [Int.toNat_natCast]; exact h1)) = c := h2
  rw [h3])
 obtain ⟨B, hB⟩ : ∃ B : ByteArray, B = ⟨l.toArray⟩ := ⟨_, rfl⟩
 rw [← hB] at hsz HIX ⊢
 have HBB := Lib.hid hB
 clear hn hl hB
 go_enter Tryz.func49, Tryz.ntmps49
 go_wp2_with fail
 obtain ⟨W0, hW0⟩ : ∃ W0, W0 = (w.alloc (.cells Z8a 26)).alloc (.cells Z8a 26) := ⟨_, rfl⟩
 have HB : Hid (Blk W0 w.heap.size Z8a 26 ∧ Blk W0 (w.heap.size + 1) #[.int .u64 (pl (0 : Sol) 0), .int .u64 (pl (0 : Sol) 1), .int .u64 (pl (0 : Sol) 2), .int .u64 (pl (0 : Sol) 3), .int .u64 (pl (0 : Sol) 4), .int .u64 (pl (0 : Sol) 5), .int .u64 (pl (0 : Sol) 6), .int .u64 (pl (0 : Sol) 7)] 26 ∧ Below w.heap.size w W0) := Lib.hid (by rw [hW0, zero_sols]; exact ⟨(by repeat (first | with_reducible assumption | (refine Blk.at _ _ ?_; (simp; done)) | with_reducible refine Blk.alloc ?_ _ | with_reducible refine Blk.drew ?_ | with_reducible refine Blk.rowS ?_ _ | with_reducible refine Blk.rowO ?_ _ (by simp))), Blk.at _ _ (by simp), (by repeat (first | with_reducible exact bel_refl _ | with_reducible assumption | with_reducible refine bel_drewN ?_ _ | with_reducible refine bel_drew ?_ | with_reducible refine bel_alloc ?_ _ | with_reducible refine bel_row ?_ ?_ _ | with_reducible refine bel_set ?_ ?_ _ | refine bel_trans ?_ (by with_reducible assumption) | (simp; done) | (simp; omega)))⟩)
 rw [← hW0]
 clear hW0
 go_loopw [5, 6] (fun zv iv wx => ∃ (i z : Nat) (s : Sol), i ≤ n ∧ iv = .int .i64 i ∧ zv = .int .i64 z ∧ z ≤ i ∧ Hid ((l.take i).foldl rdB (some (0, 0)) = some (z, s) ∧ (150 < n → i = 0) ∧ Blk wx w.heap.size Z8a 26 ∧ Blk wx (w.heap.size + 1) #[.int .u64 (pl s 0), .int .u64 (pl s 1), .int .u64 (pl s 2), .int .u64 (pl s 3), .int .u64 (pl s 4), .int .u64 (pl s 5), .int .u64 (pl s 6), .int .u64 (pl s 7)] 26 ∧ Below w.heap.size w wx)) (fun _ iv _ => n - (intOf iv).toNat)
 case atStart => exact ⟨0, 0, 0, by omega, rfl, rfl, Nat.le_refl _, Lib.hid ⟨rfl, fun _ => rfl, HB.out⟩⟩
 case round =>
  clear HB
  obtain ⟨i, z, s, hi, rfl, rfl, hzi, HM⟩ := hrel
  by_cases hlt : i < n ∧ n ≤ 150
  ·obtain ⟨h1, h2⟩ := hlt
   obtain ⟨c, hc⟩ : ∃ c, l[i]? = some c := ⟨_, List.getElem?_eq_getElem (by rw [← HN.out]; exact h1)⟩
   have hix := HIX.out i c hc
   have HCC := Lib.hid hc
   have hiI : (i : Int) < (n : Int) := by omega
   have hnI : (n : Int) ≤ 150 := by omega
   have hu := c.toNat_lt
   obtain ⟨u, huc⟩ : ∃ u, u = c.toNat := ⟨_, rfl⟩
   rw [← huc] at hix hu
   have HU := Lib.hid huc
   clear hc huc
   by_cases h46 : u = 46
   ·have hui : (u : Int) = 46 := by omega
    go_wp2_with fail
    have hst := rd_take HCC.out
    rw [HM.out.1, rdB_dot (by rw [← HU.out]; exact h46)] at hst
    refine ⟨⟨i + 1, z + 1, s, by omega, by rfl, by rfl, by omega, Lib.hid ⟨hst, fun h => by omega, HM.out.2.2⟩⟩, ?_⟩
    simp [intOf]; omega
   ·have hui : ¬ (u : Int) = 46 := by omega
    have HU46 : Hid (c.toNat ≠ 46) := Lib.hid (by rw [← HU.out]; exact h46)
    have HDg := Lib.hid fun W => refDigit_spec u hu W
    have hcu : UInt8.ofNat u = c := by rw [HU.out]; simp
    rw [hcu] at HDg
    obtain ⟨⟨D, ok⟩, hD⟩ : ∃ x, x = digV c := ⟨_, rfl⟩
    rw [← hD] at HDg
    have HDD := Lib.hid hD
    clear hcu hD h46
    go_wp2_with fail
    refine (HDg.out _).mono ?_
    rintro e w4 ⟨rfl, hb⟩
    have HM4 := Lib.hid (And.intro (HM.out.2.2.1.grow hb) (And.intro (HM.out.2.2.2.1.grow hb) (bel_trans HM.out.2.2.2.2 hb)))
    clear hb
    cases ok with
    | false =>
     have HRM : Hid (readM l = (0, 4)) := Lib.hid (readM_bad (i := i + 1) ((rd_take HCC.out).trans (by rw [HM.out.1]; exact rdB_bad HU46.out (.inl (by rw [← HDD.out])))))
     have k2 := HM4.out.1
     have r2 := k2.row; have l2 := k2.lt
     have cF := (k2.rowS Z8a).cell
     have hb5 := bel_row HM4.out.2.2 (g := w.heap.size) (Nat.le_refl _) Z8a
     rw [← k2.rw]
     clear k2
     go_wp2_with fail
     exact bodyPost_ret (v := .tuple #[solV 0, .int .i64 4]) (by rw [HZV.out]; simp [results, Tryz.results49, go_sem, cF]) rfl ⟨by rw [HRM.out], hb5⟩
    | true =>
     by_cases hz7 : z ≤ 7
     ·have hzI : ¬ (7 : Int) < (z : Int) := by omega
      have hz8 : (z : Int) < 8 := by omega
      obtain ⟨p, hp⟩ : ∃ p, p = plN s z := ⟨_, rfl⟩
      have HP := Lib.hid hp
      have hgz : (#[.int .u64 (pl s 0), .int .u64 (pl s 1), .int .u64 (pl s 2), .int .u64 (pl s 3), .int .u64 (pl s 4), .int .u64 (pl s 5), .int .u64 (pl s 6), .int .u64 (pl s 7)] : Array Value)[z]? = some (.int .u64 ((p : Nat) : Int)) := by rw [hp, ← pl_plN]; exact getZ s (by omega)
      have HGZ := Lib.hid hgz
      clear hp hgz
      by_cases hp60 : 1152921504606846976 ≤ p
      ·have hpI : (1152921504606846976 : Int) ≤ (p : Int) := by omega
       have kk := HM4.out.2.1.rowO (g := w.heap.size) Z8a (by omega)
       have cz : (w4.setRow w.heap.size Z8a).cell? ⟨w.heap.size + 1, z, none⟩ = some (.int .u64 ((p : Nat) : Int)) := by rw [kk.cell]; exact HGZ.out
       have lz := kk.lt
       clear kk
       have HRM : Hid (readM l = (0, 4)) := Lib.hid (readM_bad (i := i + 1) ((rd_take HCC.out).trans (by rw [HM.out.1]; exact rdB_bad HU46.out (.inr (.inr (by rw [← HP.out]; exact hp60))))))
       have k2 := HM4.out.1
       have r2 := k2.row; have l2 := k2.lt
       have cF := (k2.rowS Z8a).cell
       have hb5 := bel_row HM4.out.2.2 (g := w.heap.size) (Nat.le_refl _) Z8a
       rw [← k2.rw]
       clear k2
       go_wp2_with fail
       exact bodyPost_ret (v := .tuple #[solV 0, .int .i64 4]) (by rw [HZV.out]; simp [results, Tryz.results49, go_sem, cF]) rfl ⟨by rw [HRM.out], hb5⟩
      ·have hpB : decide ((1152921504606846976 : Int) ≤ (p : Int)) = false := decide_eq_false (by omega)
       have hpI := Lib.hid hp60
       have cz : w4.cell? ⟨w.heap.size + 1, z, none⟩ = some (.int .u64 ((p : Nat) : Int)) := by rw [HM4.out.2.1.cell]; exact HGZ.out
       have lz := HM4.out.2.1.lt
       have fz := HM4.out.2.1.free z
       have hD16 : D < 16 := by have h := digV_lt (c := c) (by rw [← HDD.out]); rw [← HDD.out] at h; exact h
       obtain ⟨V, hV⟩ : ∃ V, V = 16 * p + D := ⟨_, rfl⟩
       have hVlt : V < 18446744073709551616 := by omega
       have hw1 : IntKind.u64.wrap (16 * (p : Int)) = 16 * (p : Int) := IntWalk.u64_in _ ⟨by omega, by omega⟩
       have hw2 : IntKind.u64.wrap (16 * (p : Int) + (D : Int)) = ((V : Nat) : Int) := by rw [IntWalk.u64_in _ ⟨by omega, by omega⟩]; omega
       have HF : Hid ((l.take (i + 1)).foldl rdB (some (0, 0)) = some (z, setP s z V)) := Lib.hid ((rd_take HCC.out).trans (by rw [HM.out.1, rdB_ok HU46.out (by rw [← HDD.out]) hz7 (by rw [← HP.out]; omega), ← HP.out, ← HDD.out, hV]))
       have HN150 := Lib.hid HM.out.2.1
       obtain ⟨Q, hQ⟩ : ∃ Q, Q = setP s z V := ⟨_, rfl⟩
       rw [← hQ] at HF
       have HB2 : Hid (Blk (w4.setCell ⟨w.heap.size + 1, z, none⟩ (.int .u64 ((V : Nat) : Int))) w.heap.size Z8a 26 ∧ Blk (w4.setCell ⟨w.heap.size + 1, z, none⟩ (.int .u64 ((V : Nat) : Int))) (w.heap.size + 1) #[.int .u64 (pl Q 0), .int .u64 (pl Q 1), .int .u64 (pl Q 2), .int .u64 (pl Q 3), .int .u64 (pl Q 4), .int .u64 (pl Q 5), .int .u64 (pl Q 6), .int .u64 (pl Q 7)] 26 ∧ Below w.heap.size w (w4.setCell ⟨w.heap.size + 1, z, none⟩ (.int .u64 ((V : Nat) : Int)))) := Lib.hid ⟨HM4.out.1.other (by simp) _, by rw [hQ, ← cells_setP s (by omega) hVlt]; exact HM4.out.2.1.set z _, bel_set HM4.out.2.2 (by simp) _⟩
       have hn1 := h1
       clear HM HM4 hQ hV hVlt hD16 hp60
       go_wp2_with fail
       go_roundw
       case rel => exact ⟨i + 1, z, Q, by omega, by go_num, rfl, by omega, Lib.hid ⟨HF.out, fun h => by omega, HB2.out⟩⟩
       case measure => simp [intOf]; omega
     ·have hzI : (7 : Int) < (z : Int) := by omega
      have HRM : Hid (readM l = (0, 4)) := Lib.hid (readM_bad (i := i + 1) ((rd_take HCC.out).trans (by rw [HM.out.1]; exact rdB_bad HU46.out (.inr (.inl (by omega))))))
      have k2 := HM4.out.1
      have r2 := k2.row; have l2 := k2.lt
      have cF := (k2.rowS Z8a).cell
      have hb5 := bel_row HM4.out.2.2 (g := w.heap.size) (Nat.le_refl _) Z8a
      rw [← k2.rw]
      clear k2
      go_wp2_with fail
      exact bodyPost_ret (v := .tuple #[solV 0, .int .i64 4]) (by rw [HZV.out]; simp [results, Tryz.results49, go_sem, cF]) rfl ⟨by rw [HRM.out], hb5⟩
  ·have hcase : (n ≤ 150 ∧ i = n) ∨ (150 < n ∧ i = 0) := by
    by_cases h : n ≤ 150
    ·exact .inl ⟨h, by omega⟩
    ·exact .inr ⟨by omega, HM.out.2.1 (by omega)⟩
   have hno : wrS s ≠ l → readM l = (0, 4) := fun hne => readM_no fun s' e => by
    have h1 := wrS_len s'
    rw [e, ← HN.out] at h1
    have h2 : (l.take i).foldl rdB (some (0, 0)) = some (z, s) := HM.out.1
    have h3 : l.take i = l := List.take_of_length_le (by rw [← HN.out]; omega)
    rw [h3] at h2
    have h2' : rdF l = some (z, s) := by unfold rdF; exact h2
    have h4 := rd_wr s'
    rw [e] at h4
    have h5 : some (lastP s' 8, s') = some (z, s) := h4.symm.trans h2'
    have h6 := congrArg Prod.snd (Option.some.inj h5)
    exact hne (by rw [← e]; exact congrArg wrS h6.symm)
   have hyes : wrS s = l → readM l = (s, 0) := fun e => by rw [← e]; exact readM_wr s
   have HR := Lib.hid (And.intro hno hyes)
   clear hno hyes hlt hzi hl2
   have c4 := HM.out.2.2.2.1.cell; have l4 := HM.out.2.2.2.1.lt
   rcases hcase with ⟨g1, rfl⟩ | ⟨g1, g2⟩
   all_goals
    first | have hnI : ¬ ((n : Int) ≤ 150) := by omega | skip
    first | have hiI : (i : Int) < (n : Int) := by omega | skip
    clear g1
    try clear g2
    go_wp2_with fail
    refine (refWrite_spec s _).mono ?_
    rintro e w5 ⟨rfl, hb5⟩
    have k0 := HM.out.2.2.1.grow hb5
    have k1 := HM.out.2.2.2.1.grow hb5
    have hbw := bel_trans HM.out.2.2.2.2 hb5
    obtain ⟨C, hC⟩ : ∃ C : ByteArray, C = ⟨(wrS s).toArray⟩ := ⟨_, rfl⟩
    rw [← hC]
    have hcb : C = B ↔ wrS s = l := by
     rw [hC, HBB.out]
     constructor
     ·intro h; simpa using congrArg (fun x => x.data.toList) h
     ·intro h; rw [h]
    clear hC hb5 c4 l4
    by_cases he : C = B
    ·have HY := Lib.hid (HR.out.2 (hcb.1 he))
     subst he
     clear hcb
     have kk := k1.rowO (g := w.heap.size) Z8a (by omega)
     have l4 := kk.lt
     have q0 : (w5.setRow w.heap.size Z8a).cell? ⟨w.heap.size + 1, 0, none⟩ = some (.int .u64 (pl s 0)) := by rw [kk.cell]; rfl
     have q1 : (w5.setRow w.heap.size Z8a).cell? ⟨w.heap.size + 1, 1, none⟩ = some (.int .u64 (pl s 1)) := by rw [kk.cell]; rfl
     have q2 : (w5.setRow w.heap.size Z8a).cell? ⟨w.heap.size + 1, 2, none⟩ = some (.int .u64 (pl s 2)) := by rw [kk.cell]; rfl
     have q3 : (w5.setRow w.heap.size Z8a).cell? ⟨w.heap.size + 1, 3, none⟩ = some (.int .u64 (pl s 3)) := by rw [kk.cell]; rfl
     have q4 : (w5.setRow w.heap.size Z8a).cell? ⟨w.heap.size + 1, 4, none⟩ = some (.int .u64 (pl s 4)) := by rw [kk.cell]; rfl
     have q5 : (w5.setRow w.heap.size Z8a).cell? ⟨w.heap.size + 1, 5, none⟩ = some (.int .u64 (pl s 5)) := by rw [kk.cell]; rfl
     have q6 : (w5.setRow w.heap.size Z8a).cell? ⟨w.heap.size + 1, 6, none⟩ = some (.int .u64 (pl s 6)) := by rw [kk.cell]; rfl
     have q7 : (w5.setRow w.heap.size Z8a).cell? ⟨w.heap.size + 1, 7, none⟩ = some (.int .u64 (pl s 7)) := by rw [kk.cell]; rfl
     clear kk
     have r2 := k0.row; have l2 := k0.lt
     have cF := (k0.rowS #[.int .u64 (pl s 0), .int .u64 (pl s 1), .int .u64 (pl s 2), .int .u64 (pl s 3), .int .u64 (pl s 4), .int .u64 (pl s 5), .int .u64 (pl s 6), .int .u64 (pl s 7)]).cell
     have hb6 := bel_row hbw (g := w.heap.size) (Nat.le_refl _) #[.int .u64 (pl s 0), .int .u64 (pl s 1), .int .u64 (pl s 2), .int .u64 (pl s 3), .int .u64 (pl s 4), .int .u64 (pl s 5), .int .u64 (pl s 6), .int .u64 (pl s 7)]
     rw [← k0.rw]
     clear k0 k1
     go_wp2_with fail
     exact bodyPost_ret (v := .tuple #[solV s, .int .i64 0]) (by simp [results, Tryz.results49, go_sem, cF]) rfl ⟨by rw [HY.out], hb6⟩
    ·have HY := Lib.hid (HR.out.1 (fun h => he (hcb.2 h)))
     have htl : (C.toList == B.toList) = false := by
      rw [beq_eq_false_iff_ne, ByteArray.toList_eq, ByteArray.toList_eq]
      intro h
      refine he ?_
      rcases C with ⟨⟨c⟩⟩
      rcases B with ⟨⟨b⟩⟩
      have h' : c = b := h
      rw [h']
     clear hcb
     have r2 := k0.row; have l2 := k0.lt
     have cF := (k0.rowS Z8a).cell
     have hb6 := bel_row hbw (g := w.heap.size) (Nat.le_refl _) Z8a
     rw [← k0.rw]
     clear k0 k1
     go_wp2_with fail
     exact bodyPost_ret (v := .tuple #[solV 0, .int .i64 4]) (by rw [HZV.out]; simp [results, Tryz.results49, go_sem, cF]) rfl ⟨by rw [HY.out], hb6⟩
end Go.Proofs.YtkfimbonmnoglaaGreatDoor
end
section
namespace Go.Proofs.YtkfimbonmnoglaaGreatDoor
open Go.RowKit Go.Rel Go.Draw Go.Solid
set_option maxRecDepth 100000
abbrev dotU : ByteArray := ⟨#[46]⟩
theorem idxD_dot : ∀ (p r : List UInt8), (∀ c ∈ p, c ≠ 46) → Lib.index (p ++ 46 :: r) [46] = (p.length : Int)
 | [], r, _ => by
  show Lib.index (46 :: r) [46] = 0
  unfold Lib.index
  rw [if_pos (by simp [List.isPrefixOf])]
 | c :: p, r, h => by
  have ih := idxD_dot p r (fun d hd => h d (by simp [hd]))
  have hc : c ≠ 46 := h c (by simp)
  show Lib.index (c :: (p ++ 46 :: r)) [46] = _
  unfold Lib.index
  rw [if_neg (by simp [List.isPrefixOf]; exact fun e => hc e.symm), ih, if_neg (by simp; try omega)]
  try simp
theorem idxD_none : ∀ (p : List UInt8), (∀ c ∈ p, c ≠ 46) → Lib.index p [46] = -1
 | [], _ => by unfold Lib.index; simp
 | c :: p, h => by
  have ih := idxD_none p (fun d hd => h d (by simp [hd]))
  have hc : c ≠ 46 := h c (by simp)
  unfold Lib.index
  rw [if_neg (by simp [List.isPrefixOf]; exact fun e => hc e.symm), ih, if_pos (by simp)]
def joinD : List (List UInt8) → List UInt8
 | [] => []
 | [p] => p
 | p :: q :: ps => p ++ 46 :: joinD (q :: ps)
theorem split_join : ∀ (ps : List (List UInt8)) (p : List UInt8), (∀ q ∈ p :: ps, ∀ c ∈ q, c ≠ 46) → Lib.count (joinD (p :: ps)) [46] = ps.length ∧ Lib.splitK [46] 0 ps.length (joinD (p :: ps)) = p :: ps
 | [], p, h => by
  have hi := idxD_none p (h p (by simp))
  exact ⟨Lib.count_miss hi, rfl⟩
 | q :: ps, p, h => by
  have ih := split_join ps q (fun x hx => h x (by simp only [List.mem_cons] at hx ⊢; exact .inr hx))
  have hi := idxD_dot p (joinD (q :: ps)) (h p (by simp))
  have hd : (p ++ 46 :: joinD (q :: ps)).drop (p.length + 1) = joinD (q :: ps) := by
   rw [← List.drop_drop, List.drop_left]; rfl
  constructor
  ·show Lib.count (p ++ 46 :: joinD (q :: ps)) [46] = _
   rw [Lib.count_hit (by simp) hi]
   show 1 + Lib.count ((p ++ 46 :: joinD (q :: ps)).drop (p.length + 1)) [46] = _
   rw [hd, ih.1, List.length_cons]; omega
  ·show Lib.splitK [46] 0 (ps.length + 1) (p ++ 46 :: joinD (q :: ps)) = _
   unfold Lib.splitK
   rw [hi, if_neg (by simp; try omega)]
   show (p ++ 46 :: joinD (q :: ps)).take ((p.length : Int).toNat + 0) :: Lib.splitK [46] 0 ps.length ((p ++ 46 :: joinD (q :: ps)).drop ((p.length : Int).toNat + 1)) = _
   rw [Int.toNat_natCast, hd, ih.2, Nat.add_zero, List.take_left]
theorem joinD_snoc : ∀ (ps : List (List UInt8)) (p q : List UInt8), joinD ((p :: ps) ++ [q]) = joinD (p :: ps) ++ 46 :: q
 | [], p, q => rfl
 | r :: ps, p, q => by
  have ih := joinD_snoc ps r q
  show p ++ 46 :: joinD ((r :: ps) ++ [q]) = (p ++ 46 :: joinD (r :: ps)) ++ 46 :: q
  rw [ih]; simp
theorem range_map_cons (f : Nat → List UInt8) : ∀ k, ∃ ps, (List.range (k + 1)).map f = f 0 :: ps := fun k => by
 rw [List.range_succ_eq_map, List.map_cons]
 exact ⟨_, rfl⟩
theorem wrP_join (s : Sol) : ∀ k, wrP s k = joinD ((List.range (k + 1)).map fun j => hexS (plN s j))
 | 0 => rfl
 | k + 1 => by
  have ih := wrP_join s k
  obtain ⟨ps, hps⟩ := range_map_cons (fun j => hexS (plN s j)) k
  rw [List.range_succ, List.map_append, hps]
  show _ = joinD ((hexS (plN s 0) :: ps) ++ [hexS (plN s (k + 1))])
  rw [joinD_snoc, ← hps, ← ih]; rfl
theorem hexS_nodot : ∀ (n u : Nat), u < 16 ^ (n + 1) → u < 18446744073709551616 → ∀ c ∈ hexS u, c ≠ 46
 | 0, u, h, _, c, hc => by
  have hu : u < 16 := by simpa using h
  rw [hexS_small hu] at hc
  rw [List.mem_singleton.1 hc]
  exact (digV_hex ⟨u, hu⟩).2
 | n + 1, u, h, h64, c, hc => by
  by_cases hs : u < 16
  ·rw [hexS_small hs] at hc
   rw [List.mem_singleton.1 hc]
   exact (digV_hex ⟨u, hs⟩).2
  ·rw [hexS_step (by omega) h64] at hc
   rcases List.mem_append.1 hc with hc | hc
   ·exact hexS_nodot n (u / 16) (by rw [Nat.pow_succ] at h; omega) (by omega) c hc
   ·rw [List.mem_singleton.1 hc]
    exact (digV_hex ⟨u % 16, Nat.mod_lt _ (by decide)⟩).2
theorem plN_64 (s : Sol) (k : Nat) : plN s k < 18446744073709551616 := (plv s k).isLt
theorem hexS_inj {a b : Nat} (ha : a < 18446744073709551616) (hb : b < 18446744073709551616) (h : hexS a = hexS b) : a = b := by
 have h1 := rd_hex 0 (by decide) 15 a 0 ha ha (plN_zero 0)
 have h2 := rd_hex 0 (by decide) 15 b 0 hb hb (plN_zero 0)
 rw [h, h2] at h1
 have h3 := congrArg (fun x => plN x.2 0) (Option.some.inj h1)
 simp only [plN_setP 0 a (show 0 < 8 by decide) ha, plN_setP 0 b (show 0 < 8 by decide) hb, if_true] at h3
 exact h3.symm
/-- the pieces of a text -/
def pcs (l : List UInt8) : List (List UInt8) := Lib.splitK [46] 0 (Lib.count l [46]) l
theorem pcs_wr (s : Sol) : pcs (wrS s) = (List.range (lastP s 8 + 1)).map fun j => hexS (plN s j) := by
 obtain ⟨ps, hps⟩ := range_map_cons (fun j => hexS (plN s j)) (lastP s 8)
 have hall : ∀ q ∈ hexS (plN s 0) :: ps, ∀ c ∈ q, c ≠ 46 := by
  rw [← hps]
  intro q hq
  obtain ⟨j, _, rfl⟩ := List.mem_map.1 hq
  exact hexS_nodot 15 _ (plN_64 s j) (plN_64 s j)
 obtain ⟨h1, h2⟩ := split_join ps _ hall
 have hw : wrS s = joinD (hexS (plN s 0) :: ps) := by
  rw [← hps]; exact wrP_join s _
 unfold pcs
 rw [hw, h1, h2, hps]
theorem pcs_B (l : List UInt8) : Lib.splitB dotU 0 (Lib.countB ⟨l.toArray⟩ dotU) ⟨l.toArray⟩ = (pcs l).map fun p => (⟨p.toArray⟩ : ByteArray) := by
 have h := Lib.splitB_data dotU 0 (Lib.countB ⟨l.toArray⟩ dotU) ⟨l.toArray⟩
 have h2 : (Lib.splitB dotU 0 (Lib.countB ⟨l.toArray⟩ dotU) ⟨l.toArray⟩).map (·.data.toList) = pcs l := h
 rw [← h2, List.map_map]
 conv => lhs; rw [← List.map_id (Lib.splitB dotU 0 (Lib.countB ⟨l.toArray⟩ dotU) ⟨l.toArray⟩)]
 refine List.map_congr_left fun x _ => ?_
 rfl
theorem pcs_len (l : List UInt8) : (pcs l).length = Lib.countB ⟨l.toArray⟩ dotU + 1 := by
 have h := Lib.splitB_all dotU (by decide) 0 (Lib.countB ⟨l.toArray⟩ dotU) ⟨l.toArray⟩ rfl
 rw [pcs_B, List.length_map] at h
 exact h
theorem pcs_get {s : Sol} {j : Nat} {p : List UInt8} (h : (pcs (wrS s))[j]? = some p) : j ≤ lastP s 8 ∧ p = hexS (plN s j) := by
 rw [pcs_wr, List.getElem?_map] at h
 by_cases hj : j < lastP s 8 + 1
 ·rw [List.getElem?_range hj] at h
  exact ⟨by omega, (Option.some.inj h).symm⟩
 ·rw [List.getElem?_eq_none (by simpa using hj)] at h; cases h
theorem read_many {l : List UInt8} (h : 8 < (pcs l).length) : readM l = (0, 4) := readM_no fun s e => by
 rw [← e, pcs_wr, List.length_map, List.length_range] at h
 have := lastP_seven s
 omega
theorem read_bad {l : List UInt8} {k : Nat} {p : List UInt8} (h : (pcs l)[k]? = some p) (hp : ∀ u, u < 18446744073709551616 → p ≠ hexS u) : readM l = (0, 4) := readM_no fun s e => by
 rw [← e] at h
 exact hp _ (plN_64 s k) (pcs_get h).2
theorem read_else {l : List UInt8} {out : Sol} (h : ∀ j p, (pcs l)[j]? = some p → p = hexS (plN out j)) (hz : ∀ j, (pcs l).length ≤ j → j < 8 → plN out j = 0) (hne : wrS out ≠ l) : readM l = (0, 4) := readM_no fun s e => by
 refine hne ?_
 rw [← e]
 congr 1
 refine sol_planes fun k hk => ?_
 have hl : (pcs l).length = lastP s 8 + 1 := by rw [← e, pcs_wr, List.length_map, List.length_range]
 by_cases hj : k < lastP s 8 + 1
 ·have h1 : (pcs l)[k]? = some (hexS (plN s k)) := by
   rw [← e, pcs_wr, List.getElem?_map, List.getElem?_range hj]; rfl
  exact (hexS_inj (plN_64 s k) (plN_64 out k) (h k _ h1)).symm
 ·rw [hz k (by omega) hk, lastP_zero s 8 k (by omega) hk]
end Go.Proofs.YtkfimbonmnoglaaGreatDoor
end
