import Derived.Test.YtkfimbonmnoglaaGreatDoorRTexts29
import Derived.Deep.Cut
import Derived.Lib.ConvBytes
import Derived.Defers
import Derived.Recover
import Derived.Laws.Pointers
/-
  Given contracts of functions of the program, and laws for them, one behind the other.
-/
set_option linter.unusedVariables false
set_option linter.unusedSimpArgs false
set_option linter.unusedSectionVars false
section
namespace Go.Proofs.YtkfimbonmnoglaaGreatDoor
open Go.RowKit Go.Rel Go.Draw Go.Solid
set_option maxRecDepth 100000
def stpU (n d : Nat) : Option Nat := if d < 16 ∧ n < 1152921504606846976 then some (16 * n + d) else none
def puB : Option Nat → UInt8 → Option Nat
 | none, _ => none
 | some n, c => if 48 ≤ c.toNat ∧ c.toNat ≤ 57 then stpU n (c.toNat - 48) else if 97 ≤ c.toNat ||| 32 ∧ c.toNat ||| 32 ≤ 122 then stpU n ((c.toNat ||| 32) - 87) else none
def puF (l : List UInt8) : Option Nat := if l = [] then none else l.foldl puB (some 0)
theorem puB_none : ∀ l : List UInt8, l.foldl puB none = none
 | [] => rfl
 | c :: l => by rw [List.foldl_cons]; exact puB_none l
theorem puB_hex {n : Nat} (hn : n < 1152921504606846976) : ∀ r, r < 16 → puB (some n) (hexD r) = some (16 * n + r) := by
 intro r hr
 have key : ∀ r : Fin 16, (if 48 ≤ (hexD r.val).toNat ∧ (hexD r.val).toNat ≤ 57 then some ((hexD r.val).toNat - 48) else if 97 ≤ (hexD r.val).toNat ||| 32 ∧ (hexD r.val).toNat ||| 32 ≤ 122 then some (((hexD r.val).toNat ||| 32) - 87) else none) = some r.val := by decide +kernel
 have h := key ⟨r, hr⟩
 simp only at h
 have hs : ∀ d, d = r → stpU n d = some (16 * n + r) := fun d e => by subst e; unfold stpU; rw [if_pos ⟨hr, hn⟩]
 show (if 48 ≤ (hexD r).toNat ∧ (hexD r).toNat ≤ 57 then stpU n ((hexD r).toNat - 48) else if 97 ≤ (hexD r).toNat ||| 32 ∧ (hexD r).toNat ||| 32 ≤ 122 then stpU n (((hexD r).toNat ||| 32) - 87) else none) = _
 split
 ·next h1 => rw [if_pos h1] at h; exact hs _ (Option.some.inj h)
 ·next h1 =>
  rw [if_neg h1] at h
  split
  ·next h2 => rw [if_pos h2] at h; exact hs _ (Option.some.inj h)
  ·next h2 => rw [if_neg h2] at h; cases h
theorem pu_fold : ∀ (n u : Nat), u < 16 ^ (n + 1) → u < 18446744073709551616 → (hexS u).foldl puB (some 0) = some u
 | 0, u, h, _ => by
  have hu : u < 16 := by simpa using h
  rw [hexS_small hu, List.foldl_cons, List.foldl_nil, puB_hex (by decide) u hu]; simp
 | n + 1, u, h, h64 => by
  by_cases hs : u < 16
  ·rw [hexS_small hs, List.foldl_cons, List.foldl_nil, puB_hex (by decide) u hs]; simp
  ·rw [hexS_step (by omega) h64, List.foldl_append, pu_fold n (u / 16) (by rw [Nat.pow_succ] at h; omega) (by omega), List.foldl_cons, List.foldl_nil, puB_hex (by omega) _ (Nat.mod_lt _ (by decide))]
   congr 1; omega
theorem hexS_ne (u : Nat) : hexS u ≠ [] := by
 unfold hexS
 rw [hexN]
 split <;> simp
theorem pu_hex {u : Nat} (h : u < 18446744073709551616) : puF (hexS u) = some u := by
  unfold puF
  rw [if_neg (hexS_ne u)]
  exact pu_fold 15 u (by have : (16 : Nat) ^ (15 + 1) = 18446744073709551616 := by decide
                         omega) h
theorem stpU_lt {n d v : Nat} (h : stpU n d = some v) : v < 18446744073709551616 := by
 unfold stpU at h
 split at h
 ·next h1 => have := Option.some.inj h; omega
 ·cases h
theorem puB_lt {o : Option Nat} {c : UInt8} {v : Nat} (h : puB o c = some v) : v < 18446744073709551616 := by
 cases o with
 | none => cases h
 | some n =>
  have h' : (if 48 ≤ c.toNat ∧ c.toNat ≤ 57 then stpU n (c.toNat - 48) else if 97 ≤ c.toNat ||| 32 ∧ c.toNat ||| 32 ≤ 122 then stpU n ((c.toNat ||| 32) - 87) else none) = some v := h
  split at h'
  ·exact stpU_lt h'
  ·split at h'
   ·exact stpU_lt h'
   ·cases h'
theorem pu_lt : ∀ (l : List UInt8) (n v : Nat), n < 18446744073709551616 → l.foldl puB (some n) = some v → v < 18446744073709551616
 | [], n, v, hn, h => by cases h; exact hn
 | c :: l, n, v, _, h => by
  rw [List.foldl_cons] at h
  cases hc : puB (some n) c with
  | none => rw [hc, puB_none] at h; cases h
  | some x => rw [hc] at h; exact pu_lt l x v (puB_lt hc) h
theorem puF_lt {l : List UInt8} {v : Nat} (h : puF l = some v) : v < 18446744073709551616 := by
 unfold puF at h
 split at h
 ·cases h
 ·exact pu_lt l 0 v (by decide) h
theorem pu_bad {l : List UInt8} {i : Nat} {n : Nat} {c : UInt8} (h1 : (l.take i).foldl puB (some 0) = some n) (hc : l[i]? = some c) (h2 : puB (some n) c = none) : puF l = none := by
 unfold puF
 split
 ·rfl
 ·rw [← List.take_append_drop (i + 1) l, List.foldl_append, List.take_add_one, hc, List.foldl_append, h1]
  show (l.drop (i + 1)).foldl puB (puB (some n) c) = none
  rw [h2, puB_none]
theorem pu_step {l : List UInt8} {i : Nat} {n : Nat} {c : UInt8} (h1 : (l.take i).foldl puB (some 0) = some n) (hc : l[i]? = some c) : (l.take (i + 1)).foldl puB (some 0) = puB (some n) c := by
 rw [List.take_add_one, hc, List.foldl_append, h1]; rfl
theorem low_or : ∀ c : Fin 256, bits .or .u8 ((c.val : Nat) : Int) 32 = ((c.val ||| 32 : Nat) : Int) ∧ c.val ||| 32 < 256 := by decide +kernel
theorem low_let : ∀ u : Fin 256, 97 ≤ u.val ||| 32 → u.val ||| 32 ≤ 122 → 57 < u.val ∧ u.val ≠ 95 := by decide +kernel
theorem u8_in (x : Int) (h0 : 0 ≤ x) (h1 : x < 256) : IntKind.u8.wrap x = x := by
 unfold IntKind.wrap
 simp [IntKind.bits, IntKind.signed]
 omega
/-- what the inner one answers -/
def PuI (w : World) (l : List UInt8) (e : Ending) (w' : World) : Prop := Below w.heap.size w w' ∧ ((∃ n : Nat, puF l = some n ∧ e = .returned (.tuple #[.int .u64 ((n : Nat) : Int), .nilIface])) ∨ (puF l = none ∧ ∃ (x code : Int), (code = 1 ∨ code = 2) ∧ e = .returned (.tuple #[.int .u64 x, .iface 190 (.int .i64 code)])))
set_option maxHeartbeats 16000000 in
theorem parse16I (l : List UInt8) (hl : l.length ≤ 1000) (w : World) : Calls Tryz.prog 171 #[.string ⟨l.toArray⟩, .int .i64 16, .int .i64 64] w (PuI w l) := by
  have c1 : IntKind.u64.wrap 64 = 64 := by kernel_rfl
  have c2 : IntKind.u8.wrap 16 = 16 := by kernel_rfl
  have c3 : IntKind.u64.wrap 16 = 16 := by kernel_rfl
  have c4 : IntKind.u64.wrap 18446744073709551616 = 0 := by kernel_rfl
  have c5 : IntKind.u64.wrap (-1) = 18446744073709551615 := by kernel_rfl
  obtain ⟨B, hB⟩ : ∃ B : ByteArray, B = ⟨l.toArray⟩ := ⟨_, rfl⟩
  have hcv := Lib.run_convert_string_bytes (P := Tryz.prog) w 9 137 5 B (u := .string) Tryz.underlying9 Tryz.underlying137 Tryz.underlying5
  have hBc : ∀ j, j < l.length → (Lib.bytesWorld w 5 B).cell? ⟨w.heap.size, j, none⟩ = some (.int .u8 (l.getD j 0).toNat) := fun j hj => by
    have := Lib.bytesWorld_cell w 5 B j (by rw [hB]; exact hj)
    rw [hB] at this ⊢
    exact this
  have hBl : Below w.heap.size w (Lib.bytesWorld w 5 B) := ⟨rfl, rfl, rfl, by rw [Lib.bytesWorld_size]; omega, fun k hk => Lib.bytesWorld_at_old _ _ _ _ hk⟩
  have hsz : B.size = l.length := by rw [hB]; rfl
  have hlt : w.heap.size < (Lib.bytesWorld w 5 B).heap.size := by rw [Lib.bytesWorld_size]; omega
  obtain ⟨W1, hW1⟩ : ∃ W1, W1 = Lib.bytesWorld w 5 B := ⟨_, rfl⟩
  rw [← hW1] at hcv hBc hBl hlt
  by_cases hne : l = []
  · have hbe : B.toList.isEmpty = true := by rw [ByteArray.toList_eq, hB, hne]; rfl
    have HP : Hid (puF l = none) := Lib.hid (by unfold puF; rw [if_pos hne])
    rw [← hB]
    clear hBc hBl hW1 hB hne hl hsz hlt hcv
    go_enter Tryz.func171, Tryz.ntmps171
    go_wp2_with fail
    exact bodyPost_ret (v := .tuple #[.int .u64 0, .iface 190 (.int .i64 2)]) (by simp [results, Tryz.results171, go_sem]) rfl ⟨Below.refl _ _, .inr ⟨HP.out, 0, 2, .inr rfl, rfl⟩⟩
  · have hbe : B.toList.isEmpty = false := by
      rw [ByteArray.toList_eq, hB]
      cases l with
      | nil => exact absurd rfl hne
      | cons _ _ => rfl
    rw [← hB]
    obtain ⟨L, hLn⟩ : ∃ n, n = l.length := ⟨_, rfl⟩
    rw [← hLn] at hsz hl
    rw [hsz] at hcv
    have HH := Lib.hid (And.intro hBc (And.intro hLn hne))
    have HB := Lib.hid hBl
    clear hBc hBl hW1 hB hLn hne hsz
    go_enter Tryz.func171, Tryz.ntmps171
    go_wp2_with fail
    go_loopw [12, 13, 101] (fun uv nv iv wx => uv = .bool false ∧ ∃ (i n : Nat), i ≤ L ∧ iv = .int .i64 i ∧ nv = .int .u64 n ∧ Hid ((l.take i).foldl puB (some 0) = some n ∧ n < 18446744073709551616) ∧ wx = W1) (fun _ _ iv _ => L - (intOf iv).toNat)
    case atStart => exact ⟨rfl, 0, 0, Nat.zero_le _, rfl, rfl, Lib.hid ⟨rfl, by decide⟩, rfl⟩
    case round =>
      obtain ⟨rfl, i, n, hi, rfl, rfl, HN, hWr⟩ := hrel
      subst hWr
      by_cases hil : i < L
      · obtain ⟨c, hc⟩ : ∃ c, l[i]? = some c := ⟨_, List.getElem?_eq_getElem (by rw [← HH.out.2.1]; exact hil)⟩
        have hcell := HH.out.1 i (by rw [← HH.out.2.1]; exact hil)
        rw [show l.getD i 0 = c by rw [List.getD_eq_getElem?_getD, hc]; rfl] at hcell
        have hn64 := HN.out.2
        have hu := c.toNat_lt
        obtain ⟨u, huc⟩ : ∃ u, u = c.toNat := ⟨_, rfl⟩
        have hfold : puB (some n) c = if 48 ≤ u ∧ u ≤ 57 then stpU n (u - 48) else if 97 ≤ u ||| 32 ∧ u ||| 32 ≤ 122 then stpU n ((u ||| 32) - 87) else none := by rw [huc]; rfl
        rw [← huc] at hcell hu
        obtain ⟨hlo, hlo2⟩ := low_or ⟨u, hu⟩
        simp only at hlo hlo2
        have hlet := low_let ⟨u, hu⟩
        simp only at hlet
        obtain ⟨Lo, hLo⟩ : ∃ x, x = u ||| 32 := ⟨_, rfl⟩
        rw [← hLo] at hlo hlo2 hlet hfold
        have HL : Hid (∀ W, Calls Tryz.prog 194 #[.int .u8 ((u : Nat) : Int)] W fun e w' => e = .returned (.int .u8 ((Lo : Nat) : Int)) ∧ w' = W) := Lib.hid fun W => by
          have := Tryz.internal_strconv_lower ((u : Nat) : Int) W
          rw [hlo] at this; exact this
        clear hlo hLo huc
        by_cases hA : 48 ≤ u ∧ u ≤ 57
        · obtain ⟨d, hd⟩ : ∃ d, d = u - 48 := ⟨_, rfl⟩
          have hpu : puB (some n) c = stpU n d := by rw [hfold, if_pos hA, hd]
          have hA1 : (48 : Int) ≤ (u : Int) := by omega
          have hA2 : (u : Int) ≤ 57 := by omega
          have h95 : ¬ ((u : Int) = 95) := by omega
          have w1 : IntKind.u8.wrap ((u : Int) - 48) = ((d : Nat) : Int) := by rw [u8_in _ (by omega) (by omega)]; omega
          clear hfold hlet hlo2
          by_cases h16 : d < 16
          · have h16I : ¬ (16 : Int) ≤ (d : Int) := by omega
            have wd : IntKind.u64.wrap (d : Int) = (d : Int) := IntWalk.u64_in _ ⟨by omega, by omega⟩
            by_cases h60 : n < 1152921504606846976
            · have hst : puB (some n) c = some (16 * n + d) := (hpu).trans (by unfold stpU; rw [if_pos ⟨h16, h60⟩])
              obtain ⟨v, hv⟩ : ∃ v, v = 16 * n + d := ⟨_, rfl⟩
              obtain ⟨m, hm⟩ : ∃ m, m = 16 * n := ⟨_, rfl⟩
              have hB60 : decide ((1152921504606846976 : Int) ≤ (n : Int)) = false := decide_eq_false (by omega)
              have w2 : IntKind.u64.wrap ((n : Int) * 16) = ((m : Nat) : Int) := by rw [IntWalk.u64_in _ ⟨by omega, by omega⟩]; omega
              have w3 : IntKind.u64.wrap ((m : Int) + (d : Int)) = ((v : Nat) : Int) := by rw [IntWalk.u64_in _ ⟨by omega, by omega⟩]; omega
              have hlm : m ≤ v := by omega
              have hmx : decide ((18446744073709551615 : Int) < (v : Int)) = false := decide_eq_false (by omega)
              rw [← hv] at hst
              have HS := Lib.hid (And.intro (pu_step HN.out.1 hc) hst)
              clear hst hpu hv hm h60 h16 hc hd
              go_wp2_with fail
              refine ⟨⟨rfl, i + 1, v, by omega, by simp, rfl, Lib.hid ⟨HS.out.1.trans HS.out.2, puB_lt HS.out.2⟩, trivial⟩, ?_⟩
              simp [intOf]; omega
            · have hst : puB (some n) c = none := (hpu).trans (by unfold stpU; rw [if_neg (fun h => h60 h.2)])
              have hB60 : decide ((1152921504606846976 : Int) ≤ (n : Int)) = true := decide_eq_true (by omega)
              have HP := Lib.hid (pu_bad HN.out.1 hc hst)
              clear hst hpu h60 h16 hc hd
              go_wp2_with fail
              exact bodyPost_ret (v := .tuple #[.int .u64 18446744073709551615, .iface 190 (.int .i64 1)]) (by simp [results, Tryz.results171, go_sem]) rfl ⟨HB.out, .inr ⟨HP.out, _, 1, .inl rfl, rfl⟩⟩
          · have h16I : (16 : Int) ≤ (d : Int) := by omega
            have hst : puB (some n) c = none := (hpu).trans (by unfold stpU; rw [if_neg (fun h => h16 h.1)])
            have HP := Lib.hid (pu_bad HN.out.1 hc hst)
            clear hst hpu h16 hc hd
            go_wp2_with fail
            exact bodyPost_ret (v := .tuple #[.int .u64 0, .iface 190 (.int .i64 2)]) (by simp [results, Tryz.results171, go_sem]) rfl ⟨HB.out, .inr ⟨HP.out, 0, 2, .inr rfl, rfl⟩⟩
        · by_cases hBq : 97 ≤ Lo ∧ Lo ≤ 122
          · obtain ⟨d, hd⟩ : ∃ d, d = Lo - 87 := ⟨_, rfl⟩
            have hpu : puB (some n) c = stpU n d := by rw [hfold, if_neg hA, if_pos hBq, hd]
            obtain ⟨h57, hn95⟩ := hlet hBq.1 hBq.2
            have hA1 : (48 : Int) ≤ (u : Int) := by omega
            have hA2 : ¬ ((u : Int) ≤ 57) := by omega
            have h95 : ¬ ((u : Int) = 95) := by omega
            have hB1 : (97 : Int) ≤ (Lo : Int) := by omega
            have hB2 : (Lo : Int) ≤ 122 := by omega
            obtain ⟨d0, hd0⟩ : ∃ d, d = Lo - 97 := ⟨_, rfl⟩
            have w0 : IntKind.u8.wrap ((Lo : Int) - 97) = ((d0 : Nat) : Int) := by rw [u8_in _ (by omega) (by omega)]; omega
            have w1 : IntKind.u8.wrap ((d0 : Int) + 10) = ((d : Nat) : Int) := by rw [u8_in _ (by omega) (by omega)]; omega
            clear hfold hlet hlo2 hd0 h57 hn95
            by_cases h16 : d < 16
            · have h16I : ¬ (16 : Int) ≤ (d : Int) := by omega
              have wd : IntKind.u64.wrap (d : Int) = (d : Int) := IntWalk.u64_in _ ⟨by omega, by omega⟩
              by_cases h60 : n < 1152921504606846976
              · have hst : puB (some n) c = some (16 * n + d) := (hpu).trans (by unfold stpU; rw [if_pos ⟨h16, h60⟩])
                obtain ⟨v, hv⟩ : ∃ v, v = 16 * n + d := ⟨_, rfl⟩
                obtain ⟨m, hm⟩ : ∃ m, m = 16 * n := ⟨_, rfl⟩
                have hB60 : decide ((1152921504606846976 : Int) ≤ (n : Int)) = false := decide_eq_false (by omega)
                have w2 : IntKind.u64.wrap ((n : Int) * 16) = ((m : Nat) : Int) := by rw [IntWalk.u64_in _ ⟨by omega, by omega⟩]; omega
                have w3 : IntKind.u64.wrap ((m : Int) + (d : Int)) = ((v : Nat) : Int) := by rw [IntWalk.u64_in _ ⟨by omega, by omega⟩]; omega
                have hlm : m ≤ v := by omega
                have hmx : decide ((18446744073709551615 : Int) < (v : Int)) = false := decide_eq_false (by omega)
                rw [← hv] at hst
                have HS := Lib.hid (And.intro (pu_step HN.out.1 hc) hst)
                clear hst hpu hv hm h60 h16 hc hd
                go_wp2_with fail
                refine (HL.out _).mono ?_
                rintro e w9 ⟨rfl, rfl⟩
                go_wp2_with fail
                refine (HL.out _).mono ?_
                rintro e w9 ⟨rfl, rfl⟩
                go_wp2_with fail
                refine (HL.out _).mono ?_
                rintro e w9 ⟨rfl, rfl⟩
                go_wp2_with fail
                refine ⟨⟨rfl, i + 1, v, by omega, by simp, rfl, Lib.hid ⟨HS.out.1.trans HS.out.2, puB_lt HS.out.2⟩, trivial⟩, ?_⟩
                simp [intOf]; omega
              · have hst : puB (some n) c = none := (hpu).trans (by unfold stpU; rw [if_neg (fun h => h60 h.2)])
                have hB60 : decide ((1152921504606846976 : Int) ≤ (n : Int)) = true := decide_eq_true (by omega)
                have HP := Lib.hid (pu_bad HN.out.1 hc hst)
                clear hst hpu h60 h16 hc hd
                go_wp2_with fail
                refine (HL.out _).mono ?_
                rintro e w9 ⟨rfl, rfl⟩
                go_wp2_with fail
                refine (HL.out _).mono ?_
                rintro e w9 ⟨rfl, rfl⟩
                go_wp2_with fail
                refine (HL.out _).mono ?_
                rintro e w9 ⟨rfl, rfl⟩
                go_wp2_with fail
                exact bodyPost_ret (v := .tuple #[.int .u64 18446744073709551615, .iface 190 (.int .i64 1)]) (by simp [results, Tryz.results171, go_sem]) rfl ⟨HB.out, .inr ⟨HP.out, _, 1, .inl rfl, rfl⟩⟩
            · have h16I : (16 : Int) ≤ (d : Int) := by omega
              have hst : puB (some n) c = none := (hpu).trans (by unfold stpU; rw [if_neg (fun h => h16 h.1)])
              have HP := Lib.hid (pu_bad HN.out.1 hc hst)
              clear hst hpu h16 hc hd
              go_wp2_with fail
              refine (HL.out _).mono ?_
              rintro e w9 ⟨rfl, rfl⟩
              go_wp2_with fail
              refine (HL.out _).mono ?_
              rintro e w9 ⟨rfl, rfl⟩
              go_wp2_with fail
              refine (HL.out _).mono ?_
              rintro e w9 ⟨rfl, rfl⟩
              go_wp2_with fail
              exact bodyPost_ret (v := .tuple #[.int .u64 0, .iface 190 (.int .i64 2)]) (by simp [results, Tryz.results171, go_sem]) rfl ⟨HB.out, .inr ⟨HP.out, 0, 2, .inr rfl, rfl⟩⟩
          · have hst : puB (some n) c = none := by rw [hfold, if_neg hA, if_neg hBq]
            have HP := Lib.hid (pu_bad HN.out.1 hc hst)
            have k1 : (¬ ((48 : Int) ≤ (u : Int))) ∨ ((48 : Int) ≤ (u : Int) ∧ ¬ ((u : Int) ≤ 57)) := by omega
            have k2 : (¬ ((97 : Int) ≤ (Lo : Int))) ∨ ((97 : Int) ≤ (Lo : Int) ∧ ¬ ((Lo : Int) ≤ 122)) := by omega
            have k3 : (u : Int) = 95 ∨ ¬ ((u : Int) = 95) := by omega
            clear hst hfold hlet hc hA hBq
            rcases k1 with k1 | ⟨k1, k1'⟩ <;> rcases k2 with k2 | ⟨k2, k2'⟩ <;> rcases k3 with k3 | k3
            all_goals first
              | (exfalso; omega)
              | (first | rw [k3] at HL | skip
                 go_wp2_with fail
                 refine (HL.out _).mono ?_
                 rintro e w9 ⟨rfl, rfl⟩
                 go_wp2_with fail
                 first
                   | exact bodyPost_ret (v := .tuple #[.int .u64 0, .iface 190 (.int .i64 2)]) (by simp [results, Tryz.results171, go_sem]) rfl ⟨HB.out, .inr ⟨HP.out, 0, 2, .inr rfl, rfl⟩⟩
                   | (refine (HL.out _).mono ?_
                      rintro e w9 ⟨rfl, rfl⟩
                      go_wp2_with fail
                      exact bodyPost_ret (v := .tuple #[.int .u64 0, .iface 190 (.int .i64 2)]) (by simp [results, Tryz.results171, go_sem]) rfl ⟨HB.out, .inr ⟨HP.out, 0, 2, .inr rfl, rfl⟩⟩))
      · obtain rfl : i = L := by omega
        have HP : Hid (puF l = some n) := Lib.hid (by
          unfold puF
          rw [if_neg HH.out.2.2]
          have := HN.out.1
          rwa [List.take_of_length_le (by rw [← HH.out.2.1]; exact Nat.le_refl _)] at this)
        go_wp2_with fail
        exact bodyPost_ret (v := .tuple #[.int .u64 ((n : Nat) : Int), .nilIface]) (by simp [results, Tryz.results171, go_sem]) rfl ⟨HB.out, .inl ⟨n, HP.out, rfl⟩⟩
end Go.Proofs.YtkfimbonmnoglaaGreatDoor
end
section
namespace Go.Proofs.YtkfimbonmnoglaaGreatDoor
open Go.RowKit Go.Rel Go.Draw Go.Solid
set_option maxRecDepth 100000
theorem bytes_ne {C B : ByteArray} (he : ¬ C = B) : (C.toList == B.toList) = false := by
 rw [beq_eq_false_iff_ne, ByteArray.toList_eq, ByteArray.toList_eq]
 intro h
 refine he ?_
 rcases C with ⟨⟨c⟩⟩
 rcases B with ⟨⟨b⟩⟩
 have h' : c = b := h
 rw [h']
theorem bytes_inj {a b : List UInt8} (h : (⟨a.toArray⟩ : ByteArray) = ⟨b.toArray⟩) : a = b := by
 simpa using congrArg (fun x => x.data.toList) h
def EnvX (W : World) : Prop := (∃ m, W.cell? ⟨2, 0, none⟩ = some (.int .i64 m)) ∧ (∃ t v, W.cell? ⟨3, 0, none⟩ = some (.iface t v)) ∧ (∃ t v, W.cell? ⟨4, 0, none⟩ = some (.iface t v))
theorem EnvX.grow {B : Nat} {w w' : World} (h : EnvX w) (hb : Below B w w') (hB : 5 ≤ B) : EnvX w' := by
 obtain ⟨⟨m, h1⟩, ⟨t, v, h2⟩, ⟨t', v', h3⟩⟩ := h
 exact ⟨⟨m, (hb.cell (p := ⟨2, 0, none⟩) (by simp; omega)).trans h1⟩, ⟨t, v, (hb.cell (p := ⟨3, 0, none⟩) (by simp; omega)).trans h2⟩, ⟨t', v', (hb.cell (p := ⟨4, 0, none⟩) (by simp; omega)).trans h3⟩⟩
theorem EnvX.size {w : World} (h : EnvX w) : 5 ≤ w.heap.size := by
 obtain ⟨_, _, ⟨t, v, h3⟩⟩ := h
 have := block_lt_of_cell h3
 simp at this; omega
def PuE (w : World) (l : List UInt8) (e : Ending) (w' : World) : Prop := Below w.heap.size w w' ∧ ((∃ n : Nat, puF l = some n ∧ e = .returned (.tuple #[.int .u64 ((n : Nat) : Int), .nilIface])) ∨ (puF l = none ∧ ∃ (x : Int) (t : TypeId) (v : Value), e = .returned (.tuple #[.int .u64 x, .iface t v])))
set_option maxHeartbeats 8000000 in
theorem parse16 (l : List UInt8) (hl : l.length ≤ 1000) (w : World) (hX : EnvX w) : Calls Tryz.prog 154 #[.string ⟨l.toArray⟩, .int .i64 16, .int .i64 64] w (PuE w l) := by
 have H := Lib.hid (parse16I l hl w)
 have HS : Hid (∀ W, Below w.heap.size w W → Calls Tryz.prog 172 #[.string ⟨#[80, 97, 114, 115, 101, 85, 105, 110, 116]⟩, .string ⟨l.toArray⟩, .int .i64 16, .int .i64 64, .iface 190 (.int .i64 2)] W fun e w' => (∃ N, e = .returned (.iface 193 (.pointer (some ⟨N, 0, none⟩)))) ∧ Below W.heap.size W w') := Lib.hid fun W hb => by
  obtain ⟨_, ⟨t, v, h2⟩, _⟩ := hX.grow hb hX.size
  refine (Tryz.strconv_toError_syntax ⟨#[80, 97, 114, 115, 101, 85, 105, 110, 116]⟩ ⟨l.toArray⟩ 16 64 (.iface t v) W (by show l.length ≤ _; omega) h2 (.inr ⟨t, v, rfl⟩)).mono ?_
  rintro e w' ⟨N, h1, _, _, h4⟩
  exact ⟨⟨N, h1⟩, h4⟩
 have HR : Hid (∀ W, Below w.heap.size w W → Calls Tryz.prog 172 #[.string ⟨#[80, 97, 114, 115, 101, 85, 105, 110, 116]⟩, .string ⟨l.toArray⟩, .int .i64 16, .int .i64 64, .iface 190 (.int .i64 1)] W fun e w' => (∃ N, e = .returned (.iface 193 (.pointer (some ⟨N, 0, none⟩)))) ∧ Below W.heap.size W w') := Lib.hid fun W hb => by
  obtain ⟨_, _, ⟨t, v, h2⟩⟩ := hX.grow hb hX.size
  refine (Tryz.strconv_toError_range ⟨#[80, 97, 114, 115, 101, 85, 105, 110, 116]⟩ ⟨l.toArray⟩ 16 64 (.iface t v) W (by show l.length ≤ _; omega) h2 (.inr ⟨t, v, rfl⟩)).mono ?_
  rintro e w' ⟨N, h1, _, _, h4⟩
  exact ⟨⟨N, h1⟩, h4⟩
 clear hX hl
 obtain ⟨B, hB⟩ : ∃ B : ByteArray, B = ⟨l.toArray⟩ := ⟨_, rfl⟩
 rw [← hB] at H HS HR ⊢
 clear hB
 go_enter Tryz.func154, Tryz.ntmps154
 go_wp2_with fail
 refine H.out.mono ?_
 rintro e w1 ⟨hb, ⟨n, hn, rfl⟩ | ⟨hn, x, code, hc, rfl⟩⟩
 ·have H1 := Lib.hid (And.intro hb hn); clear hb hn
  go_wp2_with fail
  exact bodyPost_ret (v := .tuple #[.int .u64 ((n : Nat) : Int), .nilIface]) (by simp [results, Tryz.results154, go_sem]) rfl ⟨H1.out.1, .inl ⟨n, H1.out.2, rfl⟩⟩
 ·have H1 := Lib.hid (And.intro hb hn); clear hb hn
  rcases hc with rfl | rfl
  ·go_wp2_with fail
   refine (HR.out _ H1.out.1).mono ?_
   rintro e w2 ⟨⟨N, rfl⟩, hb2⟩
   have H2 := Lib.hid (bel_trans H1.out.1 hb2); clear hb2
   go_wp2_with fail
   exact bodyPost_ret (v := .tuple #[.int .u64 x, .iface 193 (.pointer (some ⟨N, 0, none⟩))]) (by simp [results, Tryz.results154, go_sem]) rfl ⟨H2.out, .inr ⟨H1.out.2, x, _, _, rfl⟩⟩
  ·go_wp2_with fail
   refine (HS.out _ H1.out.1).mono ?_
   rintro e w2 ⟨⟨N, rfl⟩, hb2⟩
   have H2 := Lib.hid (bel_trans H1.out.1 hb2); clear hb2
   go_wp2_with fail
   exact bodyPost_ret (v := .tuple #[.int .u64 x, .iface 193 (.pointer (some ⟨N, 0, none⟩))]) (by simp [results, Tryz.results154, go_sem]) rfl ⟨H2.out, .inr ⟨H1.out.2, x, _, _, rfl⟩⟩
abbrev formV : Value := .iface 106 (.agg #[])
def PlP (w : World) (l : List UInt8) (e : Ending) (w' : World) : Prop := Below w.heap.size w w' ∧ ((∃ u : Nat, u < 18446744073709551616 ∧ l = hexS u ∧ e = .returned (.int .u64 ((u : Nat) : Int))) ∨ ((∀ u, u < 18446744073709551616 → l ≠ hexS u) ∧ e = .panicked [{ v := formV, recovered := false }]))
set_option maxHeartbeats 8000000 in
theorem plane_any (l : List UInt8) (hl : l.length ≤ 1000) (w : World) (hX : EnvX w) (hT : Tab w) : Calls Tryz.prog 118 #[.string ⟨l.toArray⟩] w (PlP w l) := by
 have H := Lib.hid (parse16 l hl w hX)
 have HF : Hid (∀ (n : Nat) W, n < 18446744073709551616 → Below w.heap.size w W → Calls Tryz.prog 114 #[.int .u64 ((n : Nat) : Int), .int .i64 16] W fun e w' => e = .returned (.string ⟨(hexS n).toArray⟩) ∧ Below W.heap.size W w') := Lib.hid fun n W hn hb => FormatUint16 n hn W ((hT.grow hb) 15 (by omega))
 clear hT hX hl
 obtain ⟨B, hB⟩ : ∃ B : ByteArray, B = ⟨l.toArray⟩ := ⟨_, rfl⟩
 have HB := Lib.hid hB
 rw [← hB] at H ⊢
 clear hB
 go_enter Tryz.func118, Tryz.ntmps118
 go_wp2_with fail
 refine H.out.mono ?_
 rintro e w1 ⟨hb, ⟨n, hn, rfl⟩ | ⟨hn, x, t, v, rfl⟩⟩
 ·have H1 := Lib.hid (And.intro hb (And.intro hn (puF_lt hn))); clear hb hn
  go_wp2_with fail
  refine (HF.out n _ H1.out.2.2 H1.out.1).mono ?_
  rintro e w2 ⟨rfl, hb2⟩
  have H2 := Lib.hid (bel_trans H1.out.1 hb2); clear hb2
  obtain ⟨C, hC⟩ : ∃ C : ByteArray, C = ⟨(hexS n).toArray⟩ := ⟨_, rfl⟩
  rw [← hC]
  have HC := Lib.hid hC; clear hC
  by_cases he : C = B
  ·have HE : Hid (l = hexS n) := Lib.hid (bytes_inj (by rw [← HB.out, ← HC.out]; exact he.symm))
   clear HB H HC
   subst he
   go_wp2_with fail
   exact bodyPost_ret (v := .int .u64 ((n : Nat) : Int)) (by simp [results, Tryz.results118, go_sem]) rfl ⟨H2.out, .inl ⟨n, H1.out.2.2, HE.out, rfl⟩⟩
  ·have HE : Hid (∀ u, u < 18446744073709551616 → l ≠ hexS u) := Lib.hid (fun u hu e => by
    have h1 := H1.out.2.1
    rw [e, pu_hex hu] at h1
    have h2 : u = n := Option.some.inj h1
    exact he (by rw [HC.out, HB.out, e, h2]))
   have htl := bytes_ne he
   clear HB H HC
   go_wp2_with fail
   exact ⟨rfl, H2.out, .inr ⟨HE.out, rfl⟩⟩
 ·have HE : Hid (∀ u, u < 18446744073709551616 → l ≠ hexS u) := Lib.hid (fun u hu e => by
   rw [e, pu_hex hu] at hn; cases hn)
  have H1 := Lib.hid hb; clear hb hn
  go_wp2_with fail
  exact ⟨rfl, H1.out, .inr ⟨HE.out, rfl⟩⟩
end Go.Proofs.YtkfimbonmnoglaaGreatDoor
end
section
namespace Go.Proofs.YtkfimbonmnoglaaGreatDoor
open Go.RowKit Go.Rel Go.Draw Go.Solid
set_option maxRecDepth 100000
abbrev formW : Value := .iface 106 (.agg #[])
abbrev Z8b : Array Value := #[.int .u64 0, .int .u64 0, .int .u64 0, .int .u64 0, .int .u64 0, .int .u64 0, .int .u64 0, .int .u64 0]
theorem catch_none (p q : Addr) (w : World) :
  CallsD Tryz.prog 116 #[.pointer (some p), .pointer (some q)] .returning w fun e u' w' => e = .returned (.tuple #[]) ∧ u' = .returning ∧ w' = w := by
 refine callsD_of_wpS Tryz.func116 rfl fun c₀ cs hu => ?_
 apply wpS_seq
 apply wpS_region
 simp [wpOpsS, go_sem, recoverD, hu, Tryz.ntmps116, Exit.thenS]
 apply wpS_seq
 apply wpS_region
 simp [wpOpsS, go_sem, recoverD, hu, Tryz.ntmps116, Exit.thenS]
 refine wpS_cond (t := false) (by simp [Act.eval, Array.replicate]) ?_
 simp only [Bool.false_eq_true, if_false]
 refine wpS_of_wp (wp_skip ?_)
 cases c₀
 simp_all [bodyPostS, results, Tryz.results116]
set_option maxHeartbeats 4000000 in
theorem catch_hit {b1 b2 : Nat} {w : World} {cs : Array Value} {x : Value} (B1 : Blk w b1 cs 26) (hcs : cs.size = 8) (B2 : Blk w b2 #[x] 27) (hne : b1 ≠ b2) (base : Nat) (h1 : base ≤ b1) (h2 : base ≤ b2) :
  CallsD Tryz.prog 116 #[.pointer (some ⟨b1, 0, none⟩), .pointer (some ⟨b2, 0, none⟩)] (.panicking [{ v := formW, recovered := false }]) w fun e u' w' => e = .returned (.tuple #[]) ∧ u' = .panicking [{ v := formW, recovered := true }] ∧ Blk w' b1 Z8b 26 ∧ Blk w' b2 #[.int .i64 4] 27 ∧ Below base w w' := by
 have hta : ∀ w : World, (Instr.typeAssert formW 20 106 true).run Tryz.prog w = .ok (.tuple #[.agg #[], .bool true]) w := fun w => by kernel_rfl
 refine callsD_of_wpS Tryz.func116 rfl fun c₀ cs' hu => ?_
 apply wpS_seq
 apply wpS_region
 simp [wpOpsS, go_sem, recoverD, hu, Tryz.ntmps116, Exit.thenS]
 apply wpS_seq
 apply wpS_region
 simp [wpOpsS, go_sem, recoverD, hu, Tryz.ntmps116, Exit.thenS]
 refine wpS_cond (t := true) (by simp [Act.eval, Array.replicate]) ?_
 simp only [if_true]
 refine wpS_of_wp ?_
 refine Code.wp_mono (Q := fun e a w' => e = .normal ∧ a.defers = [] ∧ Blk w' b1 Z8b 26 ∧ Blk w' b2 #[.int .i64 4] 27 ∧ Below base w w') (fun e a w' h => ?_) ?_
 ·obtain ⟨rfl, h2, h3⟩ := h
  exact ⟨h2, _, rfl, .tuple #[], by simp [results, Tryz.results116, go_sem], rfl, rfl, h3⟩
 clear hu cs' c₀
 change Code.wp Tryz.prog _ _ { tmps := #[.pointer (some ⟨b1, 0, none⟩), .pointer (some ⟨b2, 0, none⟩), formW, undef, undef, formW, formW, .bool true, undef, undef, undef, undef, undef, undef, undef, undef, undef], defers := [] } w
 go_upto_region 3 with fail
 obtain ⟨W2, hW2⟩ : ∃ W2, W2 = w.alloc (.cells #[] 106) := ⟨_, rfl⟩
 have C1 : Blk W2 b1 cs 26 := by rw [hW2]; exact B1.alloc _
 have C2 : Blk W2 b2 #[x] 27 := by rw [hW2]; exact B2.alloc _
 have hbw : Below base w W2 := by rw [hW2]; exact (bel_alloc (bel_refl w) _).mono (by have := B1.lt; omega)
 rw [← hW2]
 clear hW2 hta
 obtain ⟨c0, c1, c2, c3, c4, c5, c6, c7, rfl⟩ : ∃ c0 c1 c2 c3 c4 c5 c6 c7, cs = #[c0, c1, c2, c3, c4, c5, c6, c7] := by
  rcases cs with ⟨l⟩
  match l, hcs with
  | [a0, a1, a2, a3, a4, a5, a6, a7], _ => exact ⟨a0, a1, a2, a3, a4, a5, a6, a7, rfl⟩
 have r1 := C1.row; have l1 := C1.lt
 have D2 := C2.rowO (g := b1) Z8b (by omega)
 have k2 := D2.cell; have l2 := D2.lt; have f2 := D2.free 0
 have HC := Lib.hid (And.intro C1 (And.intro C2 hbw))
 rw [← C1.rw]
 clear C1 C2 hbw B1 B2 D2 hcs
 go_wp2_with fail
 have hgs := gb_set (gb_refl (W2.setRow b1 Z8b) (some b2)) ⟨b2, 0, none⟩ rfl (.int .i64 4)
 have hbr : Below base w (W2.setRow b1 Z8b) := blw_row HC.out.2.2 h1 Z8b
 refine ⟨(HC.out.1.rowS Z8b).gb hgs (by simp; omega), (HC.out.2.1.rowO Z8b (by omega)).set 0 _, hbr.grown hgs ?_ (fun k e => by cases e; omega)⟩
 have := HC.out.1.lt
 have h9 : (W2.setRow b1 Z8b).heap.size = W2.heap.size := by simp [World.setRow]
 omega
end Go.Proofs.YtkfimbonmnoglaaGreatDoor
end
