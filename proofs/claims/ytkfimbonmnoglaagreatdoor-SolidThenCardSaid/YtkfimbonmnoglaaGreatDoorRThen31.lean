import Derived.Test.YtkfimbonmnoglaaGreatDoorRThen30
import Derived.Deep.Cut
/-
  Given contracts of functions of the program, and laws for them, one behind the other.
-/
set_option linter.unusedVariables false
set_option linter.unusedSimpArgs false
set_option linter.unusedSectionVars false
section
namespace Go.Proofs.YtkfimbonmnoglaaGreatDoor
open Go.RowKit Go.Rel Go.Draw Go.Solid
set_option maxRecDepth 100000
theorem find_min {p : Nat → Bool} {k : Nat} (h : (List.range 24).find? p = some k) : k < 24 ∧ p k = true ∧ ∀ i, i < k → p i = false := by
 rw [List.find?_range_eq_some] at h
 obtain ⟨h1, h2, h3⟩ := h
 exact ⟨List.mem_range.1 h2, h1, fun i hi => by simpa using h3 i hi⟩
theorem car_near {t : Nat} {d c : Cl} (hc : inG c = true) (hd : shortB d = true) : near14 (movC d (turnC t c)) := by
 have h1 : inG (turnC t c) = true := by rw [Go.Solid.turn_in]; exact hc
 have h2 := inG_iff.1 h1
 have h3 := shortB_iff.1 hd
 have k0 := h3 0; have k1 := h3 1; have k2 := h3 2
 obtain ⟨x, y, z⟩ := d
 have k0' : -7 ≤ x ∧ x ≤ 7 := k0
 have k1' : -7 ≤ y ∧ y ≤ 7 := k1
 have k2' : -7 ≤ z ∧ z ≤ 7 := k2
 unfold near14 movC addC
 simp only
 omega
theorem short_small {d : Cl} (hd : shortB d = true) : smallC 1000 d := by
 have h3 := shortB_iff.1 hd
 have k0 := h3 0; have k1 := h3 1; have k2 := h3 2
 obtain ⟨x, y, z⟩ := d
 have k0' : -7 ≤ x ∧ x ≤ 7 := k0
 have k1' : -7 ≤ y ∧ y ≤ 7 := k1
 have k2' : -7 ≤ z ∧ z ≤ 7 := k2
 unfold smallC
 simp only
 omega
theorem car_small {t : Nat} {d c : Cl} (hc : near14 c) (hd : shortB d = true) : smallC 100 (movC d (turnC t c)) := by
 have h2 := near14_turn t hc
 have h3 := shortB_iff.1 hd
 have k0 := h3 0; have k1 := h3 1; have k2 := h3 2
 obtain ⟨x, y, z⟩ := d
 have k0' : -7 ≤ x ∧ x ≤ 7 := k0
 have k1' : -7 ≤ y ∧ y ≤ 7 := k1
 have k2' : -7 ≤ z ∧ z ≤ 7 := k2
 unfold near14 at h2
 unfold smallC movC addC
 simp only
 omega
theorem near14_in {c : Cl} (h : inG c = true) : near14 c := by
 have := inG_iff.1 h
 unfold near14; omega
attribute [local irreducible] turnC movC subC ofB carC
set_option maxHeartbeats 16000000 in
theorem refBack_yes (t : Nat) (d : Cl) (hr : rightB (t : Nat) d = true) (w : World) : Calls Tryz.prog 23 #[motV (t : Nat) d] w fun e w' => e = .returned (.tuple #[motV ((invT t : Nat) : Int) (negC (movT (invT t) d)), .int .i64 0]) ∧ Below w.heap.size w w' := by
 have hrr := rightB_iff.1 hr
 have ht : t < 24 := by omega
 have hm := back_ref (m := ((t : Nat), d)) hr
 obtain ⟨k, hk⟩ : ∃ k, k = invT t := ⟨_, rfl⟩
 have hmt : ((((t : Nat) : Int), d) : Go.Solid.Mo).1.toNat = t := by simp
 rw [hmt, ← hk] at hm
 have hcar : ∀ c, carC (((t : Nat) : Int), d) c = movC d (turnC t c) := fun c => by unfold carC; rw [hmt]
 rw [hcar, hcar, hcar, hcar] at hm
 obtain ⟨hk24, hy, hn⟩ := find_min hm.1
 have HM := Lib.hid fun W => refMotion_spec (t : Nat) d W
 rw [hr] at HM
 have HC := Lib.hid fun c (hc : inG c = true) W => carried_spec t ht d (short_small hrr.2) c (near14_in hc) W
 obtain ⟨g0, hg0⟩ : ∃ g, g = movC d (turnC t (0, 0, 0)) := ⟨_, rfl⟩
 obtain ⟨g1, hg1⟩ : ∃ g, g = movC d (turnC t (1, 0, 0)) := ⟨_, rfl⟩
 obtain ⟨g2, hg2⟩ : ∃ g, g = movC d (turnC t (0, 1, 0)) := ⟨_, rfl⟩
 obtain ⟨g3, hg3⟩ : ∃ g, g = movC d (turnC t (0, 0, 1)) := ⟨_, rfl⟩
 have HC0 := Lib.hid fun W => HC.out (0, 0, 0) (by decide) W
 have HC1 := Lib.hid fun W => HC.out (1, 0, 0) (by decide) W
 have HC2 := Lib.hid fun W => HC.out (0, 1, 0) (by decide) W
 have HC3 := Lib.hid fun W => HC.out (0, 0, 1) (by decide) W
 have hres := hm.2
 rw [← hg0, ← hg1, ← hg2, ← hg3] at hy hn
 rw [← hg0] at HC0 hres; rw [← hg1] at HC1; rw [← hg2] at HC2; rw [← hg3] at HC3
 have HOf := Lib.hid fun W => of_spec g0 g1 g2 g3 (0, 0, 0) (1, 0, 0) (0, 1, 0) (0, 0, 1) k hk24 (by rw [hg0]; exact car_near (by decide) hrr.2) (by rw [hg1]; exact car_near (by decide) hrr.2) (by rw [hg2]; exact car_near (by decide) hrr.2) (by rw [hg3]; exact car_near (by decide) hrr.2) (by unfold smallC; decide) hy hn W
 rw [hres] at HOf
 obtain ⟨r, hrr2⟩ : ∃ r, r = negC (movT k d) := ⟨_, rfl⟩
 rw [← hk, ← hrr2]
 rw [← hrr2] at HOf
 have HCo := Lib.hid fun W => corners_spec W
 clear hrr ht hm hk hmt hcar hk24 hy hn hr hg0 hg1 hg2 hg3 hres hrr2 HC
 go_enter Tryz.func23, Tryz.ntmps23
 go_wp2_with fail
 obtain ⟨W0, hW0⟩ : ∃ W0, W0 = (w.alloc (.cells #[.int .i64 (t : Nat), .int .i64 d.1, .int .i64 d.2.1, .int .i64 d.2.2] 23)).alloc (.cells #[.int .i64 0, .int .i64 0, .int .i64 0, .int .i64 0] 23) := ⟨_, rfl⟩
 have b0 : Blk W0 w.heap.size #[.int .i64 (t : Nat), .int .i64 d.1, .int .i64 d.2.1, .int .i64 d.2.2] 23 ∧ Blk W0 (w.heap.size + 1) #[.int .i64 0, .int .i64 0, .int .i64 0, .int .i64 0] 23 ∧ Below w.heap.size w W0 := by
  rw [hW0]
  exact ⟨(by repeat (first | with_reducible assumption | (refine Blk.at _ _ ?_; (simp; done)) | with_reducible refine Blk.alloc ?_ _ | with_reducible refine Blk.drew ?_ | with_reducible refine Blk.rowS ?_ _ | with_reducible refine Blk.rowO ?_ _ (by simp))), Blk.at _ _ (by simp), (by repeat (first | with_reducible exact bel_refl _ | with_reducible assumption | with_reducible refine bel_drewN ?_ _ | with_reducible refine bel_drew ?_ | with_reducible refine bel_alloc ?_ _ | with_reducible refine bel_row ?_ ?_ _ | with_reducible refine bel_set ?_ ?_ _ | refine bel_trans ?_ (by with_reducible assumption) | (simp; done) | (simp; omega)))⟩
 rw [← hW0]
 clear hW0
 have HB := Lib.hid b0
 clear b0
 refine (HM.out _).mono ?_
 rintro e w1 ⟨rfl, hb⟩
 have HB1 := Lib.hid (And.intro (HB.out.1.grow hb) (And.intro (HB.out.2.1.grow hb) (bel_trans HB.out.2.2 hb)))
 clear hb HB
 go_wp2_with fail
 refine (HCo.out _).mono ?_
 rintro e w2 ⟨rfl, hb⟩
 obtain ⟨wA, hwA⟩ : ∃ x, x = w2.alloc (.cells #[.int .i64 0, .int .i64 0, .int .i64 0, .int .i64 1, .int .i64 0, .int .i64 0, .int .i64 0, .int .i64 1, .int .i64 0, .int .i64 0, .int .i64 0, .int .i64 1] 83) := ⟨_, rfl⟩
 obtain ⟨ga, hga⟩ : ∃ x, x = w2.heap.size := ⟨_, rfl⟩
 have HA : Hid (Blk wA ga #[.int .i64 0, .int .i64 0, .int .i64 0, .int .i64 1, .int .i64 0, .int .i64 0, .int .i64 0, .int .i64 1, .int .i64 0, .int .i64 0, .int .i64 0, .int .i64 1] 83 ∧ Blk wA w.heap.size #[.int .i64 (t : Nat), .int .i64 d.1, .int .i64 d.2.1, .int .i64 d.2.2] 23 ∧ Blk wA (w.heap.size + 1) #[.int .i64 0, .int .i64 0, .int .i64 0, .int .i64 0] 23 ∧ Below w.heap.size w wA) := Lib.hid (by
  rw [hwA, hga]
  exact ⟨Blk.new _ _ _, (HB1.out.1.grow hb).alloc _, (HB1.out.2.1.grow hb).alloc _, bel_alloc (bel_trans HB1.out.2.2 hb) _⟩)
 have ho1 : Hid (w.heap.size + 1 < ga) := Lib.hid (by rw [hga]; exact (HB1.out.2.1.grow hb).lt)
 go_upto_region 4 with fail
 rw [← hwA, ← hga]
 clear hwA hga hb HB1
 go_wp2_with fail
 refine (HCo.out _).mono ?_
 rintro e w3 ⟨rfl, hb⟩
 obtain ⟨wB, hwB⟩ : ∃ x, x = w3.alloc (.cells #[.int .i64 0, .int .i64 0, .int .i64 0, .int .i64 1, .int .i64 0, .int .i64 0, .int .i64 0, .int .i64 1, .int .i64 0, .int .i64 0, .int .i64 0, .int .i64 1] 83) := ⟨_, rfl⟩
 obtain ⟨gb, hgb⟩ : ∃ x, x = w3.heap.size := ⟨_, rfl⟩
 have HB2 : Hid (Blk wB gb #[.int .i64 0, .int .i64 0, .int .i64 0, .int .i64 1, .int .i64 0, .int .i64 0, .int .i64 0, .int .i64 1, .int .i64 0, .int .i64 0, .int .i64 0, .int .i64 1] 83 ∧ Blk wB ga #[.int .i64 0, .int .i64 0, .int .i64 0, .int .i64 1, .int .i64 0, .int .i64 0, .int .i64 0, .int .i64 1, .int .i64 0, .int .i64 0, .int .i64 0, .int .i64 1] 83 ∧ Blk wB w.heap.size #[.int .i64 (t : Nat), .int .i64 d.1, .int .i64 d.2.1, .int .i64 d.2.2] 23 ∧ Blk wB (w.heap.size + 1) #[.int .i64 0, .int .i64 0, .int .i64 0, .int .i64 0] 23 ∧ Below w.heap.size w wB) := Lib.hid (by
  rw [hwB, hgb]
  exact ⟨Blk.new _ _ _, (HA.out.1.grow hb).alloc _, (HA.out.2.1.grow hb).alloc _, (HA.out.2.2.1.grow hb).alloc _, bel_alloc (bel_trans HA.out.2.2.2 hb) _⟩)
 have ho2 : Hid (ga < gb) := Lib.hid (by rw [hgb]; exact (HA.out.1.grow hb).lt)
 go_upto_region 5 with fail
 rw [← hwB, ← hgb]
 clear hwB hgb hb HA
 have HO : Hid (w.heap.size + 1 < ga ∧ ga < gb) := Lib.hid ⟨ho1.out, ho2.out⟩
 clear ho1 ho2
 obtain ⟨arr, ha0, ha1, ha2, ha3, ha4⟩ : ∃ f : Nat → Array Value, f 0 = #[.int .i64 0, .int .i64 0, .int .i64 0, .int .i64 1, .int .i64 0, .int .i64 0, .int .i64 0, .int .i64 1, .int .i64 0, .int .i64 0, .int .i64 0, .int .i64 1] ∧ f 1 = #[.int .i64 g0.1, .int .i64 g0.2.1, .int .i64 g0.2.2, .int .i64 1, .int .i64 0, .int .i64 0, .int .i64 0, .int .i64 1, .int .i64 0, .int .i64 0, .int .i64 0, .int .i64 1] ∧ f 2 = #[.int .i64 g0.1, .int .i64 g0.2.1, .int .i64 g0.2.2, .int .i64 g1.1, .int .i64 g1.2.1, .int .i64 g1.2.2, .int .i64 0, .int .i64 1, .int .i64 0, .int .i64 0, .int .i64 0, .int .i64 1] ∧ f 3 = #[.int .i64 g0.1, .int .i64 g0.2.1, .int .i64 g0.2.2, .int .i64 g1.1, .int .i64 g1.2.1, .int .i64 g1.2.2, .int .i64 g2.1, .int .i64 g2.2.1, .int .i64 g2.2.2, .int .i64 0, .int .i64 0, .int .i64 1] ∧ f 4 = #[.int .i64 g0.1, .int .i64 g0.2.1, .int .i64 g0.2.2, .int .i64 g1.1, .int .i64 g1.2.1, .int .i64 g1.2.2, .int .i64 g2.1, .int .i64 g2.2.1, .int .i64 g2.2.2, .int .i64 g3.1, .int .i64 g3.2.1, .int .i64 g3.2.2] := ⟨fun i => match i with | 0 => #[.int .i64 0, .int .i64 0, .int .i64 0, .int .i64 1, .int .i64 0, .int .i64 0, .int .i64 0, .int .i64 1, .int .i64 0, .int .i64 0, .int .i64 0, .int .i64 1] | 1 => #[.int .i64 g0.1, .int .i64 g0.2.1, .int .i64 g0.2.2, .int .i64 1, .int .i64 0, .int .i64 0, .int .i64 0, .int .i64 1, .int .i64 0, .int .i64 0, .int .i64 0, .int .i64 1] | 2 => #[.int .i64 g0.1, .int .i64 g0.2.1, .int .i64 g0.2.2, .int .i64 g1.1, .int .i64 g1.2.1, .int .i64 g1.2.2, .int .i64 0, .int .i64 1, .int .i64 0, .int .i64 0, .int .i64 0, .int .i64 1] | 3 => #[.int .i64 g0.1, .int .i64 g0.2.1, .int .i64 g0.2.2, .int .i64 g1.1, .int .i64 g1.2.1, .int .i64 g1.2.2, .int .i64 g2.1, .int .i64 g2.2.1, .int .i64 g2.2.2, .int .i64 0, .int .i64 0, .int .i64 1] | _ + 4 => #[.int .i64 g0.1, .int .i64 g0.2.1, .int .i64 g0.2.2, .int .i64 g1.1, .int .i64 g1.2.1, .int .i64 g1.2.2, .int .i64 g2.1, .int .i64 g2.2.1, .int .i64 g2.2.2, .int .i64 g3.1, .int .i64 g3.2.1, .int .i64 g3.2.2], rfl, rfl, rfl, rfl, rfl⟩
 have HAr := Lib.hid (And.intro ha0 (And.intro ha1 (And.intro ha2 (And.intro ha3 ha4))))
 have HS0 : Hid (Blk wB gb (arr 0) 83 ∧ Blk wB ga #[.int .i64 0, .int .i64 0, .int .i64 0, .int .i64 1, .int .i64 0, .int .i64 0, .int .i64 0, .int .i64 1, .int .i64 0, .int .i64 0, .int .i64 0, .int .i64 1] 83 ∧ Blk wB w.heap.size #[.int .i64 (t : Nat), .int .i64 d.1, .int .i64 d.2.1, .int .i64 d.2.2] 23 ∧ Blk wB (w.heap.size + 1) #[.int .i64 0, .int .i64 0, .int .i64 0, .int .i64 0] 23 ∧ Below w.heap.size w wB) := Lib.hid (by rw [ha0]; exact HB2.out)
 clear ha0 ha1 ha2 ha3 ha4 HB2
 go_wp2_with fail
 go_loopw [6] (fun iv wx => ∃ i : Nat, i ≤ 4 ∧ iv = .int .i64 i ∧ Hid (Blk wx gb (arr i) 83 ∧ Blk wx ga #[.int .i64 0, .int .i64 0, .int .i64 0, .int .i64 1, .int .i64 0, .int .i64 0, .int .i64 0, .int .i64 1, .int .i64 0, .int .i64 0, .int .i64 0, .int .i64 1] 83 ∧ Blk wx w.heap.size #[.int .i64 (t : Nat), .int .i64 d.1, .int .i64 d.2.1, .int .i64 d.2.2] 23 ∧ Blk wx (w.heap.size + 1) #[.int .i64 0, .int .i64 0, .int .i64 0, .int .i64 0] 23 ∧ Below w.heap.size w wx)) (fun iv _ => 4 - (intOf iv).toNat)
 case atStart => exact ⟨0, by omega, rfl, HS0⟩
 case round =>
  clear HS0
  obtain ⟨i, hi, rfl, HM⟩ := hrel
  obtain hi5 | hi5 : i < 4 ∨ i = 4 := by omega
  ·obtain hi4 | hi4 | hi4 | hi4 : i = 0 ∨ i = 1 ∨ i = 2 ∨ i = 3 := by omega
   ·subst hi4
    have hM := HM.out
    rw [HAr.out.1] at hM
    have HK := Lib.hid hM
    clear hM HM hi hi5
    have ca := HK.out.2.1.cell; have la := HK.out.2.1.lt
    have cm := HK.out.2.2.1.cell; have lm := HK.out.2.2.1.lt
    go_wp2_with fail
    refine wp_region_grow 7 [Is (.int .i64 0), Is (.int .i64 0), Is (.pointer (some ⟨ga, 0, none⟩)), Is (.agg #[.int .i64 0, .int .i64 0, .int .i64 0]), Is (motV (t : Nat) d), Is (clV g0), Is (.pointer (some ⟨gb, 0, none⟩))] (by kernel_rfl) (by kernel_rfl) rfl ⟨fun _ _ _ h _ => h, fun _ _ _ h _ => h, fun _ _ _ h _ => h, fun _ _ _ h _ => h, fun _ _ _ h _ => h, fun _ _ _ h _ => h, fun _ _ _ h _ => h, trivial⟩ ?_
    simp only [List.take_succ_cons, List.take_zero, List.drop_succ_cons, List.drop_zero]
    iterate 5 (refine rel_cons ?_ (fun _ => ?_); · intro w1 hb hF; have hc := (Grows.cells hb).1; have hf := (Grows.cells hb).2; (try simp [facts, Is] at hF); go_simp; exact Grows.refl _)
    refine rel_cons ?_ (fun v5 => ?_)
    ·intro w1 hb hF; have hc := (Grows.cells hb).1; have hf := (Grows.cells hb).2; try simp [facts, Is] at hF
     go_simp
     refine (HC0.out _).mono ?_
     rintro e w2 ⟨rfl, hb2⟩
     first | exact ⟨rfl, hb2⟩ | exact ⟨_, rfl, hb2, trivial, rfl⟩
    refine rel_cons ?_ (fun v6 => ?_)
    ·intro w1 hb hF; have hc := (Grows.cells hb).1; have hf := (Grows.cells hb).2; try simp [facts, Is] at hF
     go_simp
     exact Grows.refl _
    refine rel_nil ?_
    intro w1 hb hF
    simp [Is, Nat.forall_lt_succ_right] at hF
    simp only [Act.put, List.setIfInBounds_toArray, List.set_cons_succ, List.set_cons_zero, hF]
    clear hF
    have hbw : Below wr.heap.size wr w1 := hb
    have kB := HK.out.1.grow hbw
    have ho := HO.out
    have HE := Lib.hid (And.intro (kB.rowS #[.int .i64 g0.1, .int .i64 g0.2.1, .int .i64 g0.2.2, .int .i64 1, .int .i64 0, .int .i64 0, .int .i64 0, .int .i64 1, .int .i64 0, .int .i64 0, .int .i64 0, .int .i64 1]) (And.intro ((HK.out.2.1.grow hbw).rowO (g := gb) #[.int .i64 g0.1, .int .i64 g0.2.1, .int .i64 g0.2.2, .int .i64 1, .int .i64 0, .int .i64 0, .int .i64 0, .int .i64 1, .int .i64 0, .int .i64 0, .int .i64 0, .int .i64 1] (by omega)) (And.intro ((HK.out.2.2.1.grow hbw).rowO (g := gb) #[.int .i64 g0.1, .int .i64 g0.2.1, .int .i64 g0.2.2, .int .i64 1, .int .i64 0, .int .i64 0, .int .i64 0, .int .i64 1, .int .i64 0, .int .i64 0, .int .i64 0, .int .i64 1] (by omega)) (And.intro ((HK.out.2.2.2.1.grow hbw).rowO (g := gb) #[.int .i64 g0.1, .int .i64 g0.2.1, .int .i64 g0.2.2, .int .i64 1, .int .i64 0, .int .i64 0, .int .i64 0, .int .i64 1, .int .i64 0, .int .i64 0, .int .i64 0, .int .i64 1] (by omega)) (bel_row (bel_trans HK.out.2.2.2.2 hbw) (g := gb) (by omega) #[.int .i64 g0.1, .int .i64 g0.2.1, .int .i64 g0.2.2, .int .i64 1, .int .i64 0, .int .i64 0, .int .i64 0, .int .i64 1, .int .i64 0, .int .i64 0, .int .i64 0, .int .i64 1])))))
    have rb := kB.row; have lb := kB.lt
    rw [← kB.rw]
    clear kB ho hb hbw HK ca la cm lm
    go_wp2_with fail
    go_roundw
    case rel =>
     refine ⟨1, by omega, by first | rfl | go_num, Lib.hid ?_⟩
     rw [HAr.out.2.1]
     exact HE.out
    case measure => simp [intOf]
   ·subst hi4
    have hM := HM.out
    rw [HAr.out.2.1] at hM
    have HK := Lib.hid hM
    clear hM HM hi hi5
    have ca := HK.out.2.1.cell; have la := HK.out.2.1.lt
    have cm := HK.out.2.2.1.cell; have lm := HK.out.2.2.1.lt
    go_wp2_with fail
    refine wp_region_grow 7 [Is (.int .i64 1), Is (.int .i64 1), Is (.pointer (some ⟨ga, 3, none⟩)), Is (.agg #[.int .i64 1, .int .i64 0, .int .i64 0]), Is (motV (t : Nat) d), Is (clV g1), Is (.pointer (some ⟨gb, 3, none⟩))] (by kernel_rfl) (by kernel_rfl) rfl ⟨fun _ _ _ h _ => h, fun _ _ _ h _ => h, fun _ _ _ h _ => h, fun _ _ _ h _ => h, fun _ _ _ h _ => h, fun _ _ _ h _ => h, fun _ _ _ h _ => h, trivial⟩ ?_
    simp only [List.take_succ_cons, List.take_zero, List.drop_succ_cons, List.drop_zero]
    iterate 5 (refine rel_cons ?_ (fun _ => ?_); · intro w1 hb hF; have hc := (Grows.cells hb).1; have hf := (Grows.cells hb).2; (try simp [facts, Is] at hF); go_simp; exact Grows.refl _)
    refine rel_cons ?_ (fun v5 => ?_)
    ·intro w1 hb hF; have hc := (Grows.cells hb).1; have hf := (Grows.cells hb).2; try simp [facts, Is] at hF
     go_simp
     refine (HC1.out _).mono ?_
     rintro e w2 ⟨rfl, hb2⟩
     first | exact ⟨rfl, hb2⟩ | exact ⟨_, rfl, hb2, trivial, rfl⟩
    refine rel_cons ?_ (fun v6 => ?_)
    ·intro w1 hb hF; have hc := (Grows.cells hb).1; have hf := (Grows.cells hb).2; try simp [facts, Is] at hF
     go_simp
     exact Grows.refl _
    refine rel_nil ?_
    intro w1 hb hF
    simp [Is, Nat.forall_lt_succ_right] at hF
    simp only [Act.put, List.setIfInBounds_toArray, List.set_cons_succ, List.set_cons_zero, hF]
    clear hF
    have hbw : Below wr.heap.size wr w1 := hb
    have kB := HK.out.1.grow hbw
    have ho := HO.out
    have HE := Lib.hid (And.intro (kB.rowS #[.int .i64 g0.1, .int .i64 g0.2.1, .int .i64 g0.2.2, .int .i64 g1.1, .int .i64 g1.2.1, .int .i64 g1.2.2, .int .i64 0, .int .i64 1, .int .i64 0, .int .i64 0, .int .i64 0, .int .i64 1]) (And.intro ((HK.out.2.1.grow hbw).rowO (g := gb) #[.int .i64 g0.1, .int .i64 g0.2.1, .int .i64 g0.2.2, .int .i64 g1.1, .int .i64 g1.2.1, .int .i64 g1.2.2, .int .i64 0, .int .i64 1, .int .i64 0, .int .i64 0, .int .i64 0, .int .i64 1] (by omega)) (And.intro ((HK.out.2.2.1.grow hbw).rowO (g := gb) #[.int .i64 g0.1, .int .i64 g0.2.1, .int .i64 g0.2.2, .int .i64 g1.1, .int .i64 g1.2.1, .int .i64 g1.2.2, .int .i64 0, .int .i64 1, .int .i64 0, .int .i64 0, .int .i64 0, .int .i64 1] (by omega)) (And.intro ((HK.out.2.2.2.1.grow hbw).rowO (g := gb) #[.int .i64 g0.1, .int .i64 g0.2.1, .int .i64 g0.2.2, .int .i64 g1.1, .int .i64 g1.2.1, .int .i64 g1.2.2, .int .i64 0, .int .i64 1, .int .i64 0, .int .i64 0, .int .i64 0, .int .i64 1] (by omega)) (bel_row (bel_trans HK.out.2.2.2.2 hbw) (g := gb) (by omega) #[.int .i64 g0.1, .int .i64 g0.2.1, .int .i64 g0.2.2, .int .i64 g1.1, .int .i64 g1.2.1, .int .i64 g1.2.2, .int .i64 0, .int .i64 1, .int .i64 0, .int .i64 0, .int .i64 0, .int .i64 1])))))
    have rb := kB.row; have lb := kB.lt
    rw [← kB.rw]
    clear kB ho hb hbw HK ca la cm lm
    go_wp2_with fail
    go_roundw
    case rel =>
     refine ⟨2, by omega, by first | rfl | go_num, Lib.hid ?_⟩
     rw [HAr.out.2.2.1]
     exact HE.out
    case measure => simp [intOf]
   ·subst hi4
    have hM := HM.out
    rw [HAr.out.2.2.1] at hM
    have HK := Lib.hid hM
    clear hM HM hi hi5
    have ca := HK.out.2.1.cell; have la := HK.out.2.1.lt
    have cm := HK.out.2.2.1.cell; have lm := HK.out.2.2.1.lt
    go_wp2_with fail
    refine wp_region_grow 7 [Is (.int .i64 2), Is (.int .i64 2), Is (.pointer (some ⟨ga, 6, none⟩)), Is (.agg #[.int .i64 0, .int .i64 1, .int .i64 0]), Is (motV (t : Nat) d), Is (clV g2), Is (.pointer (some ⟨gb, 6, none⟩))] (by kernel_rfl) (by kernel_rfl) rfl ⟨fun _ _ _ h _ => h, fun _ _ _ h _ => h, fun _ _ _ h _ => h, fun _ _ _ h _ => h, fun _ _ _ h _ => h, fun _ _ _ h _ => h, fun _ _ _ h _ => h, trivial⟩ ?_
    simp only [List.take_succ_cons, List.take_zero, List.drop_succ_cons, List.drop_zero]
    iterate 5 (refine rel_cons ?_ (fun _ => ?_); · intro w1 hb hF; have hc := (Grows.cells hb).1; have hf := (Grows.cells hb).2; (try simp [facts, Is] at hF); go_simp; exact Grows.refl _)
    refine rel_cons ?_ (fun v5 => ?_)
    ·intro w1 hb hF; have hc := (Grows.cells hb).1; have hf := (Grows.cells hb).2; try simp [facts, Is] at hF
     go_simp
     refine (HC2.out _).mono ?_
     rintro e w2 ⟨rfl, hb2⟩
     first | exact ⟨rfl, hb2⟩ | exact ⟨_, rfl, hb2, trivial, rfl⟩
    refine rel_cons ?_ (fun v6 => ?_)
    ·intro w1 hb hF; have hc := (Grows.cells hb).1; have hf := (Grows.cells hb).2; try simp [facts, Is] at hF
     go_simp
     exact Grows.refl _
    refine rel_nil ?_
    intro w1 hb hF
    simp [Is, Nat.forall_lt_succ_right] at hF
    simp only [Act.put, List.setIfInBounds_toArray, List.set_cons_succ, List.set_cons_zero, hF]
    clear hF
    have hbw : Below wr.heap.size wr w1 := hb
    have kB := HK.out.1.grow hbw
    have ho := HO.out
    have HE := Lib.hid (And.intro (kB.rowS #[.int .i64 g0.1, .int .i64 g0.2.1, .int .i64 g0.2.2, .int .i64 g1.1, .int .i64 g1.2.1, .int .i64 g1.2.2, .int .i64 g2.1, .int .i64 g2.2.1, .int .i64 g2.2.2, .int .i64 0, .int .i64 0, .int .i64 1]) (And.intro ((HK.out.2.1.grow hbw).rowO (g := gb) #[.int .i64 g0.1, .int .i64 g0.2.1, .int .i64 g0.2.2, .int .i64 g1.1, .int .i64 g1.2.1, .int .i64 g1.2.2, .int .i64 g2.1, .int .i64 g2.2.1, .int .i64 g2.2.2, .int .i64 0, .int .i64 0, .int .i64 1] (by omega)) (And.intro ((HK.out.2.2.1.grow hbw).rowO (g := gb) #[.int .i64 g0.1, .int .i64 g0.2.1, .int .i64 g0.2.2, .int .i64 g1.1, .int .i64 g1.2.1, .int .i64 g1.2.2, .int .i64 g2.1, .int .i64 g2.2.1, .int .i64 g2.2.2, .int .i64 0, .int .i64 0, .int .i64 1] (by omega)) (And.intro ((HK.out.2.2.2.1.grow hbw).rowO (g := gb) #[.int .i64 g0.1, .int .i64 g0.2.1, .int .i64 g0.2.2, .int .i64 g1.1, .int .i64 g1.2.1, .int .i64 g1.2.2, .int .i64 g2.1, .int .i64 g2.2.1, .int .i64 g2.2.2, .int .i64 0, .int .i64 0, .int .i64 1] (by omega)) (bel_row (bel_trans HK.out.2.2.2.2 hbw) (g := gb) (by omega) #[.int .i64 g0.1, .int .i64 g0.2.1, .int .i64 g0.2.2, .int .i64 g1.1, .int .i64 g1.2.1, .int .i64 g1.2.2, .int .i64 g2.1, .int .i64 g2.2.1, .int .i64 g2.2.2, .int .i64 0, .int .i64 0, .int .i64 1])))))
    have rb := kB.row; have lb := kB.lt
    rw [← kB.rw]
    clear kB ho hb hbw HK ca la cm lm
    go_wp2_with fail
    go_roundw
    case rel =>
     refine ⟨3, by omega, by first | rfl | go_num, Lib.hid ?_⟩
     rw [HAr.out.2.2.2.1]
     exact HE.out
    case measure => simp [intOf]
   ·subst hi4
    have hM := HM.out
    rw [HAr.out.2.2.2.1] at hM
    have HK := Lib.hid hM
    clear hM HM hi hi5
    have ca := HK.out.2.1.cell; have la := HK.out.2.1.lt
    have cm := HK.out.2.2.1.cell; have lm := HK.out.2.2.1.lt
    go_wp2_with fail
    refine wp_region_grow 7 [Is (.int .i64 3), Is (.int .i64 3), Is (.pointer (some ⟨ga, 9, none⟩)), Is (.agg #[.int .i64 0, .int .i64 0, .int .i64 1]), Is (motV (t : Nat) d), Is (clV g3), Is (.pointer (some ⟨gb, 9, none⟩))] (by kernel_rfl) (by kernel_rfl) rfl ⟨fun _ _ _ h _ => h, fun _ _ _ h _ => h, fun _ _ _ h _ => h, fun _ _ _ h _ => h, fun _ _ _ h _ => h, fun _ _ _ h _ => h, fun _ _ _ h _ => h, trivial⟩ ?_
    simp only [List.take_succ_cons, List.take_zero, List.drop_succ_cons, List.drop_zero]
    iterate 5 (refine rel_cons ?_ (fun _ => ?_); · intro w1 hb hF; have hc := (Grows.cells hb).1; have hf := (Grows.cells hb).2; (try simp [facts, Is] at hF); go_simp; exact Grows.refl _)
    refine rel_cons ?_ (fun v5 => ?_)
    ·intro w1 hb hF; have hc := (Grows.cells hb).1; have hf := (Grows.cells hb).2; try simp [facts, Is] at hF
     go_simp
     refine (HC3.out _).mono ?_
     rintro e w2 ⟨rfl, hb2⟩
     first | exact ⟨rfl, hb2⟩ | exact ⟨_, rfl, hb2, trivial, rfl⟩
    refine rel_cons ?_ (fun v6 => ?_)
    ·intro w1 hb hF; have hc := (Grows.cells hb).1; have hf := (Grows.cells hb).2; try simp [facts, Is] at hF
     go_simp
     exact Grows.refl _
    refine rel_nil ?_
    intro w1 hb hF
    simp [Is, Nat.forall_lt_succ_right] at hF
    simp only [Act.put, List.setIfInBounds_toArray, List.set_cons_succ, List.set_cons_zero, hF]
    clear hF
    have hbw : Below wr.heap.size wr w1 := hb
    have kB := HK.out.1.grow hbw
    have ho := HO.out
    have HE := Lib.hid (And.intro (kB.rowS #[.int .i64 g0.1, .int .i64 g0.2.1, .int .i64 g0.2.2, .int .i64 g1.1, .int .i64 g1.2.1, .int .i64 g1.2.2, .int .i64 g2.1, .int .i64 g2.2.1, .int .i64 g2.2.2, .int .i64 g3.1, .int .i64 g3.2.1, .int .i64 g3.2.2]) (And.intro ((HK.out.2.1.grow hbw).rowO (g := gb) #[.int .i64 g0.1, .int .i64 g0.2.1, .int .i64 g0.2.2, .int .i64 g1.1, .int .i64 g1.2.1, .int .i64 g1.2.2, .int .i64 g2.1, .int .i64 g2.2.1, .int .i64 g2.2.2, .int .i64 g3.1, .int .i64 g3.2.1, .int .i64 g3.2.2] (by omega)) (And.intro ((HK.out.2.2.1.grow hbw).rowO (g := gb) #[.int .i64 g0.1, .int .i64 g0.2.1, .int .i64 g0.2.2, .int .i64 g1.1, .int .i64 g1.2.1, .int .i64 g1.2.2, .int .i64 g2.1, .int .i64 g2.2.1, .int .i64 g2.2.2, .int .i64 g3.1, .int .i64 g3.2.1, .int .i64 g3.2.2] (by omega)) (And.intro ((HK.out.2.2.2.1.grow hbw).rowO (g := gb) #[.int .i64 g0.1, .int .i64 g0.2.1, .int .i64 g0.2.2, .int .i64 g1.1, .int .i64 g1.2.1, .int .i64 g1.2.2, .int .i64 g2.1, .int .i64 g2.2.1, .int .i64 g2.2.2, .int .i64 g3.1, .int .i64 g3.2.1, .int .i64 g3.2.2] (by omega)) (bel_row (bel_trans HK.out.2.2.2.2 hbw) (g := gb) (by omega) #[.int .i64 g0.1, .int .i64 g0.2.1, .int .i64 g0.2.2, .int .i64 g1.1, .int .i64 g1.2.1, .int .i64 g1.2.2, .int .i64 g2.1, .int .i64 g2.2.1, .int .i64 g2.2.2, .int .i64 g3.1, .int .i64 g3.2.1, .int .i64 g3.2.2])))))
    have rb := kB.row; have lb := kB.lt
    rw [← kB.rw]
    clear kB ho hb hbw HK ca la cm lm
    go_wp2_with fail
    go_roundw
    case rel =>
     refine ⟨4, by omega, by first | rfl | go_num, Lib.hid ?_⟩
     rw [HAr.out.2.2.2.2]
     exact HE.out
    case measure => simp [intOf]
  ·subst hi5
   have hM := HM.out
   rw [HAr.out.2.2.2.2] at hM
   have HK := Lib.hid hM
   clear hM HM hi
   have ca := HK.out.2.1.cell; have la := HK.out.2.1.lt
   have cb := HK.out.1.cell; have lb := HK.out.1.lt
   go_wp2_with fail
   refine (HOf.out _).mono ?_
   rintro e w5 ⟨rfl, hb⟩
   obtain ⟨wD, hwD⟩ : ∃ x, x = w5.alloc (.cells #[.int .i64 (k : Nat), .int .i64 r.1, .int .i64 r.2.1, .int .i64 r.2.2] 23) := ⟨_, rfl⟩
   obtain ⟨g7, hg7⟩ : ∃ x, x = w5.heap.size := ⟨_, rfl⟩
   have HD : Hid (Blk wD g7 #[.int .i64 (k : Nat), .int .i64 r.1, .int .i64 r.2.1, .int .i64 r.2.2] 23 ∧ Blk wD (w.heap.size + 1) #[.int .i64 0, .int .i64 0, .int .i64 0, .int .i64 0] 23 ∧ Below w.heap.size w wD ∧ w.heap.size + 1 < g7) := Lib.hid (by
    rw [hwD, hg7]
    exact ⟨Blk.new _ _ _, (HK.out.2.2.2.1.grow hb).alloc _, bel_alloc (bel_trans HK.out.2.2.2.2 hb) _, (HK.out.2.2.2.1.grow hb).lt⟩)
   go_upto_region 10 with fail
   rw [← hwD, ← hg7]
   clear hwD hg7 hb HK ca la cb lb
   have k2 := HD.out.2.1
   have ho := HD.out.2.2.2
   have c7 := (HD.out.1.rowO (g := w.heap.size + 1) #[.int .i64 0, .int .i64 0, .int .i64 0, .int .i64 0] (by omega)).cell; have l7 := HD.out.1.lt
   have r2 := k2.row; have l2 := k2.lt
   have cF := (k2.rowS #[.int .i64 (k : Nat), .int .i64 r.1, .int .i64 r.2.1, .int .i64 r.2.2]).cell
   have hb5 := bel_row HD.out.2.2.1 (g := w.heap.size + 1) (by omega) #[.int .i64 (k : Nat), .int .i64 r.1, .int .i64 r.2.1, .int .i64 r.2.2]
   rw [← k2.rw]
   clear k2 ho
   go_wp2_with fail
   exact bodyPost_ret (v := .tuple #[motV (k : Nat) r, .int .i64 0]) (by simp [results, Tryz.results23, go_sem, cF]) rfl ⟨rfl, hb5⟩
end Go.Proofs.YtkfimbonmnoglaaGreatDoor
end
