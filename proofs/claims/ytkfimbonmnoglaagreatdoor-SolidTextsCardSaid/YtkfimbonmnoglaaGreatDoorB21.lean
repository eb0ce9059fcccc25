import Derived.Test.YtkfimbonmnoglaaGreatDoorB20
import Derived.Deep.Cut
/-
  Given contracts of functions of the program, and laws for them, one behind the other.
-/
set_option linter.unusedVariables false
set_option linter.unusedSimpArgs false
set_option linter.unusedSectionVars false
section
namespace Go.Proofs.YtkfimbonmnoglaaGreatDoor
open Go.RowKit Go.Rel Go.Draw Go.Solid
set_option maxRecDepth 100000
attribute [local go_sem] Oper.semAt_some
theorem add_in {c d : Cl} (hc : inG c = true) (hd : -1 ≤ d.1 ∧ d.1 ≤ 1 ∧ -1 ≤ d.2.1 ∧ d.2.1 ≤ 1 ∧ -1 ≤ d.2.2 ∧ d.2.2 ≤ 1) :
  IntKind.i64.wrap (c.1 + d.1) = (addC c d).1 ∧ IntKind.i64.wrap (c.2.1 + d.2.1) = (addC c d).2.1 ∧ IntKind.i64.wrap (c.2.2 + d.2.2) = (addC c d).2.2 := by
 have hG := inG_iff.1 hc
 refine ⟨IntWalk.i64_in _ ⟨?_, ?_⟩, IntWalk.i64_in _ ⟨?_, ?_⟩, IntWalk.i64_in _ ⟨?_, ?_⟩⟩ <;> omega
theorem del_cell (T : Sol) {c : Cl} (h : inG c = true) {Z : Nat} (hZ : c.2.2 = (Z : Int)) : bits .andNot .u64 (pl T Z) (uI (bitP c)) = pl (delS T c) Z := by
 obtain ⟨Z', j, h1, h2, h3, h4, h5⟩ := cellZ h
 obtain rfl : Z = Z' := by omega
 unfold delS
 have := bits_andNot_pl T (Go.Solid.one (bitN c)) Z h2
 rw [← this, pl_uI (Go.Solid.one (bitN c)), h5, h4, plv_cell h2 h3 h2, if_pos rfl]
theorem cell_del (T : Sol) {c : Cl} (h : inG c = true) {Z : Nat} (hZ : c.2.2 = (Z : Int)) : (mixA fun i => pl T i).setIfInBounds Z (.int .u64 (pl (delS T c) Z)) = mixA fun i => pl (delS T c) i := by
 obtain ⟨Z', j, h1, h2, h3, h4, h5⟩ := cellZ h
 obtain rfl : Z = Z' := by omega
 rw [mixA_set _ h2]
 refine mixA_eq fun i hi => ?_
 by_cases e : i = Z
 ·subst e; simp
 ·simp only [e, if_false]
  unfold delS
  rw [pl_uI, pl_uI, plv_andNot _ _ _ hi, h4, plv_cell h2 h3 hi, if_neg e]
  congr 1
  simp
  rw [show (18446744073709551615#64) = BitVec.allOnes 64 from rfl, BitVec.and_allOnes]
def VisI (W0 : World) (bl bst bv bc : Nat) (sv : Value) (l k : Sol) (W : World) : Prop :=
 Below W0.heap.size W0 W ∧ Blk W bl #[.int .u64 (pl l 0), .int .u64 (pl l 1), .int .u64 (pl l 2), .int .u64 (pl l 3), .int .u64 (pl l 4), .int .u64 (pl l 5), .int .u64 (pl l 6), .int .u64 (pl l 7)] 26 ∧ Blk W bst #[sv] 71 ∧ Blk W bv #[.func (.func 145) #[] #[.pointer (some ⟨bl, 0, none⟩), .pointer (some ⟨bst, 0, none⟩), .pointer (some ⟨bv, 0, none⟩)]] 132 ∧ Blk W bc #[.int .u64 (pl k 0), .int .u64 (pl k 1), .int .u64 (pl k 2), .int .u64 (pl k 3), .int .u64 (pl k 4), .int .u64 (pl k 5), .int .u64 (pl k 6), .int .u64 (pl k 7)] 26
theorem VisI.bel {W0 : World} {bl bst bv bc : Nat} {sv : Value} {l k : Sol} {W W' : World} (h : VisI W0 bl bst bv bc sv l k W) (hb : Below W.heap.size W W') : VisI W0 bl bst bv bc sv l k W' :=
 ⟨bel_trans h.1 hb, h.2.1.grow hb, h.2.2.1.grow hb, h.2.2.2.1.grow hb, h.2.2.2.2.grow hb⟩
def VisP (W0 : World) (bl bst bv bc : Nat) : Prop := W0.heap.size ≤ bl ∧ W0.heap.size ≤ bc ∧ bl ≠ bc ∧ bl ≠ bst ∧ bl ≠ bv ∧ bc ≠ bst ∧ bc ≠ bv
theorem VisI.setL {W0 : World} {bl bst bv bc : Nat} {sv : Value} {l k l' : Sol} {W W' : World} (hp : VisP W0 bl bst bv bc) (h : VisI W0 bl bst bv bc sv l k W) (hg : W.grownBy W' (some bl)) (hB : Blk W' bl #[.int .u64 (pl l' 0), .int .u64 (pl l' 1), .int .u64 (pl l' 2), .int .u64 (pl l' 3), .int .u64 (pl l' 4), .int .u64 (pl l' 5), .int .u64 (pl l' 6), .int .u64 (pl l' 7)] 26) : VisI W0 bl bst bv bc sv l' k W' := by
 obtain ⟨p1, p2, p3, p4, p5, p6, p7⟩ := hp
 refine ⟨h.1.grown hg h.1.size (fun r e => by cases e; exact p1), hB, h.2.2.1.gb hg ?_, h.2.2.2.1.gb hg ?_, h.2.2.2.2.gb hg ?_⟩
 all_goals (intro e; cases e; omega)
theorem VisI.setK {W0 : World} {bl bst bv bc : Nat} {sv : Value} {l k k' : Sol} {W W' : World} (hp : VisP W0 bl bst bv bc) (h : VisI W0 bl bst bv bc sv l k W) (hg : W.grownBy W' (some bc)) (hB : Blk W' bc #[.int .u64 (pl k' 0), .int .u64 (pl k' 1), .int .u64 (pl k' 2), .int .u64 (pl k' 3), .int .u64 (pl k' 4), .int .u64 (pl k' 5), .int .u64 (pl k' 6), .int .u64 (pl k' 7)] 26) : VisI W0 bl bst bv bc sv l k' W' := by
 obtain ⟨p1, p2, p3, p4, p5, p6, p7⟩ := hp
 refine ⟨h.1.grown hg h.1.size (fun r e => by cases e; exact p2), h.2.1.gb hg ?_, h.2.2.1.gb hg ?_, h.2.2.2.1.gb hg ?_, hB⟩
 all_goals (intro e; cases e; omega)
abbrev VisW (bl bc : Nat) : Nat → Prop := fun i => i = bl ∨ i = bc
attribute [local irreducible] delS cutS visN hasS countS stepsL addC
set_option maxHeartbeats 4000000 in
theorem visit_no {W0 : World} {bl bst bv bc : Nat} {sv : Value} {l k : Sol} {c : Cl} {W : World} (h : hasS l c = false) (hV : VisI W0 bl bst bv bc sv l k W) :
  Calls Tryz.prog 145 #[.pointer (some ⟨bc, 0, none⟩), clV c, .pointer (some ⟨bl, 0, none⟩), .pointer (some ⟨bst, 0, none⟩), .pointer (some ⟨bv, 0, none⟩)] W fun e w' => e = .returned (.tuple #[]) ∧ Below W.heap.size W w' := by
 have HH := Lib.hid (fun W => has_spec l c W)
 rw [h] at HH
 have cl := hV.2.1.cell; have ll := hV.2.1.lt
 obtain ⟨x, y, z⟩ := c
 clear h hV
 go_enter Tryz.func145, Tryz.ntmps145
 go_wp2_with fail
 refine (HH.out _).mono ?_
 rintro e w2 ⟨rfl, hb2⟩
 have hb := Lib.hid (bel_trans (show Below W.heap.size W _ from (by repeat (first | with_reducible exact bel_refl _ | with_reducible assumption | with_reducible refine bel_drewN ?_ _ | with_reducible refine bel_drew ?_ | with_reducible refine bel_alloc ?_ _ | with_reducible refine bel_row ?_ ?_ _ | with_reducible refine bel_set ?_ ?_ _ | refine bel_trans ?_ (by with_reducible assumption) | (simp; done) | (simp; omega)))) hb2)
 clear hb2
 go_wp2_with fail
 exact bodyPost_ret (v := .tuple #[]) (by simp [results, Tryz.results145, go_sem]) rfl ⟨rfl, hb.out⟩
set_option maxHeartbeats 16000000 in
theorem visit_yes {W0 : World} {bl bst bv bc bs of cap n : Nat} {St : List Cl} {l k : Sol} {c : Cl} {W : World} (hC : Cells W0 bs of 3 (St.map clL)) (hp : VisP W0 bl bst bv bc) (hcap : St.length ≤ cap) (hc2 : St.length ≤ 1000000) (hSt : ∀ d ∈ St, -1 ≤ d.1 ∧ d.1 ≤ 1 ∧ -1 ≤ d.2.1 ∧ d.2.1 ≤ 1 ∧ -1 ≤ d.2.2 ∧ d.2.2 ≤ 1)
  (ih : ∀ (l k : Sol) (c : Cl) (W : World), countS l ≤ n → VisI W0 bl bst bv bc (.slice (some ⟨bs, of, none⟩) St.length cap) l k W → Calls Tryz.prog 145 #[.pointer (some ⟨bc, 0, none⟩), clV c, .pointer (some ⟨bl, 0, none⟩), .pointer (some ⟨bst, 0, none⟩), .pointer (some ⟨bv, 0, none⟩)] W fun e w' => e = .returned (.tuple #[]) ∧ VisI W0 bl bst bv bc (.slice (some ⟨bs, of, none⟩) St.length cap) (visN St n l c) (k ||| cutS l (visN St n l c)) w' ∧ KeepsBut (VisW bl bc) W w')
  (h : hasS l c = true) (hn : countS l ≤ n + 1) (hV : VisI W0 bl bst bv bc (.slice (some ⟨bs, of, none⟩) St.length cap) l k W) :
  Calls Tryz.prog 145 #[.pointer (some ⟨bc, 0, none⟩), clV c, .pointer (some ⟨bl, 0, none⟩), .pointer (some ⟨bst, 0, none⟩), .pointer (some ⟨bv, 0, none⟩)] W fun e w' => e = .returned (.tuple #[]) ∧ VisI W0 bl bst bv bc (.slice (some ⟨bs, of, none⟩) St.length cap) (visN St (n + 1) l c) (k ||| cutS l (visN St (n + 1) l c)) w' ∧ KeepsBut (VisW bl bc) W w' := by
 have hg : inG c = true := has_in h
 obtain ⟨R, hR⟩ : ∃ R, R = visN St (n + 1) l c := ⟨_, rfl⟩
 have HR : Hid (St.foldl (fun l d => visN St n l (addC c d)) (delS l c) = R) := Lib.hid (by rw [hR]; exact (vis_yes h).symm)
 rw [← hR]
 clear hR
 have HA := Lib.hid (fun d hd => add_in hg (hSt d hd))
 have HBI := Lib.hid (fun W => bit_spec hg W)
 have HH := Lib.hid (fun W => has_spec l c W)
 rw [h] at HH
 have hcnt : countS (delS l c) ≤ n := by have := del_count h; omega
 have HSB := Lib.hid (And.intro (del_sub h) (And.intro hcnt (cut_del (k := k) h)))
 have hsub : subS (delS l c) l = true := del_sub h
 have IH := Lib.hid ih
 have hn32 : St.length ≤ 1000000 := hc2
 have hbc : bl < W.heap.size := hV.2.1.lt
 have hbd : bc < W.heap.size := hV.2.2.2.2.lt
 have HC := Lib.hid (And.intro hC hp)
 clear ih hn hcnt hsub hC hSt
 obtain ⟨x, y, z⟩ := c
 obtain ⟨Z, hZ, hZ8⟩ : ∃ Z : Nat, z = (Z : Int) ∧ Z < 8 := by
  obtain ⟨Z, j, hZ, hZ8, _⟩ := cellZ hg
  exact ⟨Z, hZ, hZ8⟩
 subst hZ
 obtain ⟨l2, hl2⟩ : ∃ l2, l2 = delS l (x, y, (Z : Int)) := ⟨_, rfl⟩
 obtain ⟨k2, hk2⟩ : ∃ k2, k2 = k ||| Go.Solid.one (bitN (x, y, (Z : Int))) := ⟨_, rfl⟩
 have eo1 : bits .andNot .u64 (pl l Z) (uI (bitP (x, y, (Z : Int)))) = pl l2 Z := by rw [hl2]; exact del_cell l hg rfl
 have eo2 : bits .or .u64 (pl k Z) (uI (bitP (x, y, (Z : Int)))) = pl k2 Z := by rw [hk2]; exact or_cell k hg rfl
 have HS8 : Hid ((#[.int .u64 (pl l 0), .int .u64 (pl l 1), .int .u64 (pl l 2), .int .u64 (pl l 3), .int .u64 (pl l 4), .int .u64 (pl l 5), .int .u64 (pl l 6), .int .u64 (pl l 7)] : Array Value).setIfInBounds Z (.int .u64 (pl l2 Z)) = #[.int .u64 (pl l2 0), .int .u64 (pl l2 1), .int .u64 (pl l2 2), .int .u64 (pl l2 3), .int .u64 (pl l2 4), .int .u64 (pl l2 5), .int .u64 (pl l2 6), .int .u64 (pl l2 7)]) := Lib.hid (by rw [hl2]; exact cell_del l hg rfl)
 have HS11 : Hid ((#[.int .u64 (pl k 0), .int .u64 (pl k 1), .int .u64 (pl k 2), .int .u64 (pl k 3), .int .u64 (pl k 4), .int .u64 (pl k 5), .int .u64 (pl k 6), .int .u64 (pl k 7)] : Array Value).setIfInBounds Z (.int .u64 (pl k2 Z)) = #[.int .u64 (pl k2 0), .int .u64 (pl k2 1), .int .u64 (pl k2 2), .int .u64 (pl k2 3), .int .u64 (pl k2 4), .int .u64 (pl k2 5), .int .u64 (pl k2 6), .int .u64 (pl k2 7)]) := Lib.hid (by rw [hk2]; exact cell_set k hg rfl)
 rw [← hl2, ← hk2] at HSB
 rw [← hl2] at HR
 clear hl2 hk2 h hg
 have cl := hV.2.1.cell
 have HV := Lib.hid hV
 clear hV
 go_enter Tryz.func145, Tryz.ntmps145
 go_wp2_with fail
 refine (HH.out _).mono ?_
 rintro e wA ⟨rfl, hbA⟩
 have hbW : Below W.heap.size W wA := bel_trans (by repeat (first | with_reducible exact bel_refl _ | with_reducible assumption | with_reducible refine bel_drewN ?_ _ | with_reducible refine bel_drew ?_ | with_reducible refine bel_alloc ?_ _ | with_reducible refine bel_row ?_ ?_ _ | with_reducible refine bel_set ?_ ?_ _ | refine bel_trans ?_ (by with_reducible assumption) | (simp; done) | (simp; omega))) hbA
 have bX : Blk wA W.heap.size #[.int .i64 x, .int .i64 y, .int .i64 (Z : Int)] 60 := (Blk.new W _ _).grow hbA
 have hVA := HV.out.bel hbW
 have HBX := Lib.hid bX
 have HVA := Lib.hid (And.intro hVA hbW)
 have lA := hVA.2.1.lt
 clear cl hbA hbW bX hVA HH
 go_wp2_with fail
 refine wp_region_val (GbN bl) (fun L vs W => I8s bl l l2 (L 8) W) [Is (.pointer (some ⟨W.heap.size, 2, none⟩)), Is (.int .i64 (Z : Int)), Is (.pointer (some ⟨bl, Z, none⟩)), Is (.int .u64 (pl l Z)), Is (.agg #[.int .i64 x, .int .i64 y, .int .i64 (Z : Int)]), Is (.int .u64 (uI (bitP (x, y, (Z : Int))))), Is (.int .u64 (pl l2 Z)), Is (.pointer (some ⟨bl, Z, none⟩)), AnyV] (by kernel_rfl) (by kernel_rfl) rfl (fun W => gb_refl W _) (GbN.trans bl) (stable_mem ⟨fun _ _ _ h _ => h, fun _ _ _ h _ => h, fun _ _ _ h _ => h, fun _ _ _ h _ => h, fun _ _ _ h _ => h, fun _ _ _ h _ => h, fun _ _ _ h _ => h, fun _ _ _ h _ => h, fun _ _ _ h _ => h, trivial⟩) wA (gb_drew (gb_refl _ _)) (⟨fun _ => HVA.out.1.2.1, fun e => (by cases e)⟩) ?_
 refine val_cons ?_ (fun v0 => ?_)
 ·intro L vs w1 hvs hat hb hI hF; try simp [factsI, Region.binds, Is] at hF
  have HI2 := Lib.hid hI; clear hI
  go_simp
  first | exact ⟨gb_refl _ _, HI2.out⟩ | exact HI2.out | exact ⟨HI2.out, trivial⟩
 refine val_cons ?_ (fun v1 => ?_)
 ·intro L vs w1 hvs hat hb hI hF; try simp [factsI, Region.binds, Is] at hF
  have cD := (HBX.out.gb hb (by simp; omega)).cell; have lD := (HBX.out.gb hb (by simp; omega)).lt
  have HI2 := Lib.hid hI; clear hI
  go_simp
  first | exact ⟨gb_refl _ _, HI2.out⟩ | exact HI2.out | exact ⟨HI2.out, trivial⟩
 refine val_cons ?_ (fun v2 => ?_)
 ·intro L vs w1 hvs hat hb hI hF; try simp [factsI, Region.binds, Is] at hF
  have hz9 : (Z : Int) < 8 := by omega
  have HI2 := Lib.hid hI; clear hI
  go_simp
  try rw [if_pos hz9]
  first | exact ⟨gb_refl _ _, HI2.out⟩ | exact HI2.out | exact ⟨HI2.out, trivial⟩ | exact ⟨gb_refl _ _, HI2.out, rfl⟩
 refine val_cons ?_ (fun v3 => ?_)
 ·intro L vs w1 hvs hat hb hI hF; try simp [factsI, Region.binds, Is] at hF
  have h8 := hat.later 9 8 (by kernel_rfl)
  have c6 := ((hI.1 h8).cell Z).trans (getZ l hZ8)
  have l6 := (hI.1 h8).lt
  clear h8
  have HI2 := Lib.hid hI; clear hI
  go_simp
  first | exact ⟨gb_refl _ _, HI2.out⟩ | exact HI2.out | exact ⟨HI2.out, trivial⟩
 refine val_cons ?_ (fun v4 => ?_)
 ·intro L vs w1 hvs hat hb hI hF; try simp [factsI, Region.binds, Is] at hF
  have cD := (HBX.out.gb hb (by simp; omega)).cell; have lD := (HBX.out.gb hb (by simp; omega)).lt
  have HI2 := Lib.hid hI; clear hI
  go_simp
  first | exact ⟨gb_refl _ _, HI2.out⟩ | exact HI2.out | exact ⟨HI2.out, trivial⟩
 refine val_cons ?_ (fun v5 => ?_)
 ·intro L vs w1 hvs hat hb hI hF; try simp [factsI, Region.binds, Is] at hF
  have HI2 := Lib.hid hI; clear hI
  go_simp
  refine (HBI.out _).mono ?_
  rintro e w2 ⟨rfl, hb2⟩
  exact ⟨_, rfl, gb_below (gb_refl _ _) hb2, HI2.out.bel hb2, rfl⟩
 refine val_cons ?_ (fun v6 => ?_)
 ·intro L vs w1 hvs hat hb hI hF; try simp [factsI, Region.binds, Is] at hF
  have HI2 := Lib.hid hI; clear hI
  go_simp
  first | exact ⟨gb_refl _ _, HI2.out⟩ | exact HI2.out | exact ⟨HI2.out, trivial⟩
 refine val_cons ?_ (fun v7 => ?_)
 ·intro L vs w1 hvs hat hb hI hF; try simp [factsI, Region.binds, Is] at hF
  have hz9 : (Z : Int) < 8 := by omega
  have HI2 := Lib.hid hI; clear hI
  go_simp
  try rw [if_pos hz9]
  first | exact ⟨gb_refl _ _, HI2.out⟩ | exact HI2.out | exact ⟨HI2.out, trivial⟩ | exact ⟨gb_refl _ _, HI2.out, rfl⟩
 refine val_cons ?_ (fun v8 => ?_)
 ·intro L vs w1 hvs hat hb hI hF; try simp [factsI, Region.binds, Is] at hF
  have h8 := Lib.hid hat.self
  have hB := hI.1 h8.out
  have l6 := hB.lt
  have f6 := hB.free Z
  have e6 := (hB.cell Z).trans (getZ l hZ8)
  have HW := Lib.hid hB
  clear hI hB
  go_simp
  refine ⟨gb_set (gb_refl _ _) _ rfl _, ⟨fun e => (by cases e), fun _ => ?_⟩, trivial⟩
  have := HW.out.set Z (.int .u64 (pl l2 Z))
  rw [HS8.out] at this
  exact this
 refine val_nil ?_
 intro vs w1 hvs hb hI hF
 simp [Is, Nat.forall_lt_succ_right] at hF
 have e0 := hF.1.1.1.1.1.1.1.1
 have e1 := hF.1.1.1.1.1.1.1.2
 have e2 := hF.1.1.1.1.1.1.2
 have e3 := hF.1.1.1.1.1.2
 have e4 := hF.1.1.1.1.2
 have e5 := hF.1.1.1.2
 have e6 := hF.1.1.2
 have e7 := hF.1.2
 have e8 := hF.2
 clear hF
 simp only [Act.put, List.setIfInBounds_toArray, List.set_cons_succ, List.set_cons_zero, e0, e1, e2, e3, e4, e5, e6, e7]
 clear e0 e1 e2 e3 e4 e5 e6 e7
 have hgW : wA.grownBy w1 (some bl) := hb
 have hV2 := VisI.setL HC.out.2 HVA.out.1 hgW (hI.2 rfl)
 have HBX2 := Lib.hid (HBX.out.gb hgW (by simp; omega))
 have hk2' : KeepsBut (VisW bl bc) W w1 := KeepsBut.trans (.bel HVA.out.2) (.gb hgW (fun r e => by cases e; exact .inl rfl))
 have lB := hV2.2.2.2.2.lt
 have HVB := Lib.hid (And.intro hV2 hk2')
 clear hgW hV2 hk2' hb hI
 go_wp2_with fail
 refine wp_region_val (GbN bc) (fun L vs W => I8s bc k k2 (L 11) W) [Is (.pointer (some ⟨bc, 0, none⟩)), Is (.pointer (some ⟨W.heap.size, 2, none⟩)), Is (.int .i64 (Z : Int)), Is (.pointer (some ⟨bc, 0, none⟩)), Is (.pointer (some ⟨bc, Z, none⟩)), Is (.int .u64 (pl k Z)), Is (.agg #[.int .i64 x, .int .i64 y, .int .i64 (Z : Int)]), Is (.int .u64 (uI (bitP (x, y, (Z : Int))))), Is (.int .u64 (pl k2 Z)), Is (.pointer (some ⟨bc, 0, none⟩)), Is (.pointer (some ⟨bc, Z, none⟩)), AnyV] (by kernel_rfl) (by kernel_rfl) rfl (fun W => gb_refl W _) (GbN.trans bc) (stable_mem ⟨fun _ _ _ h _ => h, fun _ _ _ h _ => h, fun _ _ _ h _ => h, fun _ _ _ h _ => h, fun _ _ _ h _ => h, fun _ _ _ h _ => h, fun _ _ _ h _ => h, fun _ _ _ h _ => h, fun _ _ _ h _ => h, fun _ _ _ h _ => h, fun _ _ _ h _ => h, fun _ _ _ h _ => h, trivial⟩) w1 (gb_drew (gb_refl _ _)) (⟨fun _ => HVB.out.1.2.2.2.2, fun e => (by cases e)⟩) ?_
 refine val_cons ?_ (fun v0 => ?_)
 ·intro L vs w1 hvs hat hb hI hF; try simp [factsI, Region.binds, Is] at hF
  have HI2 := Lib.hid hI; clear hI
  go_simp
  first | exact ⟨gb_refl _ _, HI2.out⟩ | exact HI2.out | exact ⟨HI2.out, trivial⟩
 refine val_cons ?_ (fun v1 => ?_)
 ·intro L vs w1 hvs hat hb hI hF; try simp [factsI, Region.binds, Is] at hF
  have HI2 := Lib.hid hI; clear hI
  go_simp
  first | exact ⟨gb_refl _ _, HI2.out⟩ | exact HI2.out | exact ⟨HI2.out, trivial⟩
 refine val_cons ?_ (fun v2 => ?_)
 ·intro L vs w1 hvs hat hb hI hF; try simp [factsI, Region.binds, Is] at hF
  have cD := (HBX2.out.gb hb (by simp; omega)).cell; have lD := (HBX2.out.gb hb (by simp; omega)).lt
  have HI2 := Lib.hid hI; clear hI
  go_simp
  first | exact ⟨gb_refl _ _, HI2.out⟩ | exact HI2.out | exact ⟨HI2.out, trivial⟩
 refine val_cons ?_ (fun v3 => ?_)
 ·intro L vs w1 hvs hat hb hI hF; try simp [factsI, Region.binds, Is] at hF
  have HI2 := Lib.hid hI; clear hI
  go_simp
  first | exact ⟨gb_refl _ _, HI2.out⟩ | exact HI2.out | exact ⟨HI2.out, trivial⟩
 refine val_cons ?_ (fun v4 => ?_)
 ·intro L vs w1 hvs hat hb hI hF; try simp [factsI, Region.binds, Is] at hF
  have hz9 : (Z : Int) < 8 := by omega
  have HI2 := Lib.hid hI; clear hI
  go_simp
  try rw [if_pos hz9]
  first | exact ⟨gb_refl _ _, HI2.out⟩ | exact HI2.out | exact ⟨HI2.out, trivial⟩ | exact ⟨gb_refl _ _, HI2.out, rfl⟩
 refine val_cons ?_ (fun v5 => ?_)
 ·intro L vs w1 hvs hat hb hI hF; try simp [factsI, Region.binds, Is] at hF
  have h8 := hat.later 12 11 (by kernel_rfl)
  have c6 := ((hI.1 h8).cell Z).trans (getZ k hZ8)
  have l6 := (hI.1 h8).lt
  clear h8
  have HI2 := Lib.hid hI; clear hI
  go_simp
  first | exact ⟨gb_refl _ _, HI2.out⟩ | exact HI2.out | exact ⟨HI2.out, trivial⟩
 refine val_cons ?_ (fun v6 => ?_)
 ·intro L vs w1 hvs hat hb hI hF; try simp [factsI, Region.binds, Is] at hF
  have cD := (HBX2.out.gb hb (by simp; omega)).cell; have lD := (HBX2.out.gb hb (by simp; omega)).lt
  have HI2 := Lib.hid hI; clear hI
  go_simp
  first | exact ⟨gb_refl _ _, HI2.out⟩ | exact HI2.out | exact ⟨HI2.out, trivial⟩
 refine val_cons ?_ (fun v7 => ?_)
 ·intro L vs w1 hvs hat hb hI hF; try simp [factsI, Region.binds, Is] at hF
  have HI2 := Lib.hid hI; clear hI
  go_simp
  refine (HBI.out _).mono ?_
  rintro e w2 ⟨rfl, hb2⟩
  exact ⟨_, rfl, gb_below (gb_refl _ _) hb2, HI2.out.bel hb2, rfl⟩
 refine val_cons ?_ (fun v8 => ?_)
 ·intro L vs w1 hvs hat hb hI hF; try simp [factsI, Region.binds, Is] at hF
  have HI2 := Lib.hid hI; clear hI
  go_simp
  first | exact ⟨gb_refl _ _, HI2.out⟩ | exact HI2.out | exact ⟨HI2.out, trivial⟩
 refine val_cons ?_ (fun v9 => ?_)
 ·intro L vs w1 hvs hat hb hI hF; try simp [factsI, Region.binds, Is] at hF
  have HI2 := Lib.hid hI; clear hI
  go_simp
  first | exact ⟨gb_refl _ _, HI2.out⟩ | exact HI2.out | exact ⟨HI2.out, trivial⟩
 refine val_cons ?_ (fun v10 => ?_)
 ·intro L vs w1 hvs hat hb hI hF; try simp [factsI, Region.binds, Is] at hF
  have hz9 : (Z : Int) < 8 := by omega
  have HI2 := Lib.hid hI; clear hI
  go_simp
  try rw [if_pos hz9]
  first | exact ⟨gb_refl _ _, HI2.out⟩ | exact HI2.out | exact ⟨HI2.out, trivial⟩ | exact ⟨gb_refl _ _, HI2.out, rfl⟩
 refine val_cons ?_ (fun v11 => ?_)
 ·intro L vs w1 hvs hat hb hI hF; try simp [factsI, Region.binds, Is] at hF
  have h8 := Lib.hid hat.self
  have hB := hI.1 h8.out
  have l6 := hB.lt
  have f6 := hB.free Z
  have e6 := (hB.cell Z).trans (getZ k hZ8)
  have HW := Lib.hid hB
  clear hI hB
  go_simp
  refine ⟨gb_set (gb_refl _ _) _ rfl _, ⟨fun e => (by cases e), fun _ => ?_⟩, trivial⟩
  have := HW.out.set Z (.int .u64 (pl k2 Z))
  rw [HS11.out] at this
  exact this
 refine val_nil ?_
 intro vs w1 hvs hb hI hF
 simp [Is, Nat.forall_lt_succ_right] at hF
 have e0 := hF.1.1.1.1.1.1.1.1.1.1.1
 have e1 := hF.1.1.1.1.1.1.1.1.1.1.2
 have e2 := hF.1.1.1.1.1.1.1.1.1.2
 have e3 := hF.1.1.1.1.1.1.1.1.2
 have e4 := hF.1.1.1.1.1.1.1.2
 have e5 := hF.1.1.1.1.1.1.2
 have e6 := hF.1.1.1.1.1.2
 have e7 := hF.1.1.1.1.2
 have e8 := hF.1.1.1.2
 have e9 := hF.1.1.2
 have e10 := hF.1.2
 have e11 := hF.2
 clear hF
 simp only [Act.put, List.setIfInBounds_toArray, List.set_cons_succ, List.set_cons_zero, e0, e1, e2, e3, e4, e5, e6, e7, e8, e9, e10]
 clear e0 e1 e2 e3 e4 e5 e6 e7 e8 e9 e10
 have hV3 := VisI.setK HC.out.2 HVB.out.1 (show World.grownBy _ w1 (some bc) from hb) (hI.2 rfl)
 have bX3 := HBX2.out.gb (show World.grownBy _ w1 (some bc) from hb) (by simp; omega)
 have hk3 : KeepsBut (VisW bl bc) W w1 := KeepsBut.trans HVB.out.2 (.gb (show World.grownBy _ w1 (some bc) from hb) (fun r e => by cases e; exact .inr rfl))
 have c3 := hV3.2.2.1.cell; have l3 := hV3.2.2.1.lt
 rw [HSB.out.2.2] at hV3
 have HI0 := Lib.hid (And.intro hV3 (And.intro HSB.out.1 (And.intro HSB.out.2.1 (And.intro HR.out (And.intro hk3 bX3)))))
 clear hV3 bX3 hk3 hb hI eo1 eo2 HS8 HS11 HVB HBX2 HBX HVA HBI hvs lA lB
 go_wp2_with fail
 clear c3 l3
 go_loopw [34] (fun iv wx => ∃ (j : Nat) (lj : Sol), j ≤ St.length ∧ iv = .int .i64 j ∧ Hid (VisI W0 bl bst bv bc (.slice (some ⟨bs, of, none⟩) St.length cap) lj (k ||| cutS l lj) wx ∧ subS lj l = true ∧ countS lj ≤ n ∧ (St.drop j).foldl (fun l d => visN St n l (addC (x, y, (Z : Int)) d)) lj = R ∧ KeepsBut (VisW bl bc) W wx ∧ Blk wx W.heap.size #[.int .i64 x, .int .i64 y, .int .i64 (Z : Int)] 60)) (fun iv _ => St.length - (intOf iv).toNat)
 case atStart => exact ⟨0, _, Nat.zero_le _, rfl, HI0⟩
 case round =>
  clear HI0
  obtain ⟨j, lj, hj, rfl, HI⟩ := hrel
  by_cases hjn : j < St.length
  ·obtain ⟨d, hd⟩ : ∃ d, St[j]? = some d := ⟨St[j], by simp [hjn]⟩
   obtain ⟨d1, d2, d3⟩ := d
   have e123 := HA.out _ (List.mem_of_getElem? hd)
   obtain ⟨e1, e2, e3⟩ := e123
   simp only at e1 e2 e3
   have hd0 : decide ((j : Int) < (St.length : Int)) = true := decide_eq_true (by omega)
   have hj9 : (j : Int) < (St.length : Int) := by omega
   have hW0 := HI.out.1.1
   have hCr := HC.out.1.mono hW0 HC.out.1.1
   have q1 : wr.cell? ⟨bs, of + j * 3, none⟩ = some (.int .i64 d1) := hCr.2 j 0 _ (by simp [hd, clL])
   have q2 : wr.cell? ⟨bs, of + j * 3 + 1, none⟩ = some (.int .i64 d2) := hCr.2 j 1 _ (by simp [hd, clL])
   have q3 : wr.cell? ⟨bs, of + j * 3 + 2, none⟩ = some (.int .i64 d3) := hCr.2 j 2 _ (by simp [hd, clL])
   have lq := hCr.1
   have bX := HI.out.2.2.2.2.2
   have cX := bX.cell; have lX := bX.lt
   have c4 := HI.out.1.2.2.2.1.cell; have l4 := HI.out.1.2.2.2.1.lt
   have HD := Lib.hid hd
   clear hW0 hCr bX hd
   go_wp2_with fail
   refine (IH.out lj _ (addC (x, y, (Z : Int)) (d1, d2, d3)) _ HI.out.2.2.1 (HI.out.1.bel (bel_alloc (bel_refl wr) _))).mono ?_
   rintro e w5 ⟨rfl, hV5, hk5⟩
   have HV5 := Lib.hid (And.intro hV5 hk5)
   clear hV5 hk5 q1 q2 q3 lq cX lX c4 l4
   go_wp2_with fail
   go_roundw
   case rel =>
    refine ⟨j + 1, visN St n lj (addC (x, y, (Z : Int)) (d1, d2, d3)), by omega, by go_num, Lib.hid ⟨?_, subS_trans (vis_sub St _ HI.out.2.2.1) HI.out.2.1, Nat.le_trans (count_le (vis_sub St _ HI.out.2.2.1)) HI.out.2.2.1, ?_, KeepsBut.trans (KeepsBut.trans HI.out.2.2.2.2.1 (.alloc _ _ _)) HV5.out.2, ?_⟩⟩
    ·have h5 := HV5.out.1
     rw [cut_join HI.out.2.1 (vis_sub St _ HI.out.2.2.1)] at h5
     exact h5
    ·have h6 := HI.out.2.2.2.1
     rw [List.drop_eq_getElem_cons hjn, List.foldl_cons, (List.getElem?_eq_some_iff.1 HD.out).2] at h6
     exact h6
    ·refine Blk.keep (HI.out.2.2.2.2.2.alloc _) HV5.out.2 ?_
     rintro (e | e) <;> omega
   case measure => simp [intOf]; omega
  ·obtain rfl : j = St.length := by omega
   have hE := HI.out.2.2.2.1
   rw [List.drop_length] at hE
   have hE' : lj = R := hE
   subst hE'
   have hd0 : decide (((St.length : Nat) : Int) < (St.length : Int)) = false := by simp
   have HE := Lib.hid (And.intro HI.out.1 HI.out.2.2.2.2.1)
   clear hE HI
   go_wp2_with fail
   refine bodyPost_end (v := .tuple #[]) (by simp [results, Tryz.results145, go_sem]) rfl ?_
   exact ⟨rfl, HE.out.1, HE.out.2⟩
theorem visit_spec {W0 : World} {bl bst bv bc bs of cap : Nat} {St : List Cl} (hC : Cells W0 bs of 3 (St.map clL)) (hp : VisP W0 bl bst bv bc) (hcap : St.length ≤ cap) (hc2 : St.length ≤ 1000000) (hSt : ∀ d ∈ St, -1 ≤ d.1 ∧ d.1 ≤ 1 ∧ -1 ≤ d.2.1 ∧ d.2.1 ≤ 1 ∧ -1 ≤ d.2.2 ∧ d.2.2 ≤ 1) :
  ∀ (n : Nat) (l k : Sol) (c : Cl) (W : World), countS l ≤ n → VisI W0 bl bst bv bc (.slice (some ⟨bs, of, none⟩) St.length cap) l k W → Calls Tryz.prog 145 #[.pointer (some ⟨bc, 0, none⟩), clV c, .pointer (some ⟨bl, 0, none⟩), .pointer (some ⟨bst, 0, none⟩), .pointer (some ⟨bv, 0, none⟩)] W fun e w' => e = .returned (.tuple #[]) ∧ VisI W0 bl bst bv bc (.slice (some ⟨bs, of, none⟩) St.length cap) (visN St n l c) (k ||| cutS l (visN St n l c)) w' ∧ KeepsBut (VisW bl bc) W w' := by
 intro n
 have hno : ∀ (n : Nat) (l k : Sol) (c : Cl) (W : World), hasS l c = false → VisI W0 bl bst bv bc (.slice (some ⟨bs, of, none⟩) St.length cap) l k W → Calls Tryz.prog 145 #[.pointer (some ⟨bc, 0, none⟩), clV c, .pointer (some ⟨bl, 0, none⟩), .pointer (some ⟨bst, 0, none⟩), .pointer (some ⟨bv, 0, none⟩)] W fun e w' => e = .returned (.tuple #[]) ∧ VisI W0 bl bst bv bc (.slice (some ⟨bs, of, none⟩) St.length cap) (visN St n l c) (k ||| cutS l (visN St n l c)) w' ∧ KeepsBut (VisW bl bc) W w' := by
  intro n l k c W h hV
  rw [vis_no h, cutS_self]
  exact (visit_no h hV).mono fun e w' he => ⟨he.1, hV.bel he.2, .bel he.2⟩
 induction n with
 | zero =>
  intro l k c W hl hV
  refine hno 0 l k c W ?_ hV
  cases h : hasS l c with
  | false => rfl
  | true => have := has_count h; omega
 | succ n ih =>
  intro l k c W hl hV
  cases h : hasS l c with
  | false => exact hno (n + 1) l k c W h hV
  | true => exact visit_yes hC hp hcap hc2 hSt ih h hl hV
end Go.Proofs.YtkfimbonmnoglaaGreatDoor
end
section
namespace Go.Proofs.YtkfimbonmnoglaaGreatDoor
open Go.RowKit Go.Rel Go.Draw Go.Solid
set_option maxRecDepth 100000
attribute [local go_sem] Oper.semAt_some
theorem infoSol : (Tryz.prog.info? 26).map (fun i => (i.zero, i.size, i.bytes)) = some (some (.agg #[.int .u64 0, .int .u64 0, .int .u64 0, .int .u64 0, .int .u64 0, .int .u64 0, .int .u64 0, .int .u64 0]), 8, 64) := by kernel_rfl
def OwnSo (W : World) (base : Nat) (v : Value) (L : List Sol) : Prop := W.ownsRow base 26 8 v L.length (L.map solL).flatten
theorem OwnSo.nil (W : World) (base : Nat) : OwnSo W base (.slice none 0 0) [] := World.ownsRow_nil _ _ _ _
theorem OwnSo.sl {W : World} {base : Nat} {v : Value} {l : List Sol} (h : OwnSo W base v l) : SlS W v l :=
 own_sl (fun r hr => by obtain ⟨i, _, rfl⟩ := List.mem_map.1 hr; rfl) rfl (by rw [List.length_map]; exact h)
theorem OwnSo.keep {W W' : World} {base : Nat} {v : Value} {l : List Sol} {Wr : Nat → Prop} (h : OwnSo W base v l) (hk : KeepsBut Wr W W') (hn : ∀ g, v.ownBlock = some g → ¬ Wr g) : OwnSo W' base v l := by
 refine ⟨h.1, ?_⟩
 rcases h.2 with h2 | ⟨g, cap, cur, e, hb, hg, rest⟩
 ·exact .inl h2
 ·exact .inr ⟨g, cap, cur, e, hb, (hk.2 g (Array.getElem?_eq_some_iff.1 hg).1 (hn g (by rw [e]; rfl))).trans hg, rest⟩
def ClsI (w : World) (sv : Value) (p : Sol × List Sol) (W : World) : Prop :=
 Below w.heap.size w W ∧ Blk W (w.heap.size + 1) #[sv] 71 ∧ Blk W (w.heap.size + 1 + 1 + 1) #[.int .u64 (pl p.1 0), .int .u64 (pl p.1 1), .int .u64 (pl p.1 2), .int .u64 (pl p.1 3), .int .u64 (pl p.1 4), .int .u64 (pl p.1 5), .int .u64 (pl p.1 6), .int .u64 (pl p.1 7)] 26 ∧ Blk W (w.heap.size + 1 + 1 + 1 + 1) #[.func (.func 145) #[] #[.pointer (some ⟨w.heap.size + 1 + 1 + 1, 0, none⟩), .pointer (some ⟨w.heap.size + 1, 0, none⟩), .pointer (some ⟨w.heap.size + 1 + 1 + 1 + 1, 0, none⟩)]] 132 ∧ ∃ v, Blk W (w.heap.size + 1 + 1) #[v] 41 ∧ OwnSo W (w.heap.size + 1 + 1 + 1 + 1 + 1 + 1 + 1 + 1) v p.2
theorem ClsI.kept {w : World} {sv : Value} {p : Sol × List Sol} {W W' : World} {r : Option Nat} (hI : ClsI w sv p W) (hg : W.grownBy W' r) (hr : ∀ k, r = some k → w.heap.size + 1 + 1 + 1 + 1 + 1 + 1 ≤ k ∧ k < w.heap.size + 1 + 1 + 1 + 1 + 1 + 1 + 1 + 1) : ClsI w sv p W' := by
 obtain ⟨h1, h2, h3, h4, v, h5, h6⟩ := hI
 refine ⟨h1.grown hg h1.size (fun k e => by have := hr k e; omega), h2.gb hg ?_, h3.gb hg ?_, h4.gb hg ?_, v, h5.gb hg ?_, ?_⟩
 ·intro e; have := hr _ e.symm; omega
 ·intro e; have := hr _ e.symm; omega
 ·intro e; have := hr _ e.symm; omega
 ·intro e; have := hr _ e.symm; omega
 ·refine World.ownsRow.kept h6 hg ?_
  cases hv : v.ownBlock with
  | none => exact .inl rfl
  | some g =>
   refine .inr fun e => ?_
   have h1 := hr g e.symm
   have h2 := (World.ownsRow.lt h6 g hv).1
   omega
theorem ClsI.bel {w : World} {sv : Value} {p : Sol × List Sol} {W W' : World} (hI : ClsI w sv p W) (hb : Below W.heap.size W W') : ClsI w sv p W' :=
 hI.kept (gb_below (gb_refl _ none) hb) (fun k e => by cases e)
attribute [local irreducible] delS cutS visN hasS countS stepsL addC clsP partS
set_option maxHeartbeats 8000000 in
theorem classes_spec {w : World} (s : Sol) {bs of cap : Nat} {St : List Cl} (hC : Cells w bs of 3 (St.map clL)) (hcap : St.length ≤ cap) (hc2 : St.length ≤ 1000000) (hSt : ∀ d ∈ St, -1 ≤ d.1 ∧ d.1 ≤ 1 ∧ -1 ≤ d.2.1 ∧ d.2.1 ≤ 1 ∧ -1 ≤ d.2.2 ∧ d.2.2 ≤ 1) (hT : Tab w) :
  Calls Tryz.prog 106 #[solV s, .slice (some ⟨bs, of, none⟩) St.length cap] w fun e w' => (∃ v, e = .returned v ∧ OwnSo w' w.heap.size v (classesS St s)) ∧ Below w.heap.size w w' := by
 obtain ⟨i0, hi, hz0, hz1, hz2⟩ := info_parts infoSol
 have HI0 := Lib.hid (And.intro hi (And.intro hz0 (And.intro hz1 hz2))); clear hi hz0 hz1 hz2
 obtain ⟨L, hL⟩ : ∃ L, L = classesS St s := ⟨_, rfl⟩
 rw [← hL]
 have HL := Lib.hid hL
 clear hL
 have hgl := hT.lt
 have HS := Lib.hid (And.intro hC (And.intro hcap (And.intro hc2 (And.intro hSt hT))))
 clear hC hcap hc2 hSt hT
 refine (callsIn_wide (n := 9)).1 ?_
 refine callsIn_of_wp_marks Tryz.func106 rfl trivial ?_ rfl
 simp only [Tryz.ntmps106, List.size_toArray, List.length_cons, List.length_nil, Nat.reduceAdd, Nat.reduceSub, Array.replicate_succ, Array.replicate_zero, List.push_toArray, List.append_toArray, List.nil_append, List.cons_append]
 refine wpIn_wide.2 ?_
 go_wp2_with fail
 refine (cells_spec _ s).mono ?_
 rintro e w3 ⟨rfl, hw3⟩
 simp only [World.size_alloc] at hw3 ⊢
 have b5 : Blk w3 (w.heap.size + 1 + 1 + 1 + 1 + 1) #[.int .u64 (pl s 0), .int .u64 (pl s 1), .int .u64 (pl s 2), .int .u64 (pl s 3), .int .u64 (pl s 4), .int .u64 (pl s 5), .int .u64 (pl s 6), .int .u64 (pl s 7)] 26 := by subst hw3; exact Blk.at _ _ (by simp)
 have hb3 : Below w.heap.size w w3 := by subst hw3; exact (by repeat (first | with_reducible exact bel_refl _ | with_reducible assumption | with_reducible refine bel_drewN ?_ _ | with_reducible refine bel_drew ?_ | with_reducible refine bel_alloc ?_ _ | with_reducible refine bel_row ?_ ?_ _ | with_reducible refine bel_set ?_ ?_ _ | refine bel_trans ?_ (by with_reducible assumption) | (simp; done) | (simp; omega)))
 have hsz3 : w3.heap.size = w.heap.size + 1 + 1 + 1 + 1 + 1 + 1 := by subst hw3; simp
 have hM : ClsI w (.slice (some ⟨bs, of, none⟩) St.length cap) (s, []) w3 := by
  refine ⟨hb3, ?_, ?_, ?_, .slice none 0 0, ?_, OwnSo.nil _ _⟩
  all_goals (subst hw3; exact (by repeat (first | with_reducible assumption | (refine Blk.at _ _ ?_; (simp; done)) | with_reducible refine Blk.alloc ?_ _ | with_reducible refine Blk.drew ?_ | with_reducible refine Blk.rowS ?_ _ | with_reducible refine Blk.rowO ?_ _ (by simp))))
 have H3 := Lib.hid (And.intro b5 (And.intro hsz3 hM))
 have HT3 := Lib.hid (HS.out.2.2.2.2.grow hb3)
 clear hw3 b5 hb3 hsz3 hM
 go_wp2_with fail
 refine (wpIn_wide (n := 9)).1 ?_
 refine wpIn_rangeFunc_C (α := GCl) rfl (by omega) (gf := 147) (lb := #[.pointer (some ⟨w.heap.size + 1 + 1 + 1 + 1 + 1, 0, none⟩)]) rfl trivial (enters_of Tryz.func147 (by kernel_rfl) rfl) (encs := fun y : GCl => #[clV y.1]) (wr := fun k => k = w.heap.size + 1 + 1 ∨ k = w.heap.size + 1 + 1 + 1 ∨ w.heap.size + 1 + 1 + 1 + 1 + 1 + 1 + 1 + 1 ≤ k) 0
  (fun W hbW _ => cells_seq (n := 9 - 1) (by omega) s (H3.out.1.grow hbW) (HT3.out.grow hbW) (by omega)) (fun r h1 h2 => by have := H3.out.2.1; omega) (fun _ => rfl)
  (fun (pre : List GCl) W => ClsI w (.slice (some ⟨bs, of, none⟩) St.length cap) (clsP St s (pre.map fun y : GCl => y.1)) W) (fun _ (_ : List GCl) _ => False)
  (fun pre W W' r hi hg hr => hi.kept hg (fun k e => by have := hr k e; have := H3.out.2.1; omega)) (fun c pre W W' r hi hg hr => hi.elim) (by unfold clsP; exact H3.out.2.2)
  (fun z a' W => ∃ B8, w3.heap.size + 1 + 1 + 0 ≤ B8 ∧ Blk W B8 #[.int .i64 z.1.1, .int .i64 z.1.2.1, .int .i64 z.1.2.2] 60 ∧ a' = { tmps := #[solV s, .slice (some ⟨bs, of, none⟩) St.length cap, .pointer (some ⟨w.heap.size, 0, none⟩), .pointer (some ⟨w.heap.size + 1, 0, none⟩), .slice none 0 0, .pointer (some ⟨w.heap.size + 1 + 1, 0, none⟩), .pointer (some ⟨w.heap.size + 1 + 1 + 1, 0, none⟩), .pointer (some ⟨w.heap.size + 1 + 1 + 1 + 1, 0, none⟩), .pointer (some ⟨B8, 0, none⟩), undef, solV s, .func (.func 145) #[] #[.pointer (some ⟨w.heap.size + 1 + 1 + 1, 0, none⟩), .pointer (some ⟨w.heap.size + 1, 0, none⟩), .pointer (some ⟨w.heap.size + 1 + 1 + 1 + 1, 0, none⟩)], solV s, .func (.func 147) #[] #[.pointer (some ⟨w.heap.size + 1 + 1 + 1 + 1 + 1, 0, none⟩)], clV z.1, undef, undef, undef, undef, undef, undef, undef, undef, undef, undef, undef], defers := [] })
  (fun z a' _ X Y row hs hg hr => by obtain ⟨B8, e1, e2, e3⟩ := hs; exact ⟨B8, e1, e2.gb hg (fun e => by have := hr _ e.symm; omega), e3⟩)
  ?assign ?body ?done ?stop
 case assign =>
  rintro lp pre z W K hM hsz hK
  have HI := Lib.hid hM; clear hM
  have hK' := fun a' W' => hK a' W'
  clear hK
  gi_wp2_with fail
  exact hK' _ _ (KeepsBut.alloc _ _ _) (HI.out.kept (World.grownBy_alloc _ _ none) (fun k e => by cases e)) ⟨W.heap.size, hsz, Blk.new _ _ _, rfl⟩
 case body =>
  rintro lp pre z a' W hsz hM ⟨B8, hB8, bB, rfl⟩ hlen
  have hM2 : ClsI w (.slice (some ⟨bs, of, none⟩) St.length cap) (clsP St s (pre.map fun y : GCl => y.1)) W := hM
  have hsn : clsP St s ((pre ++ [z]).map fun y : GCl => y.1) = clsStep St (clsP St s (pre.map fun y : GCl => y.1)) z.1 := by rw [List.map_append]; exact clsP_snoc _ _ _ _
  have hlp : (clsP St s (pre.map fun y : GCl => y.1)).2.length ≤ 512 := by
   have h1 := clsP_len St s (pre.map fun y : GCl => y.1)
   rw [List.length_map] at h1
   have h2 := cellsS_len s
   omega
  obtain ⟨p, hp⟩ : ∃ p, p = clsP St s (pre.map fun y : GCl => y.1) := ⟨_, rfl⟩
  rw [← hp] at hM2 hsn hlp
  have HN := Lib.hid hsn
  clear hM hp hsn hlen
  obtain ⟨l, L1⟩ := p
  obtain ⟨c, hc⟩ := z
  obtain ⟨x, y, z⟩ := c
  simp only at bB
  have HH := Lib.hid (fun W => has_spec l (x, y, z) W)
  have cl := hM2.2.2.1.cell; have ll := hM2.2.2.1.lt
  have c8 := bB.cell; have l8 := bB.lt
  have hH3 := H3.out.2.1
  have HM := Lib.hid (And.intro hM2 bB)
  clear hM2 bB
  cases hq : hasS l (x, y, z) with
  | false =>
   rw [hq] at HH
   gi_wp2_with fail
   refine ⟨trivial, (CallsIn.inRound lp (callsIn_wide.2 (HH.out _))).mono ?_⟩
   rintro e w4 ⟨rfl, hb4⟩
   have HB4 := Lib.hid hb4
   clear cl ll c8 l8 HH hb4
   gi_wp2_with fail
   refine ⟨.bel HB4.out, ?_⟩
   show ClsI w _ (clsP St s _) w4
   rw [HN.out, clsP_no (p := (l, L1)) hq]
   exact HM.out.1.bel HB4.out
  | true =>
   rw [hq] at HH
   gi_wp2_with fail
   refine ⟨trivial, (CallsIn.inRound lp (callsIn_wide.2 (HH.out _))).mono ?_⟩
   rintro e w4 ⟨rfl, hb4⟩
   have hM4 := HM.out.1.bel hb4
   have bB4 := HM.out.2.grow hb4
   have c4 := hM4.2.2.2.1.cell; have l4 := hM4.2.2.2.1.lt
   have c9 := bB4.cell; have l9 := bB4.lt
   have hs4 := hb4.size
   have HP : VisP w (w.heap.size + 1 + 1 + 1) (w.heap.size + 1) (w.heap.size + 1 + 1 + 1 + 1) w4.heap.size := by unfold VisP; omega
   have HV : Hid (VisI w (w.heap.size + 1 + 1 + 1) (w.heap.size + 1) (w.heap.size + 1 + 1 + 1 + 1) w4.heap.size (.slice (some ⟨bs, of, none⟩) St.length cap) l 0 (w4.alloc (.cells #[.int .u64 0, .int .u64 0, .int .u64 0, .int .u64 0, .int .u64 0, .int .u64 0, .int .u64 0, .int .u64 0] 26))) := Lib.hid (by
    refine ⟨bel_alloc hM4.1 _, hM4.2.2.1.alloc _, hM4.2.1.alloc _, hM4.2.2.2.1.alloc _, ?_⟩
    simp only [pl_zero]
    exact Blk.new _ _ _)
   have HM4 := Lib.hid (And.intro hM4 hb4)
   clear cl ll c8 l8 HH hb4 hM4 bB4
   gi_wp2_with fail
   refine ⟨trivial, (CallsIn.inRound lp (callsIn_wide.2 (visit_spec HS.out.1 HP HS.out.2.1 HS.out.2.2.1 HS.out.2.2.2.1 512 l 0 (x, y, z) _ (count_512 l) HV.out))).mono ?_⟩
   rintro e w6 ⟨rfl, hV6, hk6⟩
   obtain ⟨l', hl'⟩ : ∃ l', l' = visN St 512 l (x, y, z) := ⟨_, rfl⟩
   obtain ⟨K, hK⟩ : ∃ K, K = (0 : Sol) ||| cutS l l' := ⟨_, rfl⟩
   rw [← hl', ← hK] at hV6
   have hKp : K = partS St l (x, y, z) := by rw [hK, hl', zero_or]; unfold partS; rfl
   have hst : clsStep St (l, L1) (x, y, z) = (l', L1 ++ [K]) := by rw [clsP_yes (p := (l, L1)) hq, hKp, hl']
   rw [hst] at HN
   have HKP := Lib.hid hKp
   clear hl' hK hKp hst hq c4 l4 c9 l9 HV
   have HH4 := HM4.out.1
   obtain ⟨q1, q2, q3, q4, v, q5, q6⟩ := HH4
   have q7 : ∀ g, v.ownBlock = some g → w.heap.size + 1 + 1 + 1 + 1 + 1 + 1 + 1 + 1 ≤ g ∧ g < w4.heap.size := fun g hg => World.ownsRow.lt q6 g hg
   have q8 : OwnSo w6 (w.heap.size + 1 + 1 + 1 + 1 + 1 + 1 + 1 + 1) v L1 := (OwnSo.keep (World.ownsRow.alloc q6 _ : OwnSo _ _ v L1) hk6 (by
    intro g hg hn
    have := q7 g hg
    rcases hn with e | e <;> omega))
   have q9 : Blk w6 (w.heap.size + 1 + 1) #[v] 41 := Blk.keep (q5.alloc _) hk6 (by rintro (e | e) <;> omega)
   have hs6 := hk6.1
   simp only [World.size_alloc] at hs6
   have bK := hV6.2.2.2.2
   have cK := bK.cell; have lK := bK.lt
   have c2 := q9.cell; have l2 := q9.lt
   have hk46 : KeepsBut (fun k => k = w.heap.size + 1 + 1 ∨ k = w.heap.size + 1 + 1 + 1 ∨ w.heap.size + 1 + 1 + 1 + 1 + 1 + 1 + 1 + 1 ≤ k) W w6 := by
    refine KeepsBut.trans (.bel HM4.out.2) (KeepsBut.trans (.alloc _ _ _) ⟨hk6.1, fun k hk hn => hk6.2 k hk (fun e => hn ?_)⟩)
    rcases e with e | e
    ·exact .inr (.inl e)
    ·exact .inr (.inr (by omega))
   have HO := Lib.hid (And.intro q8 (And.intro q9 (And.intro hV6 hk46)))
   clear q1 q2 q3 q4 q5 q6 q7 q8 q9 hk6 hV6 bK hk46 HM4
   gi_wp2_with (first
    | (gi_at_builtin; refine wpListIn_append_own _ rfl _ _ 41 rfl (w.heap.size + 1 + 1 + 1 + 1 + 1 + 1 + 1 + 1) 26 i0 _ 8 64 Tryz.underlying41 HI0.out.1 HI0.out.2.1 HI0.out.2.2.1 HI0.out.2.2.2 rfl (by decide) _ _ _ rfl (HO.out.1.alloc _) ⟨w6.heap.size, 0, none⟩ 1 1 (solL K) rfl rfl (blk_newsS (Blk.new w6 _ 26)) (fun y hy => by simp [solL] at hy; rcases hy with rfl | rfl | rfl | rfl | rfl | rfl | rfl | rfl <;> rfl) (by unfold maxLen; omega) (by omega) (by simp; omega) ?_; intro v' w7 hown' hgrow7 hnil7; clear hnil7; obtain ⟨pv, cv, hv, _, _⟩ := own_shape' hown'; subst hv; have B7 := (HO.out.2.1.alloc (.cells #[.int .u64 (pl K 0), .int .u64 (pl K 1), .int .u64 (pl K 2), .int .u64 (pl K 3), .int .u64 (pl K 4), .int .u64 (pl K 5), .int .u64 (pl K 6), .int .u64 (pl K 7)] 26)).gb hgrow7 (by intro e; have := World.ownsRow.lt HO.out.1 _ e.symm; omega); have r7 := B7.row; have l7 := B7.lt; have H7 := Lib.hid (And.intro B7 (And.intro hown' hgrow7)); rw [← B7.rw]; clear hown' hgrow7 B7))
   have step : ∀ {b : Nat} {c : Array Value} {T : TypeId} (cs : Array Value), Blk w6 b c T → b < w.heap.size + 1 + 1 + 1 + 1 + 1 + 1 + 1 + 1 → b ≠ w.heap.size + 1 + 1 → Blk (w7.setRow (w.heap.size + 1 + 1) cs) b c T := fun cs hB hlt hne => ((hB.alloc _).gb H7.out.2.2 (fun e => by have := World.ownsRow.lt HO.out.1 _ e.symm; omega)).rowO cs hne
   have hV := HO.out.2.2.1
   refine ⟨KeepsBut.trans HO.out.2.2.2 (KeepsBut.trans (.alloc _ _ _) (KeepsBut.trans (.gb H7.out.2.2 (fun r e => .inr (.inr (World.ownsRow.lt HO.out.1 r e).1))) (.gb (gb_row (gb_refl w7 (some (w.heap.size + 1 + 1))) _) (fun r e => by cases e; exact .inl rfl)))), ?_⟩
   show ClsI w _ (clsP St s _) _
   rw [HN.out]
   refine ⟨bel_row ((bel_alloc hV.1 _).grown H7.out.2.2 (by simp; omega) (fun k e => by have := World.ownsRow.lt HO.out.1 k e; omega)) (by omega) _, step _ hV.2.2.1 (by omega) (by omega), step _ hV.2.1 (by omega) (by omega), step _ hV.2.2.2.1 (by omega) (by omega), _, H7.out.1.rowS _, ?_⟩
   refine World.ownsRow.kept (row := some (w.heap.size + 1 + 1)) ?_ (gb_row (gb_refl w7 _) _) ?_
   ·rw [List.length_append, List.map_append, List.flatten_append]
    simpa using H7.out.2.1
   ·refine .inr fun e => ?_
    have := World.ownsRow.lt H7.out.2.1 _ e
    omega
 case done =>
  rintro D xs W hD hS hM hK
  have hH3 := H3.out.2.1
  have hM2 : ClsI w (.slice (some ⟨bs, of, none⟩) St.length cap) (clsP St s (xs.map fun y : GCl => y.1)) W := hM
  clear hM
  have hS2 : (xs.map fun y : GCl => y.1) = cellsS s := hS
  rw [hS2] at hM2
  obtain ⟨h1, _, _, _, v, h5, h6⟩ := hM2
  rw [clsP_all, ← HL.out] at h6
  have lD := (Array.getElem?_eq_some_iff.1 hK).1
  have c5 := h5.cell; have l5 := h5.lt
  obtain ⟨pv, cv, hv, _, _⟩ := own_shape' h6
  subst hv
  have HZ := Lib.hid (And.intro h1 (And.intro h5 (And.intro h6 (And.intro hK hD))))
  clear h1 h5 h6 hK hD hS hS2
  gi_wp2_with fail
  go_wp2_with fail
  refine ⟨by simp, .inl ⟨_, _, rfl, run_takeDeferred HZ.out.2.2.2.1, ?_⟩⟩
  have hgP := grownBy_putObj' W D (.deferred none)
  refine ⟨_, by simp [results, Tryz.results106, go_sem], ⟨_, rfl, World.ownsRow.kept (own_weak HZ.out.2.2.1 (by omega)) hgP ?_⟩, HZ.out.1.grown hgP HZ.out.1.size (fun k e => by cases e; have := HZ.out.2.2.2.2; omega)⟩
  refine .inr fun e => ?_
  have := World.ownsRow.lt HZ.out.2.2.1 _ e
  have := HZ.out.2.2.2.2
  omega
 case stop =>
  rintro D c pre W hD hS hM hK
  exact hM.elim
end Go.Proofs.YtkfimbonmnoglaaGreatDoor
end
