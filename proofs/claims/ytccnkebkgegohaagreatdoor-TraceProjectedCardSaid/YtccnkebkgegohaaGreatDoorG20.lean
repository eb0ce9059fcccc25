import Derived.Test.YtccnkebkgegohaaGreatDoorG15
import Derived.RegionTactic
import Derived.ChangeAlike
import Derived.Lib.AppendZeros
import Derived.Laws.AppendOwnNone
/-
  Given contracts of functions of the program, and laws for them, one behind the other.
-/
set_option linter.unusedVariables false
set_option linter.unusedSimpArgs false
set_option linter.unusedSectionVars false
section
namespace Go.Proofs.YtccnkebkgegohaaGreatDoor
open Go.RowKit Go.Rel
set_option maxRecDepth 100000
abbrev acA (a : Ac) : Array Value := #[.int .u8 a.1, .int .i64 a.2.1, .int .u64 (pl a.2.2 0), .int .u64 (pl a.2.2 1), .int .u64 (pl a.2.2 2), .int .u64 (pl a.2.2 3), .int .u64 (pl a.2.2 4), .int .u64 (pl a.2.2 5), .int .u64 (pl a.2.2 6), .int .u64 (pl a.2.2 7)]
abbrev zeroA : Array Value := #[.int .u8 0, .int .i64 0, .int .u64 0, .int .u64 0, .int .u64 0, .int .u64 0, .int .u64 0, .int .u64 0, .int .u64 0, .int .u64 0]
/-- the first act of a list that is not independent of another one, with the first one of that -/
def scanC (l : List Sol) (a : Ac) : List Ac → Option Ac
  | [] => none
  | b :: bs => if meetsB (acCells l a) (acCells l b) then some b else scanC l a bs
def conflictM (l : List Sol) : List Ac → List Ac → Option (Ac × Ac)
  | [], _ => none
  | a :: rest, other => match scanC l a other with
    | some b => some (a, b)
    | none => conflictM l rest other
def conflR : Option (Ac × Ac) → Value
  | some (a, b) => .tuple #[.agg (acA a), .agg (acA b), .bool true]
  | none => .tuple #[.agg zeroA, .agg zeroA, .bool false]
theorem scanC_yes {l : List Sol} {a b : Ac} {bs : List Ac} (h : meetsB (acCells l a) (acCells l b) = true) : scanC l a (b :: bs) = some b := by simp [scanC, h]
theorem scanC_no {l : List Sol} {a b : Ac} {bs : List Ac} (h : meetsB (acCells l a) (acCells l b) = false) : scanC l a (b :: bs) = scanC l a bs := by simp [scanC, h]
theorem conflictM_yes {l : List Sol} {a b : Ac} {rest other : List Ac} (h : scanC l a other = some b) : conflictM l (a :: rest) other = some (a, b) := by simp [conflictM, h]
theorem conflictM_no {l : List Sol} {a : Ac} {rest other : List Ac} (h : scanC l a other = none) : conflictM l (a :: rest) other = conflictM l rest other := by simp [conflictM, h]
theorem SlA.opn {w : World} {v : Value} {l : List Ac} (h : SlA w v l) : ∃ p c, v = .slice p l.length c ∧ l.length ≤ 9223372036854775807 ∧ (∀ (k : Nat) (x : Ac), l[k]? = some x → ∀ W', Below w.heap.size w W' → ∃ b off, p = some ⟨b, off, none⟩ ∧ b < w.heap.size ∧
    (W'.cell? ⟨b, off + k * 10, none⟩ = some (.int .u8 x.1) ∧ W'.cell? ⟨b, off + k * 10 + 1, none⟩ = some (.int .i64 x.2.1) ∧ W'.cell? ⟨b, off + k * 10 + 2, none⟩ = some (.int .u64 (pl x.2.2 0)) ∧ W'.cell? ⟨b, off + k * 10 + 3, none⟩ = some (.int .u64 (pl x.2.2 1)) ∧ W'.cell? ⟨b, off + k * 10 + 4, none⟩ = some (.int .u64 (pl x.2.2 2)) ∧ W'.cell? ⟨b, off + k * 10 + 5, none⟩ = some (.int .u64 (pl x.2.2 3)) ∧ W'.cell? ⟨b, off + k * 10 + 6, none⟩ = some (.int .u64 (pl x.2.2 4)) ∧ W'.cell? ⟨b, off + k * 10 + 7, none⟩ = some (.int .u64 (pl x.2.2 5)) ∧ W'.cell? ⟨b, off + k * 10 + 8, none⟩ = some (.int .u64 (pl x.2.2 6)) ∧ W'.cell? ⟨b, off + k * 10 + 9, none⟩ = some (.int .u64 (pl x.2.2 7)))) := by
  rcases h.cases with ⟨hl, a, c, rfl, hm⟩ | ⟨b, off, c, rfl, hc, hm, hpos, hcs⟩
  · have hl' : l = [] := by simpa using hl
    subst hl'
    exact ⟨a, c, rfl, by simp, fun k x hk => by simp at hk⟩
  · rw [List.length_map] at hc ⊢
    exact ⟨_, c, rfl, by omega, fun k x hk W' hb => ⟨b, off, rfl, hcs.1, ac_cells (hcs.mono hb hcs.1) hk⟩⟩
set_option maxHeartbeats 16000000 in
theorem conflict_spec {bp : Nat} {blank : Sol} {v av : Value} {l : List Sol} {acts : List Ac} {s : Stn} (w : World) (HP : PastAt bp blank v av l acts s w) (Hv : SlS w v l) (h8 : l.length ≤ 8) (u1 u2 : Value) (rest other : List Ac) (H1 : SlA w u1 rest) (H2 : SlA w u2 other) (hf1 : ∀ a ∈ rest, fits l.length a = true) (hf2 : ∀ a ∈ other, fits l.length a = true) :
    Calls Tryz.prog 98 #[.pointer (some ⟨bp, 0, none⟩), u1, u2] w fun e w' => e = .returned (conflR (conflictM l rest other)) ∧ Below w.heap.size w w' := by
  obtain ⟨p1, c1, rfl, hm1, hr⟩ := H1.opn
  obtain ⟨p2, c2, rfl, hm2, ho⟩ := H2.opn
  obtain ⟨dv, hpast, _⟩ := HP.past
  have HM : Hid (∀ a, fits l.length a = true → ∀ w', Below w.heap.size w w' → Calls Tryz.prog 99 #[.agg #[.int .u64 (pl blank 0), .int .u64 (pl blank 1), .int .u64 (pl blank 2), .int .u64 (pl blank 3), .int .u64 (pl blank 4), .int .u64 (pl blank 5), .int .u64 (pl blank 6), .int .u64 (pl blank 7), v], .agg #[.int .u8 a.1, .int .i64 a.2.1, .int .u64 (pl a.2.2 0), .int .u64 (pl a.2.2 1), .int .u64 (pl a.2.2 2), .int .u64 (pl a.2.2 3), .int .u64 (pl a.2.2 4), .int .u64 (pl a.2.2 5), .int .u64 (pl a.2.2 6), .int .u64 (pl a.2.2 7)]] w' fun e w'' => e = .returned (deedV (made l a)) ∧ Below w'.heap.size w' w'') := Lib.hid fun a ha w' hb => by
    have := made_spec blank v l a w' (Hv.mono hb) h8
    rw [if_pos ha] at this
    exact this
  have HRR := Lib.hid hr; have HOO := Lib.hid ho
  have HF := Lib.hid (And.intro hf1 hf2)
  have HPA := Lib.hid hpast
  have lp := hpast.lt
  clear hr ho hf1 hf2 hpast HP Hv H1 H2 h8
  generalize hn1 : rest.length = n1 at *
  generalize hn2 : other.length = n2 at *
  have HN := Lib.hid (And.intro hn1 hn2); clear hn1 hn2
  generalize hres : conflictM l rest other = res
  have HRES := Lib.hid hres; clear hres
  go_enter Tryz.func98, Tryz.ntmps98
  go_wp2_with fail
  go_loopw [15] (fun y wr => ∃ k : Nat, k ≤ n1 ∧ y = .int .i64 k ∧ Hid (res = conflictM l (rest.drop k) other) ∧ Blk wr w.heap.size zeroA 46 ∧ Blk wr (w.heap.size + 1) zeroA 46 ∧ Below w.heap.size w wr) (fun y _ => n1 - (intOf y).toNat)
  case atStart => exact ⟨0, Nat.zero_le _, rfl, Lib.hid HRES.out.symm, (by repeat (first | with_reducible assumption | (refine Blk.at _ _ ?_; (simp; done)) | with_reducible refine Blk.alloc ?_ _ | with_reducible refine Blk.drew ?_ | with_reducible refine Blk.rowS ?_ _ | with_reducible refine Blk.rowO ?_ _ (by simp))), (by repeat (first | with_reducible assumption | (refine Blk.at _ _ ?_; (simp; done)) | with_reducible refine Blk.alloc ?_ _ | with_reducible refine Blk.drew ?_ | with_reducible refine Blk.rowS ?_ _ | with_reducible refine Blk.rowO ?_ _ (by simp))), (by repeat (first | with_reducible exact bel_refl _ | with_reducible assumption | with_reducible refine bel_drewN ?_ _ | with_reducible refine bel_drew ?_ | with_reducible refine bel_alloc ?_ _ | with_reducible refine bel_row ?_ ?_ _ | with_reducible refine bel_set ?_ ?_ _ | refine bel_trans ?_ (by with_reducible assumption) | (simp; done) | (simp; omega)))⟩
  case round =>
    obtain ⟨k, hk, rfl, hrun, b6, b7, hbel⟩ := hrel
    by_cases hlt : k < n1
    · have hkl : k < rest.length := by rw [HN.out.1]; exact hlt
      have HX : Hid (rest.drop k = rest[k]'hkl :: rest.drop (k + 1)) := Lib.hid (List.drop_eq_getElem_cons hkl)
      have hfx := HF.out.1 _ (List.getElem_mem hkl)
      refine Veil.out ?_
      obtain ⟨b1, off1, rfl, lb1, hcs⟩ := HRR.out k _ (by simp [hkl] : rest[k]? = some rest[k]) wr hbel
      refine Veil.on ?_
      generalize rest[k]'hkl = x at hcs hfx HX
      have lb1' : b1 < wr.heap.size := Nat.lt_of_lt_of_le lb1 hbel.size
      obtain ⟨e0, e1, e2, e3, e4, e5, e6, e7, e8, e9⟩ := hcs
      have HB := Lib.hid (And.intro b6 (And.intro b7 hbel)); clear b6 b7 hbel
      go_wp2_with fail
      obtain ⟨wo, hwo⟩ : ∃ wo : World, wo = wr.alloc (.cells (acA x) 46) := ⟨_, rfl⟩
      have HBO : Hid (Blk wo wr.heap.size (acA x) 46 ∧ Blk wo w.heap.size zeroA 46 ∧ Blk wo (w.heap.size + 1) zeroA 46 ∧ Below w.heap.size w wo) := Lib.hid (by subst hwo; exact ⟨Blk.new _ _ _, HB.out.1.alloc _, HB.out.2.1.alloc _, bel_alloc HB.out.2.2 _⟩)
      have hha : w.heap.size + 1 < wr.heap.size := HB.out.2.1.lt
      rw [← hwo]
      clear hwo e0 e1 e2 e3 e4 e5 e6 e7 e8 e9 HB lb1'
      generalize wr.heap.size = ha at *
      go_loopw [21] (fun y wq => ∃ j : Nat, j ≤ n2 ∧ y = .int .i64 j ∧ Hid (scanC l x other = scanC l x (other.drop j)) ∧ Blk wq ha (acA x) 46 ∧ Blk wq w.heap.size zeroA 46 ∧ Blk wq (w.heap.size + 1) zeroA 46 ∧ Below w.heap.size w wq) (fun y _ => n2 - (intOf y).toNat)
      case atStart => exact ⟨0, Nat.zero_le _, rfl, Lib.hid rfl, HBO.out⟩
      case round =>
        obtain ⟨j, hj, rfl, hscan, bx, b6, b7, hbel⟩ := hrel
        clear HBO
        by_cases hjt : j < n2
        · have hjl : j < other.length := by rw [HN.out.2]; exact hjt
          have HY : Hid (other.drop j = other[j]'hjl :: other.drop (j + 1)) := Lib.hid (List.drop_eq_getElem_cons hjl)
          have hfy := HF.out.2 _ (List.getElem_mem hjl)
          refine Veil.out ?_
          obtain ⟨b2, off2, rfl, lb2, hcs⟩ := HOO.out j _ (by simp [hjl] : other[j]? = some other[j]) wr hbel
          refine Veil.on ?_
          generalize other[j]'hjl = y at hcs hfy HY
          have lb2' : b2 < wr.heap.size := Nat.lt_of_lt_of_le lb2 hbel.size
          obtain ⟨e0, e1, e2, e3, e4, e5, e6, e7, e8, e9⟩ := hcs
          have HB := Lib.hid (And.intro bx (And.intro b6 (And.intro b7 hbel))); clear bx b6 b7 hbel
          have hA := HM.out x hfx
          have hBB := HM.out y hfy
          have hD := independent_spec (made l x) (made l y)
          have HRD : Hid (meetsB (acCells l x) (acCells l y) = meetsB (made l x).2.2 (made l y).2.2) := Lib.hid rfl
          generalize deedV (made l x) = da at hA hD
          generalize deedV (made l y) = db at hBB hD
          generalize meetsB (made l x).2.2 (made l y).2.2 = r at hD HRD
          have HA := Lib.hid hA; have HBB := Lib.hid hBB; have HD := Lib.hid hD; clear hA hBB hD hfy
          go_wp2_with fail
          obtain ⟨wz, hwz⟩ : ∃ wz : World, wz = wr.alloc (.cells (acA y) 46) := ⟨_, rfl⟩
          have hbx : Blk wz ha (acA x) 46 := by subst hwz; exact HB.out.1.alloc _
          have hby : Blk wz wr.heap.size (acA y) 46 := by subst hwz; exact Blk.new _ _ _
          have HBZ : Hid (Blk wz w.heap.size zeroA 46 ∧ Blk wz (w.heap.size + 1) zeroA 46 ∧ Below w.heap.size w wz) := Lib.hid (by subst hwz; exact ⟨HB.out.2.1.alloc _, HB.out.2.2.1.alloc _, bel_alloc HB.out.2.2.2 _⟩)
          rw [← hwz]
          have hhq : w.heap.size + 1 < wr.heap.size := HB.out.2.2.1.lt
          clear hwz e0 e1 e2 e3 e4 e5 e6 e7 e8 e9 HB lb2'
          generalize wr.heap.size = hq at *
          have ca := hbx.cell
          have la := hbx.lt
          have cb := hby.cell
          have lbb := hby.lt
          have cp : ∀ o, wz.cell? ⟨bp, o, none⟩ = _ := fun o => (HBZ.out.2.2.cell (p := ⟨bp, o, none⟩) lp).trans (HPA.out.cell o)
          have lp' : bp < wz.heap.size := Nat.lt_of_lt_of_le lp HBZ.out.2.2.size
          have HXY := Lib.hid (And.intro hbx hby); clear hbx hby
          refine wp_region_grow 14 [Is (.pointer (some ⟨bp, 0, none⟩)), Is (.pointer (some ⟨bp, 0, none⟩)), Is (.pointer (some ⟨bp, 0, none⟩)), Is (.agg #[.int .u64 (pl blank 0), .int .u64 (pl blank 1), .int .u64 (pl blank 2), .int .u64 (pl blank 3), .int .u64 (pl blank 4), .int .u64 (pl blank 5), .int .u64 (pl blank 6), .int .u64 (pl blank 7), v]), Is (.agg (acA x)), Is da, Is (.pointer (some ⟨bp, 0, none⟩)), Is (.pointer (some ⟨bp, 0, none⟩)), Is (.pointer (some ⟨bp, 0, none⟩)), Is (.agg #[.int .u64 (pl blank 0), .int .u64 (pl blank 1), .int .u64 (pl blank 2), .int .u64 (pl blank 3), .int .u64 (pl blank 4), .int .u64 (pl blank 5), .int .u64 (pl blank 6), .int .u64 (pl blank 7), v]), Is (.agg (acA y)), Is db, Is (.bool (!r)), Is (.bool r)] (by kernel_rfl) (by kernel_rfl) rfl ⟨fun _ _ _ h _ => h, fun _ _ _ h _ => h, fun _ _ _ h _ => h, fun _ _ _ h _ => h, fun _ _ _ h _ => h, fun _ _ _ h _ => h, fun _ _ _ h _ => h, fun _ _ _ h _ => h, fun _ _ _ h _ => h, fun _ _ _ h _ => h, fun _ _ _ h _ => h, fun _ _ _ h _ => h, fun _ _ _ h _ => h, fun _ _ _ h _ => h, trivial⟩ ?_
          simp only [List.take_succ_cons, List.take_zero, List.drop_succ_cons, List.drop_zero]
          refine rel_cons ?_ (fun v0 => ?_)
          · intro w1 hb hF
            have hc := (Grows.cells hb).1
            have hf := (Grows.cells hb).2
            try simp [facts, Is] at hF
            go_simp
            exact Grows.refl _
          refine rel_cons ?_ (fun v1 => ?_)
          · intro w1 hb hF
            have hc := (Grows.cells hb).1
            have hf := (Grows.cells hb).2
            try simp [facts, Is] at hF
            go_simp
            exact Grows.refl _
          refine rel_cons ?_ (fun v2 => ?_)
          · intro w1 hb hF
            have hc := (Grows.cells hb).1
            have hf := (Grows.cells hb).2
            try simp [facts, Is] at hF
            go_simp
            exact Grows.refl _
          refine rel_cons ?_ (fun v3 => ?_)
          · intro w1 hb hF
            have hc := (Grows.cells hb).1
            have hf := (Grows.cells hb).2
            try simp [facts, Is] at hF
            go_simp
            exact Grows.refl _
          refine rel_cons ?_ (fun v4 => ?_)
          · intro w1 hb hF
            have hc := (Grows.cells hb).1
            have hf := (Grows.cells hb).2
            try simp [facts, Is] at hF
            go_simp
            exact Grows.refl _
          refine rel_cons ?_ (fun v5 => ?_)
          · intro w1 hb hF
            have hc := (Grows.cells hb).1
            have hf := (Grows.cells hb).2
            try simp [facts, Is] at hF
            go_simp
            refine (HA.out _ (bel_trans HBZ.out.2.2 hb)).mono ?_
            rintro e w4 ⟨rfl, hb4⟩
            exact ⟨rfl, hb4⟩
          refine rel_cons ?_ (fun v6 => ?_)
          · intro w1 hb hF
            have hc := (Grows.cells hb).1
            have hf := (Grows.cells hb).2
            try simp [facts, Is] at hF
            go_simp
            exact Grows.refl _
          refine rel_cons ?_ (fun v7 => ?_)
          · intro w1 hb hF
            have hc := (Grows.cells hb).1
            have hf := (Grows.cells hb).2
            try simp [facts, Is] at hF
            go_simp
            exact Grows.refl _
          refine rel_cons ?_ (fun v8 => ?_)
          · intro w1 hb hF
            have hc := (Grows.cells hb).1
            have hf := (Grows.cells hb).2
            try simp [facts, Is] at hF
            go_simp
            exact Grows.refl _
          refine rel_cons ?_ (fun v9 => ?_)
          · intro w1 hb hF
            have hc := (Grows.cells hb).1
            have hf := (Grows.cells hb).2
            try simp [facts, Is] at hF
            go_simp
            exact Grows.refl _
          refine rel_cons ?_ (fun v10 => ?_)
          · intro w1 hb hF
            have hc := (Grows.cells hb).1
            have hf := (Grows.cells hb).2
            try simp [facts, Is] at hF
            go_simp
            exact Grows.refl _
          refine rel_cons ?_ (fun v11 => ?_)
          · intro w1 hb hF
            have hc := (Grows.cells hb).1
            have hf := (Grows.cells hb).2
            try simp [facts, Is] at hF
            go_simp
            refine (HBB.out _ (bel_trans HBZ.out.2.2 hb)).mono ?_
            rintro e w4 ⟨rfl, hb4⟩
            exact ⟨rfl, hb4⟩
          refine rel_cons ?_ (fun v12 => ?_)
          · intro w1 hb hF
            have hc := (Grows.cells hb).1
            have hf := (Grows.cells hb).2
            try simp [facts, Is] at hF
            go_simp
            refine (HD.out _).mono ?_
            rintro e w4 ⟨rfl, hb4⟩
            exact ⟨rfl, hb4⟩
          refine rel_cons ?_ (fun v13 => ?_)
          · intro w1 hb hF
            have hc := (Grows.cells hb).1
            have hf := (Grows.cells hb).2
            try simp [facts, Is] at hF
            go_simp
            exact Grows.refl _
          refine rel_nil ?_
          intro w1 hb hF
          simp [Is, Nat.forall_lt_succ_right] at hF
          have e0 := hF.1.1.1.1.1.1.1.1.1.1.1.1.1
          have e1 := hF.1.1.1.1.1.1.1.1.1.1.1.1.2
          have e2 := hF.1.1.1.1.1.1.1.1.1.1.1.2
          have e3 := hF.1.1.1.1.1.1.1.1.1.1.2
          have e4 := hF.1.1.1.1.1.1.1.1.1.2
          have e5 := hF.1.1.1.1.1.1.1.1.2
          have e6 := hF.1.1.1.1.1.1.1.2
          have e7 := hF.1.1.1.1.1.1.2
          have e8 := hF.1.1.1.1.1.2
          have e9 := hF.1.1.1.1.2
          have e10 := hF.1.1.1.2
          have e11 := hF.1.1.2
          have e12 := hF.1.2
          have e13 := hF.2
          clear hF
          simp only [Act.put, List.setIfInBounds_toArray, List.set_cons_succ, List.set_cons_zero, e0, e1, e2, e3, e4, e5, e6, e7, e8, e9, e10, e11, e12, e13]
          clear e0 e1 e2 e3 e4 e5 e6 e7 e8 e9 e10 e11 e12 e13
          have b6 := HBZ.out.1.grow hb
          have b7 := HBZ.out.2.1.grow hb
          have hbel : Below w.heap.size w w1 := bel_trans HBZ.out.2.2 hb
          have hbx := HXY.out.1.grow hb
          have hby := HXY.out.2.grow hb
          clear hb ca la cb lbb cp lp' HBZ HXY HA HBB HD
          rcases r with _ | _
          · have HSC : Hid (scanC l x other = scanC l x (other.drop (j + 1))) := Lib.hid (by rw [hscan.out, HY.out]; exact scanC_no HRD.out)
            have HB := Lib.hid (And.intro hbx (And.intro b6 (And.intro b7 hbel))); clear hbx b6 b7 hbel hby
            go_wp2_with fail
            go_roundw
            case rel => exact ⟨j + 1, by omega, by go_num, HSC, HB.out⟩
            case measure => simp [intOf]; omega
          · have HRE : Hid (res = some (x, y)) := Lib.hid (by rw [hrun.out, HX.out]; exact conflictM_yes (by rw [hscan.out, HY.out]; exact scanC_yes HRD.out))
            have ca := hbx.cell
            have la := hbx.lt
            have cb := hby.cell
            have lbb := hby.lt
            have r6 := b6.row
            have r7 := b7.row
            have l6 := b6.lt
            have l7 := b7.lt
            have n1' : ¬ ha = w.heap.size := by omega
            have n2' : ¬ ha = w.heap.size + 1 := by omega
            have n3' : ¬ hq = w.heap.size := by omega
            have n4' : ¬ hq = w.heap.size + 1 := by omega
            rw [← b6.rw, ← b7.rw]
            clear hbx hby b6 b7
            go_wp2_with fail
            go_region
            go_wp2_with fail
            refine bodyPost_ret (v := .tuple #[.agg (acA x), .agg (acA y), .bool true]) (by simp [results, Tryz.results98, go_sem, *]) rfl ⟨congrArg Ending.returned (congrArg conflR HRE.out).symm, ?_⟩
            exact (blw_row (blw_row hbel (by omega) _) (by omega) _).drew
        · have HSC : Hid (scanC l x other = none) := Lib.hid (by rw [hscan.out, List.drop_of_length_le (by rw [HN.out.2]; omega)]; rfl)
          have HB := Lib.hid (And.intro b6 (And.intro b7 hbel)); clear bx b6 b7 hbel
          go_wp2_with fail
          go_roundw
          case rel => exact ⟨k + 1, by omega, by go_num, Lib.hid (by rw [hrun.out, HX.out]; exact conflictM_no HSC.out), HB.out⟩
          case measure => simp [intOf]; omega
    · have hkn : k = n1 := by omega
      subst hkn
      have HRE : Hid (res = none) := Lib.hid (by rw [hrun.out, List.drop_of_length_le (by rw [HN.out.1]; omega)]; rfl)
      have r6 := b6.row
      have r7 := b7.row
      rw [← b6.rw, ← b7.rw]
      have HB := Lib.hid (And.intro b6 (And.intro b7 hbel)); clear b6 b7
      go_wp2_with fail
      refine bodyPost_ret (v := .tuple #[.agg zeroA, .agg zeroA, .bool false]) (by simp [results, Tryz.results98, go_sem, *]) rfl ⟨congrArg Ending.returned (congrArg conflR HRE.out).symm, ?_⟩
      exact blw_row (blw_row hbel (by omega) _) (by omega) _
end Go.Proofs.YtccnkebkgegohaaGreatDoor
end
section
namespace Go.Proofs.YtccnkebkgegohaaGreatDoor
open Go.RowKit Go.Rel
set_option maxRecDepth 100000
set_option maxHeartbeats 4000000 in
theorem GrowAc_nil (n : Nat) (w : World) (hn : n ≤ 1048576) :
    Calls Tryz.prog 95 #[.slice none 0 0, .int .i64 n] w fun e w' => ∃ u, e = .returned u ∧ OwnA w' w.heap.size u [] ∧ Below w.heap.size w w' := by
  obtain ⟨i0, hi, hz0, hz1, hz2⟩ := info_parts info46
  have HI0 := Lib.hid (And.intro hi (And.intro hz0 (And.intro hz1 hz2))); clear hi hz0 hz1 hz2
  by_cases h0 : 0 < n
  · have hcap : Hid (∀ w : World, n ≤ grownCap w n 0 46 ∧ grownCap w n 0 46 ≤ maxLen) := Lib.hid fun w => ⟨grownCap_ge w n 0 46, grownCap_le_maxLen w n 0 46 (by unfold maxLen; omega)⟩
    have hc := hcap.out w
    have HR := Lib.hid (Lib.run_append_nil_zeros (P := Tryz.prog) w 28 3 28 46 i0 (.agg #[.int .u8 0, .int .i64 0, .int .u64 0, .int .u64 0, .int .u64 0, .int .u64 0, .int .u64 0, .int .u64 0, .int .u64 0, .int .u64 0]) .i64 .i64 Tryz.underlying28 Tryz.underlying3 HI0.out.1 HI0.out.2.1 n h0 (by rw [HI0.out.2.2.1]; omega) (by omega) (by rw [HI0.out.2.2.2]; omega))
    have hcm : grownCap w n 0 46 ≤ 9223372036854775807 := by have := hc.2; unfold maxLen at this; omega
    have HCM := Lib.hid hc.2
    have hc1 := hc.1
    clear hc hcap
    generalize grownCap w n 0 46 = cp at *
    have hmf' := hmf
    go_enter Tryz.func95, Tryz.ntmps95
    go_wp2_with (at_builtin; refine Lib.wpList_append_run _ rfl _ _ 28 3 rfl (.slice none 0 0) (.int .i64 n) rfl rfl _ _ HR.out ?_)
    go_ret
    refine ⟨_, rfl, ⟨rfl, .inr ⟨w.heap.size, cp, _, rfl, Nat.le_refl _, Blk.new w.drew _ _, Nat.zero_le _, HCM.out, ?_, by simp⟩⟩, (by repeat (first | with_reducible exact bel_refl _ | with_reducible assumption | with_reducible refine bel_drewN ?_ _ | with_reducible refine bel_drew ?_ | with_reducible refine bel_alloc ?_ _ | with_reducible refine bel_row ?_ ?_ _ | with_reducible refine bel_set ?_ ?_ _ | refine bel_trans ?_ (by with_reducible assumption) | (simp; done) | (simp; omega)))⟩
    simp only [Array.size_append, size_zeroCells]
    simp [Value.cells]
    omega
  · obtain rfl : n = 0 := by omega
    go_enter Tryz.func95, Tryz.ntmps95
    go_wp2_with fail
    go_ret
    exact ⟨_, rfl, World.ownsRow_nil _ _ _ _, Below.refl _ _⟩
end Go.Proofs.YtccnkebkgegohaaGreatDoor
end
section
namespace Go.Proofs.YtccnkebkgegohaaGreatDoor
open Go.RowKit Go.Rel
set_option maxRecDepth 100000
/-- a list of acts in memory whose nil is the plain nil -/
def SlN (w : World) (v : Value) (l : List Ac) : Prop := SlA w v l ∧ ∀ n c, v = .slice none n c → c = 0
theorem OwnA.sln {W : World} {base : Nat} {v : Value} {l : List Ac} (h : OwnA W base v l) : SlN W v l :=
  ⟨h.sl, fun n c e => by
    rcases h.2 with ⟨h1, _⟩ | ⟨g, cap, cur, h1, _⟩
    · rw [h1] at e; cases e; rfl
    · rw [h1] at e; cases e⟩
theorem SlN.mono {w w' : World} {v : Value} {l : List Ac} (h : SlN w v l) (hb : Below w.heap.size w w') : SlN w' v l := ⟨h.1.mono hb, h.2⟩
/-- what an append reads of such a list -/
theorem SlN.opn {w : World} {v : Value} {l : List Ac} (h : SlN w v l) : (v = .slice none 0 0 ∧ l = []) ∨ ∃ p c, v = .slice (some p) l.length c ∧ ∀ W', Below w.heap.size w W' → ∀ j u, ((l.map acL).flatten)[j]? = some u → W'.cell? (p.add j) = some u := by
  obtain ⟨⟨a, c, hv, hc, hcm, hcells⟩, hn⟩ := h
  rw [List.length_map] at hv
  rcases hcells with h | ⟨b, off, ha, hcs⟩
  · have hl : l = [] := by simpa using h
    subst hl
    cases a with
    | none =>
      have := hn _ _ hv
      subst this
      exact .inl ⟨hv, rfl⟩
    | some p => exact .inr ⟨p, c, hv, fun W' _ j u hu => by simp at hu⟩
  · subst ha
    exact .inr ⟨_, c, hv, fun W' hb => (hcs.mono hb hcs.1).flat (fun r hr => by obtain ⟨i, _, rfl⟩ := List.mem_map.1 hr; rfl)⟩
theorem acFlat_len (l : List Ac) : ((l.map acL).flatten).length = l.length * 10 := by
  have := flat_len (size := 10) (l.map acL) (fun r hr => by obtain ⟨i, _, rfl⟩ := List.mem_map.1 hr; rfl)
  rwa [List.length_map] at this
/-- lists of acts, one behind the other -/
def catM (ps : List (Value × List Ac)) : List Ac := (ps.map (·.2)).flatten
theorem catM_succ {ps : List (Value × List Ac)} {k : Nat} {p : Value × List Ac} (h : ps[k]? = some p) : catM (ps.take (k + 1)) = catM (ps.take k) ++ p.2 := by
  obtain ⟨hk, rfl⟩ := List.getElem?_eq_some_iff.1 h
  unfold catM
  rw [List.take_succ_eq_append_getElem hk, List.map_append, List.flatten_append]
  simp only [List.map_cons, List.map_nil, List.flatten_cons, List.flatten_nil, List.append_nil]
theorem catM_le {ps : List (Value × List Ac)} (k : Nat) : (catM (ps.take k)).length ≤ (catM ps).length := by
  have : catM ps = catM (ps.take k) ++ catM (ps.drop k) := by
    unfold catM
    rw [← List.flatten_append, ← List.map_append, List.take_append_drop]
  rw [this, List.length_append]; omega
set_option maxHeartbeats 8000000 in
theorem Concat_spec (v : Value) (ps : List (Value × List Ac)) (w : World) (hv : Sl w 1 v (ps.map fun p => [p.1])) (hp : ∀ p ∈ ps, SlN w p.1 p.2) (hm : (catM ps).length ≤ 1048576) :
    Calls Tryz.prog 24 #[v] w fun e w' => ∃ u, e = .returned u ∧ OwnA w' w.heap.size u (catM ps) ∧ Below w.heap.size w w' := by
  obtain ⟨i0, hi, hz0, hz1, hz2⟩ := info_parts info46
  have HI0 := Lib.hid (And.intro hi (And.intro hz0 (And.intro hz1 hz2))); clear hi hz0 hz1 hz2
  have hmf' := hmf
  rcases hv.cases with ⟨hl, a, c, rfl, hcm⟩ | ⟨b, off, c, rfl, hc, hcm, hpos, hcs⟩
  · have hl' : ps = [] := by simpa using hl
    subst hl'
    have HG := Lib.hid (GrowAc_nil 0 w (by omega))
    clear hl hv hp hm
    go_enter Tryz.func24, Tryz.ntmps24
    go_wp2_with fail
    refine wp_loop_rounds 1 ?_
    rw [rounds_succ]
    go_wp2_with fail
    refine HG.out.mono ?_
    rintro e w1 ⟨u, rfl, hO, hb⟩
    have HO := Lib.hid (And.intro hO hb); clear hO hb
    go_wp2_with fail
    refine wp_loop_rounds 1 ?_
    rw [rounds_succ]
    go_wp2_with fail
    go_ret
    exact ⟨_, rfl, HO.out.1, HO.out.2⟩
  · rw [List.length_map] at hc hpos ⊢
    have HCS : Hid (∀ (k : Nat) (p : Value × List Ac), ps[k]? = some p → ∀ W', Below w.heap.size w W' → W'.cell? ⟨b, off + k, none⟩ = some p.1) := Lib.hid fun k p hk W' hb => by
      have := (hcs.mono hb hcs.1).2 k 0 p.1 (by simp [hk])
      simpa using this
    have lb := hcs.1
    have HP := Lib.hid hp
    have HLE := Lib.hid (catM_le (ps := ps))
    have HM := Lib.hid hm
    clear hcs hv hp hm
    generalize hn : ps.length = n at *
    have HN := Lib.hid hn; clear hn
    go_enter Tryz.func24, Tryz.ntmps24
    go_wp2_with fail
    go_loopw [3, 11] (fun z y wr => ∃ k : Nat, k ≤ n ∧ y = .int .i64 k ∧ z = .int .i64 ((catM (ps.take k)).length : Nat) ∧ wr = w) (fun _ y _ => n - (intOf y).toNat)
    case atStart => exact ⟨0, Nat.zero_le _, rfl, by simp [catM], rfl⟩
    case round =>
      obtain ⟨k, hk, rfl, rfl, rfl⟩ := hrel
      by_cases hlt : k < n
      · have hkl : k < ps.length := by rw [HN.out]; exact hlt
        have hx : ps[k]? = some (ps[k]'hkl) := by simp
        have c0 := HCS.out k _ hx _ (Below.refl _ _)
        have hsl := HP.out _ (List.getElem_mem hkl)
        have hs := catM_succ hx
        have hle1 := HLE.out (k + 1)
        have hle0 := HLE.out k
        have hmm := HM.out
        generalize ps[k]'hkl = p at c0 hsl hs
        have hlen := congrArg List.length hs
        rw [List.length_append] at hlen
        obtain ⟨pa, pc, hpv⟩ : ∃ a c, p.1 = .slice a p.2.length c := by obtain ⟨⟨a, c, h, _⟩, _⟩ := hsl; exact ⟨a, c, by rw [h, List.length_map]⟩
        rw [hpv] at c0
        have HS := Lib.hid (And.intro hs hlen)
        have hb1 : (catM (ps.take k)).length + p.2.length ≤ 1048576 := by omega
        clear hx hsl hs hlen hpv hle1 hle0 hmm hkl
        generalize (catM (ps.take k)).length = q at *
        generalize p.2.length = r at *
        go_wp2_with fail
        go_roundw
        case rel => exact ⟨k + 1, by omega, by go_num, by rw [HS.out.2]; go_num, trivial⟩
        case measure => simp [intOf]; omega
      · have hkn : k = n := by omega
        subst hkn
        have hall : ps.take k = ps := List.take_of_length_le (by rw [HN.out]; exact Nat.le_refl _)
        rw [hall]
        have HALL := Lib.hid hall; clear hall
        have hmm := HM.out
        have HG := Lib.hid (GrowAc_nil (catM ps).length wr hmm)
        generalize (catM ps).length = tot at *
        go_wp2_with fail
        refine HG.out.mono ?_
        rintro e w1 ⟨u0, rfl, hO, hb⟩
        have HO := Lib.hid (And.intro hO hb); clear hO hb
        go_wp2_with fail
        have HB1 : Hid (Below wr.heap.size wr w1) := Lib.hid HO.out.2
        have HO1 : Hid (OwnA w1 wr.heap.size u0 []) := Lib.hid HO.out.1
        clear HO HG
        obtain ⟨w, rfl⟩ : ∃ w : World, w = wr := ⟨_, rfl⟩
        have hsz1 := HB1.out.size
        go_loopw [6, 27] (fun z y wr => ∃ j : Nat, j ≤ k ∧ y = .int .i64 j ∧ Hid (OwnA wr w.heap.size z (catM (ps.take j))) ∧ Below w.heap.size w wr) (fun _ y _ => k - (intOf y).toNat)
        case atStart => exact ⟨0, Nat.zero_le _, rfl, HO1, HB1.out⟩
        case round =>
          obtain ⟨j, hj, rfl, hO, hbel⟩ := hrel
          by_cases hjt : j < k
          · have hkl : j < ps.length := by rw [HN.out]; exact hjt
            have hx : ps[j]? = some (ps[j]'hkl) := by simp
            have c0 := HCS.out j _ hx _ hbel
            have lb' : b < wr.heap.size := Nat.lt_of_lt_of_le lb hbel.size
            have hsl := (HP.out _ (List.getElem_mem hkl)).mono hbel
            have hs := catM_succ hx
            have hle1 := HLE.out (j + 1)
            have hmm := HM.out
            generalize ps[j]'hkl = p at c0 hsl hs
            have hlen := congrArg List.length hs
            rw [List.length_append] at hlen
            have hb1 : (catM (ps.take j)).length + p.2.length ≤ 1048576 := by omega
            have HS := Lib.hid hs
            have hszr := hbel.size
            clear hx hs hle1 hmm hkl hlen
            generalize hC : catM (ps.take j) = C at hO hb1 HS
            clear hC
            rcases hsl.opn with ⟨hv0, hl0⟩ | ⟨q, pc, hv0, hcells⟩
            · rw [hv0] at c0
              have HS2 : Hid (catM (ps.take (j + 1)) = C) := Lib.hid (by rw [HS.out, hl0, List.append_nil])
              clear hsl hv0 hl0 HS hb1
              go_wp2_with (at_builtin; refine wpList_append_own_none rfl _ _ 28 rfl w.heap.size 46 i0 10 Tryz.underlying28 HI0.out.1 _ _ _ rfl hO.out rfl ?_)
              go_roundw
              case rel => exact ⟨j + 1, by omega, by go_num, Lib.hid (by rw [HS2.out]; exact hO.out), hbel⟩
              case measure => simp [intOf]; omega
            · rw [hv0] at c0
              have hfl := acFlat_len p.2
              have HC := Lib.hid (And.intro hcells hfl)
              have HON := Lib.hid (one_ac (l := p.2))
              clear hsl hv0 hcells hfl
              go_wp2_with (at_builtin; refine wpList_append_own _ rfl _ _ 28 rfl w.heap.size 46 i0 (.agg #[.int .u8 0, .int .i64 0, .int .u64 0, .int .u64 0, .int .u64 0, .int .u64 0, .int .u64 0, .int .u64 0, .int .u64 0, .int .u64 0]) 10 80 Tryz.underlying28 HI0.out.1 HI0.out.2.1 HI0.out.2.2.1 HI0.out.2.2.2 rfl (by decide) _ _ _ rfl hO.out q p.2.length pc ((p.2.map acL).flatten) rfl HC.out.2 (HC.out.1 _ (Below.refl _ _)) HON.out (by unfold maxLen; omega) (by omega) (by omega) ?_; intro v' w3 hown' hgrow3 hnil3)
              have hB3 : Below w.heap.size w w3 := hbel.grown hgrow3 (by omega) (fun i hi => (hO.out.lt i hi).1)
              have HO3 := Lib.hid (And.intro hown' hB3); clear hown' hB3 hgrow3 hnil3
              go_wp2_with fail
              go_roundw
              case rel => exact ⟨j + 1, by omega, by go_num, Lib.hid (by rw [HS.out]; unfold OwnA; rw [List.length_append, List.map_append, List.flatten_append]; exact HO3.out.1), HO3.out.2⟩
              case measure => simp [intOf]; omega
          · have hjk : j = k := by omega
            subst hjk
            go_wp2_with fail
            go_ret
            exact ⟨_, rfl, by rw [← HALL.out]; exact hO.out, hbel⟩
end Go.Proofs.YtccnkebkgegohaaGreatDoor
end
section
namespace Go.Proofs.YtccnkebkgegohaaGreatDoor
open Go.RowKit Go.Rel
set_option maxRecDepth 100000
/-! the greatest common beginning, by numbers -/
def pairM (p : Int → Int → Bool) (fa fb : List Int) : Option (Int × Int) := fa.findSome? fun i => (fb.find? (p i)).map fun j => (i, j)
theorem pairM_none {p : Int → Int → Bool} {fa fb : List Int} (h : ∀ i ∈ fa, ∀ j ∈ fb, p i j = false) : pairM p fa fb = none := by
  unfold pairM
  rw [List.findSome?_eq_none_iff]
  intro i hi
  rw [Option.map_eq_none_iff, List.find?_eq_none]
  intro j hj
  rw [h i hi j hj]; decide
theorem find_at {p : Int → Bool} : ∀ {qre : List Int} {y : Int} {r : List Int}, (∀ j ∈ qre, p j = false) → p y = true → (qre ++ y :: r).find? p = some y
  | [], y, r, _, h => by simp [h]
  | j :: qre, y, r, hq, h => by
    rw [List.cons_append, List.find?_cons, hq j (List.mem_cons_self ..)]
    exact find_at (fun k hk => hq k (List.mem_cons_of_mem _ hk)) h
theorem pairM_at {p : Int → Int → Bool} {fb : List Int} {x y : Int} {qre r2 : List Int} (hfb : fb = qre ++ y :: r2) (hq : ∀ j ∈ qre, p x j = false) (hxy : p x y = true) : ∀ {pre r : List Int}, (∀ i ∈ pre, ∀ j ∈ fb, p i j = false) → pairM p (pre ++ x :: r) fb = some (x, y)
  | [], r, _ => by
    unfold pairM
    rw [List.nil_append, List.findSome?_cons, hfb, find_at hq hxy]; rfl
  | i :: pre, r, hp => by
    have h1 : fb.find? (p i) = none := by
      rw [List.find?_eq_none]; intro j hj; rw [hp i (List.mem_cons_self ..) j hj]; decide
    have ih := pairM_at hfb hq hxy (pre := pre) (r := r) (fun k hk => hp k (List.mem_cons_of_mem _ hk))
    unfold pairM at ih ⊢
    rw [List.cons_append, List.findSome?_cons, h1]
    exact ih
theorem freeUpto_prefix {dep : Int → Int → Bool} {left : List Int} {k : Nat} : ∀ {m : Nat}, k ≤ m → ∃ r, freeUpto dep left m = freeUpto dep left k ++ r
  | 0, h => ⟨[], by obtain rfl : k = 0 := by omega
                    simp⟩
  | m + 1, h => by
    by_cases e : k = m + 1
    · subst e; exact ⟨[], by simp⟩
    · obtain ⟨r, hr⟩ := freeUpto_prefix (dep := dep) (left := left) (show k ≤ m by omega)
      rw [freeUpto]
      split
      · exact ⟨r ++ [left.getD m 0], by rw [hr, List.append_assoc]⟩
      · exact ⟨r, hr⟩
def drop1 (la : List Int) (i : Int) : List Int := la.filter fun y => !([i].contains y)
def beyondI (p dS dT : Int → Int → Bool) (act : Int → Ac) : Nat → List Ac → List Int → List Int → List Ac × List Int × List Int
  | 0, cs, la, lb => (cs, la, lb)
  | n + 1, cs, la, lb => match pairM p (freeUpto dS la la.length) (freeUpto dT lb lb.length) with
    | none => (cs, la, lb)
    | some (i, j) => beyondI p dS dT act n (cs ++ [act i]) (drop1 la i) (drop1 lb j)
theorem pairM_mem {p : Int → Int → Bool} {fa fb : List Int} {i j : Int} (h : pairM p fa fb = some (i, j)) : i ∈ fa ∧ j ∈ fb ∧ p i j = true := by
  unfold pairM at h
  obtain ⟨x, hx, h2⟩ := List.exists_of_findSome?_eq_some h
  obtain ⟨y, hy, h3⟩ := Option.map_eq_some_iff.1 h2
  cases h3
  exact ⟨hx, List.mem_of_find?_eq_some hy, List.find?_some hy⟩
theorem beyondI_none {p dS dT : Int → Int → Bool} {act : Int → Ac} {la lb : List Int} (h : pairM p (freeUpto dS la la.length) (freeUpto dT lb lb.length) = none) (n : Nat) (cs : List Ac) : beyondI p dS dT act n cs la lb = (cs, la, lb) := by
  cases n with
  | zero => rfl
  | succ n => rw [beyondI, h]
theorem drop1_lt {la : List Int} {i : Int} (h : i ∈ la) : (drop1 la i).length < la.length := filter_lt h
theorem beyondI_fuel {p dS dT : Int → Int → Bool} {act : Int → Ac} : ∀ (n : Nat) (cs : List Ac) (la lb : List Int), la.length ≤ n → beyondI p dS dT act n cs la lb = beyondI p dS dT act la.length cs la lb
  | 0, cs, la, lb, h => by
    have : la = [] := List.eq_nil_of_length_eq_zero (by omega)
    subst this; rfl
  | n + 1, cs, la, lb, h => by
    cases ht : pairM p (freeUpto dS la la.length) (freeUpto dT lb lb.length) with
    | none => rw [beyondI_none ht, beyondI_none ht]
    | some ij =>
      obtain ⟨i, j⟩ := ij
      have hm := freeUpto_mem dS la la.length (Nat.le_refl _) _ (pairM_mem ht).1
      have hlt := drop1_lt hm
      obtain ⟨k, hk⟩ : ∃ k, la.length = k + 1 := ⟨la.length - 1, by omega⟩
      have e1 : beyondI p dS dT act (n + 1) cs la lb = beyondI p dS dT act n (cs ++ [act i]) (drop1 la i) (drop1 lb j) := by rw [beyondI, ht]
      have e2 : beyondI p dS dT act la.length cs la lb = beyondI p dS dT act k (cs ++ [act i]) (drop1 la i) (drop1 lb j) := by
        have : beyondI p dS dT act la.length cs la lb = beyondI p dS dT act (k + 1) cs la lb := by rw [hk]
        rw [this, beyondI, ht]
      rw [e1, e2, beyondI_fuel n _ _ _ (by omega), beyondI_fuel k _ _ _ (by omega)]
theorem beyondI_step {p dS dT : Int → Int → Bool} {act : Int → Ac} {cs : List Ac} {la lb : List Int} {i j : Int} (h : pairM p (freeUpto dS la la.length) (freeUpto dT lb lb.length) = some (i, j)) :
    beyondI p dS dT act la.length cs la lb = beyondI p dS dT act (drop1 la i).length (cs ++ [act i]) (drop1 la i) (drop1 lb j) := by
  have hm := freeUpto_mem dS la la.length (Nat.le_refl _) _ (pairM_mem h).1
  have hlt := drop1_lt hm
  obtain ⟨k, hk⟩ : ∃ k, la.length = k + 1 := ⟨la.length - 1, by omega⟩
  have e2 : beyondI p dS dT act la.length cs la lb = beyondI p dS dT act k (cs ++ [act i]) (drop1 la i) (drop1 lb j) := by
    have : beyondI p dS dT act la.length cs la lb = beyondI p dS dT act (k + 1) cs la lb := by rw [hk]
    rw [this, beyondI, h]
  rw [e2, beyondI_fuel k _ _ _ (by omega)]
/-! what beyond has in memory -/
structure BySt (w : World) (h bp bq : Nat) (cs : List Ac) (la lb : List Int) (W : World) : Prop where
  mk ::
  b0 : Blk W h #[.pointer (some ⟨bp, 0, none⟩)] 101
  b1 : Blk W (h + 1) #[.pointer (some ⟨bq, 0, none⟩)] 101
  b2 : ∃ u, Blk W (h + 1 + 1) #[u] 28 ∧ OwnA W (h + 1 + 1 + 1 + 1 + 1) u cs
  b3 : ∃ u, Blk W (h + 1 + 1 + 1) #[u] 104 ∧ OwnI W (h + 1 + 1 + 1 + 1 + 1) u la
  b4 : ∃ u, Blk W (h + 1 + 1 + 1 + 1) #[u] 104 ∧ OwnI W (h + 1 + 1 + 1 + 1 + 1) u lb
  bel : Below h w W
section
variable {w : World} {h bp bq : Nat} {cs : List Ac} {la lb : List Int} {W W' : World}
theorem BySt.grow (H : BySt w h bp bq cs la lb W) (hb : Below W.heap.size W W') : BySt w h bp bq cs la lb W' :=
  ⟨H.b0.grow hb, H.b1.grow hb, let ⟨u, h1, h2⟩ := H.b2; ⟨u, h1.grow hb, own_grow h2 hb⟩, let ⟨u, h1, h2⟩ := H.b3; ⟨u, h1.grow hb, own_grow h2 hb⟩, let ⟨u, h1, h2⟩ := H.b4; ⟨u, h1.grow hb, own_grow h2 hb⟩, H.bel.trans (hb.mono (Nat.le_of_lt H.b0.lt))⟩
theorem Blk.row' {b : Nat} {c : Array Value} {t : TypeId} (H : Blk W b c t) {row : Option Nat} (hg : W.grownBy W' row) (hr : ∀ r, row = some r → ∃ o : Obj, W.heap[r]? = some o ∧ o.isCells = false) : Blk W' b c t := by
  refine (hg.block b H.lt (fun e => ?_)).trans H
  obtain ⟨o, ho, hc⟩ := hr b e.symm
  unfold Blk at H
  rw [H] at ho; cases ho; cases hc
theorem own_row' {base : Nat} {e : TypeId} {size : Nat} {v : Value} {n : Nat} {xs : List Value} (H : W.ownsRow base e size v n xs) {row : Option Nat} (hg : W.grownBy W' row) (hr : ∀ r, row = some r → ∃ o : Obj, W.heap[r]? = some o ∧ o.isCells = false) : W'.ownsRow base e size v n xs := by
  refine ⟨H.1, ?_⟩
  rcases H.2 with h | ⟨g, cap, cur, e1, hb, hgg, rest⟩
  · exact .inl h
  · exact .inr ⟨g, cap, cur, e1, hb, Blk.row' (c := cur) (t := e) hgg hg hr, rest⟩
theorem BySt.kept (H : BySt w h bp bq cs la lb W) {row : Option Nat} (hg : W.grownBy W' row) (hr : ∀ r, row = some r → h ≤ r ∧ ∃ o : Obj, W.heap[r]? = some o ∧ o.isCells = false) : BySt w h bp bq cs la lb W' :=
  have hr' : ∀ r, row = some r → ∃ o : Obj, W.heap[r]? = some o ∧ o.isCells = false := fun r e => (hr r e).2
  ⟨H.b0.row' hg hr', H.b1.row' hg hr', let ⟨u, h1, h2⟩ := H.b2; ⟨u, h1.row' hg hr', own_row' h2 hg hr'⟩, let ⟨u, h1, h2⟩ := H.b3; ⟨u, h1.row' hg hr', own_row' h2 hg hr'⟩, let ⟨u, h1, h2⟩ := H.b4; ⟨u, h1.row' hg hr', own_row' h2 hg hr'⟩,
   H.bel.grown hg (Nat.le_of_lt H.b0.lt) (fun k e => (hr k e).1)⟩
theorem bySt_own {β : Type} {B : Nat} (hB : h ≤ B) (f : β → List Ac) (g k : β → List Int) : OwnFrom B (fun (s : β) W => BySt w h bp bq (f s) (g s) (k s) W) := fun _ _ _ _ hs hg hr => hs.kept hg (fun r e => ⟨Nat.le_trans hB (hr r e).1, (hr r e).2⟩)
end
theorem keeps_of_below {B : Nat} {W W' : World} (hb : Below W.heap.size W W') : KeepsFrom B W W' := ⟨hb.size, fun k o _ hk _ => (hb.block k (Array.getElem?_eq_some_iff.1 hk).1).trans hk⟩
theorem keeps_zero {B : Nat} {W W' : World} (h : KeepsFrom 0 W W') : KeepsFrom B W W' := ⟨h.size, fun k o _ => h.same k o (Nat.zero_le _)⟩
end Go.Proofs.YtccnkebkgegohaaGreatDoor
end
