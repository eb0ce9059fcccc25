import Derived.Test.YtccnkebkgegohaaGreatDoorG08
/-
  Given contracts of functions of the program, and laws for them, one behind the other.
-/
set_option linter.unusedVariables false
set_option linter.unusedSimpArgs false
set_option linter.unusedSectionVars false
section
namespace Go.Proofs.YtccnkebkgegohaaGreatDoor
open Go.RowKit Go.Rel
set_option maxRecDepth 100000
set_option maxHeartbeats 8000000 in
theorem begun_main (blank : Sol) (v av : Value) (l : List Sol) (acts : List Ac) (w : World) (Hv : SlS w v l) (Hav : SlA w av acts) (hz : chkPat blank l = 0) (h8 : l.length ≤ 8) (hn : acts.length ≤ 60) (res : (Nat × Int) ⊕ Stn) (hres : runM l 0 (blank, 0) acts = res) :
    Calls Tryz.prog 89 #[.agg #[.int .u64 (pl blank 0), .int .u64 (pl blank 1), .int .u64 (pl blank 2), .int .u64 (pl blank 3), .int .u64 (pl blank 4), .int .u64 (pl blank 5), .int .u64 (pl blank 6), .int .u64 (pl blank 7), v, av]] w (BegunP w blank v av l acts res) := by
  have H34 := Lib.hid fun w' (hb : Below w.heap.size w w') => CheckPattern_spec blank v l w' (Hv.mono hb)
  rw [hz] at H34
  have H99 := Lib.hid fun (a : Ac) w' (hb : Below w.heap.size w w') => made_spec blank v l a w' (Hv.mono hb) h8
  obtain ⟨a, c, rfl, hcn, hcm, hcells⟩ := Hav
  rw [List.length_map] at *
  have hcells' : ∃ b off, 0 < acts.length → a = some ⟨b, off, none⟩ ∧ Cells w b off 10 (acts.map acL) := by
    rcases hcells with h | ⟨b, off, h⟩
    · exact ⟨0, 0, fun hp => by have := congrArg List.length h; simp at this; rw [this] at hp; simp at hp⟩
    · exact ⟨b, off, fun _ => h⟩
  clear hcells
  obtain ⟨ab, aoff, hcells⟩ := hcells'
  have HC := Lib.hid hcells; clear hcells
  generalize hlen : acts.length = n at *
  have HL := Lib.hid hlen; clear hlen
  have HR := Lib.hid hres; clear hres
  clear Hv hz
  go_enter_defers Tryz.func89, Tryz.ntmps89
  go_wp2_with fail
  refine (H34.out _ bel_by).mono ?_
  rintro e w1 ⟨rfl, hb⟩
  have b0 : Blk w1 w.heap.size #[.int .u64 (pl blank 0), .int .u64 (pl blank 1), .int .u64 (pl blank 2), .int .u64 (pl blank 3), .int .u64 (pl blank 4), .int .u64 (pl blank 5), .int .u64 (pl blank 6), .int .u64 (pl blank 7), v, .slice a n c] 30 := Blk.grow blk_by hb
  have b1 : Blk w1 (w.heap.size + 1) #[.pointer none] 101 := Blk.grow blk_by hb
  have b2 : Blk w1 (w.heap.size + 1 + 1) #[.int .i64 0] 3 := Blk.grow blk_by hb
  have b3 : Blk w1 (w.heap.size + 1 + 1 + 1) #[.int .i64 0] 33 := Blk.grow blk_by hb
  have r1 := b1.row
  have hs := hb.size
  simp only [World.size_alloc] at hs
  have c0 : ∀ i, w1.cell? ⟨w.heap.size, i, none⟩ = (#[.int .u64 (pl blank 0), .int .u64 (pl blank 1), .int .u64 (pl blank 2), .int .u64 (pl blank 3), .int .u64 (pl blank 4), .int .u64 (pl blank 5), .int .u64 (pl blank 6), .int .u64 (pl blank 7), v, .slice a n c] : Array Value)[i]? := b0.cell
  rw [← b1.rw]
  have gww10 : w.heap.size < w1.heap.size := by omega
  have gww11 : w.heap.size + 1 < w1.heap.size := by omega
  have gww12 : w.heap.size + 1 + 1 < w1.heap.size := by omega
  have gww13 : w.heap.size + 1 + 1 + 1 < w1.heap.size := by omega
  have hmf' := hmf
  have hbel : Below w.heap.size w w1 := bel_trans bel_by hb
  clear hb
  have hI : InvB w w.heap.size w1.heap.size blank v (.slice a n c) l acts 0 (blank, 0) (.slice none 0 0) ((w1.setRow (w.heap.size + 1) #[.pointer (some ⟨w1.heap.size, 0, none⟩)]).alloc (.cells (pastC blank v (.slice a n c) (.slice none 0 0) blank 0) 113)) :=
    ⟨(b0.rowO _ (by omega)).alloc _, (b1.rowS _).alloc _, (b2.rowO _ (by omega)).alloc _, (b3.rowO _ (by omega)).alloc _, Blk.at _ _ (by rw [setRow_size]), (by simpa using World.ownsRow_nil _ _ _ _), bel_alloc (bel_row hbel (by omega) _) _, by omega⟩
  have HI := Lib.hid hI; clear hI
  clear b0 b1 b2 b3
  go_wp2_with fail
  clear r1 hs c0 gww10 gww11 gww12 gww13 hbel
  generalize w1.heap.size = bp at *
  go_loopw [34] (fun i wr => ∃ k : Nat, ∃ s dv, k ≤ n ∧ i = .int .i64 k ∧ runM l k s (acts.drop k) = res ∧ InvB w w.heap.size bp blank v (.slice a n c) l acts k s dv wr) (fun i _ => n - (intOf i).toNat)
  case atStart => exact ⟨0, (blank, 0), .slice none 0 0, Nat.zero_le _, rfl, HR.out, HI.out⟩
  case round =>
    obtain ⟨k, s, dv, hk, rfl, hrun, hinv⟩ := hrel
    have HINV := Lib.hid hinv; clear hinv
    have HRUN := Lib.hid hrun; clear hrun HR HI
    by_cases hlt : k < n
    · have hx : acts[k]? = some (acts[k]'(by rw [HL.out]; exact hlt)) := by simp
      generalize acts[k]'(by rw [HL.out]; exact hlt) = x at hx
      have HX := Lib.hid hx; clear hx
      have ha := (HC.out (by omega)).1
      have hcs := ac_cells ((HC.out (by omega)).2.mono HINV.out.bel ((HC.out (by omega)).2).1) HX.out
      subst ha
      have c0 := hcs.1
      have c1 := hcs.2.1
      have c2 := hcs.2.2.1
      have c3 := hcs.2.2.2.1
      have c4 := hcs.2.2.2.2.1
      have c5 := hcs.2.2.2.2.2.1
      have c6 := hcs.2.2.2.2.2.2.1
      have c7 := hcs.2.2.2.2.2.2.2.1
      have c8 := hcs.2.2.2.2.2.2.2.2.1
      have c9 := hcs.2.2.2.2.2.2.2.2.2
      clear hcs
      have ch := HINV.out.hist.cell
      have lh := HINV.out.hist.lt
      go_wp2_with fail
      refine (H99.out x _ (bel_alloc HINV.out.bel _)).mono ?_
      rintro e w2 ⟨rfl, hb2⟩
      have hI2 := Lib.hid (HINV.out.grow (bel_trans (bel_alloc (bel_refl wr) _) hb2))
      clear c0 c1 c2 c3 c4 c5 c6 c7 c8 c9 ch lh
      have lh := hI2.out.hist.lt
      clear hb2
      by_cases hf : fits l.length x = true
      · refine Veil.out ?_
        obtain ⟨t, y, f, yy, hd, hA, hM, hE, hC⟩ := refused_of (made l x) s
        refine Veil.on ?_
        rw [if_pos hf, hd]
        have hnn := not_nil t y
        generalize hRR : refM (made l x) s = R at hC
        have HRR := Lib.hid hRR; clear hRR
        have ct := hI2.out.tc.cell
        have cp := hI2.out.past.cell
        have lt := hI2.out.tc.lt
        have lp := hI2.out.past.lt
        go_wp2_with fail
        refine wp_region_grow 11 [Is (.func (.func 143) #[] #[]), Is (.int .i64 k), Is (.iface t y), Is (.pointer (some ⟨bp, 0, none⟩)), Is (.pointer (some ⟨bp, 0, none⟩)), Is (.pointer (some ⟨bp, 11, none⟩)), Is (.agg #[.int .u64 (pl s.1 0), .int .u64 (pl s.1 1), .int .u64 (pl s.1 2), .int .u64 (pl s.1 3), .int .u64 (pl s.1 4), .int .u64 (pl s.1 5), .int .u64 (pl s.1 6), .int .u64 (pl s.1 7), .int .u8 s.2]), Is (.func (.method "strickle/trace.refused") #[.iface t y] #[]), Is (.func (.method "strickle/trace.refused") #[.iface t y] #[]), Is (.iface t y), Is (.int .i64 R)] (by kernel_rfl) (by kernel_rfl) rfl ⟨fun _ _ _ h _ => h, fun _ _ _ h _ => h, fun _ _ _ h _ => h, fun _ _ _ h _ => h, fun _ _ _ h _ => h, fun _ _ _ h _ => h, fun _ _ _ h _ => h, fun _ _ _ h _ => h, fun _ _ _ h _ => h, fun _ _ _ h _ => h, fun _ _ _ h _ => h, trivial⟩ ?_
        simp only [List.take_succ_cons, List.take_zero, List.drop_succ_cons, List.drop_zero]
        refine rel_cons ?_ (fun v0 => ?_)
        · intro w1 hb hF
          have hc := (Grows.cells hb).1
          have hf := (Grows.cells hb).2
          try simp [facts, Is] at hF
          go_simp
          exact Grows.refl _
        refine rel_cons ?_ (fun v1 => ?_)
        · intro w1 hb hF
          have hc := (Grows.cells hb).1
          have hf := (Grows.cells hb).2
          try simp [facts, Is] at hF
          go_simp
          exact Grows.refl _
        refine rel_cons ?_ (fun v2 => ?_)
        · intro w1 hb hF
          have hc := (Grows.cells hb).1
          have hf := (Grows.cells hb).2
          try simp [facts, Is] at hF
          go_simp
          exact Grows.refl _
        refine rel_cons ?_ (fun v3 => ?_)
        · intro w1 hb hF
          have hc := (Grows.cells hb).1
          have hf := (Grows.cells hb).2
          try simp [facts, Is] at hF
          go_simp
          exact Grows.refl _
        refine rel_cons ?_ (fun v4 => ?_)
        · intro w1 hb hF
          have hc := (Grows.cells hb).1
          have hf := (Grows.cells hb).2
          try simp [facts, Is] at hF
          go_simp
          exact Grows.refl _
        refine rel_cons ?_ (fun v5 => ?_)
        · intro w1 hb hF
          have hc := (Grows.cells hb).1
          have hf := (Grows.cells hb).2
          try simp [facts, Is] at hF
          go_simp
          exact Grows.refl _
        refine rel_cons ?_ (fun v6 => ?_)
        · intro w1 hb hF
          have hc := (Grows.cells hb).1
          have hf := (Grows.cells hb).2
          try simp [facts, Is] at hF
          go_simp
          exact Grows.refl _
        refine rel_cons ?_ (fun v7 => ?_)
        · intro w1 hb hF
          have hc := (Grows.cells hb).1
          have hf := (Grows.cells hb).2
          try simp [facts, Is] at hF
          go_simp
          exact Grows.refl _
        refine rel_cons ?_ (fun v8 => ?_)
        · intro w1 hb hF
          have hc := (Grows.cells hb).1
          have hf := (Grows.cells hb).2
          try simp [facts, Is] at hF
          go_simp
          exact Grows.refl _
        refine rel_cons ?_ (fun v9 => ?_)
        · intro w1 hb hF
          have hc := (Grows.cells hb).1
          have hf := (Grows.cells hb).2
          try simp [facts, Is] at hF
          go_simp
          exact Grows.refl _
        refine rel_cons ?_ (fun v10 => ?_)
        · intro w1 hb hF
          have hc := (Grows.cells hb).1
          have hf := (Grows.cells hb).2
          try simp [facts, Is] at hF
          go_simp
          refine (hC.out _).mono ?_
          rintro e w4 ⟨rfl, hb4⟩
          exact ⟨rfl, hb4⟩
        refine rel_nil ?_
        intro w1 hb hF
        simp [Is, Nat.forall_lt_succ_right] at hF
        have e0 := hF.1.1.1.1.1.1.1.1.1.1
        have e1 := hF.1.1.1.1.1.1.1.1.1.2
        have e2 := hF.1.1.1.1.1.1.1.1.2
        have e3 := hF.1.1.1.1.1.1.1.2
        have e4 := hF.1.1.1.1.1.1.2
        have e5 := hF.1.1.1.1.1.2
        have e6 := hF.1.1.1.1.2
        have e7 := hF.1.1.1.2
        have e8 := hF.1.1.2
        have e9 := hF.1.2
        have e10 := hF.2
        clear hF
        simp only [Act.put, List.setIfInBounds_toArray, List.set_cons_succ, List.set_cons_zero, e0, e1, e2, e3, e4, e5, e6, e7, e8, e9, e10]
        clear e0 e1 e2 e3 e4 e5 e6 e7 e8 e9 e10
        have hI3 := hI2.out.grow hb
        clear hb ct cp lt lp
        by_cases hR0 : R = 0
        · subst hR0
          go_wp2_with fail
          refine (check_ok k w1).mono ?_
          rintro e w9 ⟨rfl, rfl⟩
          have HN : Hid (nextM l s x = .inr (doneM (made l x) s)) := by
            show _ = _
            unfold nextM
            rw [if_pos hf, if_pos HRR.out]
          have HD := Lib.hid fun w' => done_spec (made l x) s w' (by have := fits_kind hf; show x.1 = 1 ∨ x.1 = 2 ∨ x.1 = 3; omega)
          rw [hd] at HD
          generalize doneM (made l x) s = s2 at HN HD
          have hown3 := hI3.own
          generalize hxs : deedCs l (acts.take k) = xs at hown3
          have HXS := Lib.hid hxs; clear hxs
          have HJ : Hid (Inv16 w.heap.size bp blank v (.slice (some ⟨ab, aoff, none⟩) n c) k s s2 dv xs (xs ++ [.iface t y]) false false false w9) :=
            ⟨hI3.hist, hI3.tc, hI3.c2, hI3.c3, ⟨dv, hI3.past, fun _ => rfl, fun e => (by cases e)⟩, fun _ => hown3, hI3.hb⟩
          have lh3 := hI3.hist.lt
          have HBEL := Lib.hid hI3.bel
          clear hI3
          go_wp2_with fail
          refine wp_region_inv (RB w.heap.size bp k dv (xs ++ [.iface t y])) (fun L => Inv16 w.heap.size bp blank v (.slice (some ⟨ab, aoff, none⟩) n c) k s s2 dv xs (xs ++ [.iface t y]) (L 8) (L 17) (L 20)) [Is (.pointer (some ⟨bp, 0, none⟩)), Is (.pointer (some ⟨bp, 0, none⟩)), Is (.pointer (some ⟨bp, 0, none⟩)), Is (.pointer (some ⟨bp, 0, none⟩)), Is (.pointer (some ⟨bp, 10, none⟩)), Is dv, Is (.iface t y), New1 bp dv (.iface t y), OwnK bp k (xs ++ [.iface t y]), Is (.pointer (some ⟨bp, 0, none⟩)), Is (.pointer (some ⟨bp, 0, none⟩)), Is (.pointer (some ⟨bp, 11, none⟩)), Is (.agg #[.int .u64 (pl s.1 0), .int .u64 (pl s.1 1), .int .u64 (pl s.1 2), .int .u64 (pl s.1 3), .int .u64 (pl s.1 4), .int .u64 (pl s.1 5), .int .u64 (pl s.1 6), .int .u64 (pl s.1 7), .int .u8 s.2]), Is (.iface t y), Is (.agg #[.int .u64 (pl s2.1 0), .int .u64 (pl s2.1 1), .int .u64 (pl s2.1 2), .int .u64 (pl s2.1 3), .int .u64 (pl s2.1 4), .int .u64 (pl s2.1 5), .int .u64 (pl s2.1 6), .int .u64 (pl s2.1 7), .int .u8 s2.2]), Is (.pointer (some ⟨bp, 0, none⟩)), Is (.pointer (some ⟨bp, 10, none⟩)), Is undef, Is (.pointer (some ⟨bp, 0, none⟩)), Is (.pointer (some ⟨bp, 11, none⟩)), Is undef] (by kernel_rfl) (by kernel_rfl) rfl RB.refl (fun _ _ _ => RB.trans) (stable_mem ⟨fun _ _ _ h _ => h, fun _ _ _ h _ => h, fun _ _ _ h _ => h, fun _ _ _ h _ => h, fun _ _ _ h _ => h, fun _ _ _ h _ => h, fun _ _ _ h _ => h, New1.stable, OwnK.stable, fun _ _ _ h _ => h, fun _ _ _ h _ => h, fun _ _ _ h _ => h, fun _ _ _ h _ => h, fun _ _ _ h _ => h, fun _ _ _ h _ => h, fun _ _ _ h _ => h, fun _ _ _ h _ => h, fun _ _ _ h _ => h, fun _ _ _ h _ => h, fun _ _ _ h _ => h, fun _ _ _ h _ => h, trivial⟩) w9 (RB.grow (by omega) (Below.refl _ _).drew) (HJ.out.grow (Below.refl _ _).drew) ?_
          refine inv_cons ?_ (fun v0 => ?_)
          · intro L w1 hat hb hI hF
            try simp [factsI, Region.binds, Is] at hF
            have c0 := hI.tc.cell
            go_simp
            exact RB.refl _
          refine inv_cons ?_ (fun v1 => ?_)
          · intro L w1 hat hb hI hF
            try simp [factsI, Region.binds, Is] at hF
            have c0 := hI.tc.cell
            go_simp
            exact RB.refl _
          refine inv_cons ?_ (fun v2 => ?_)
          · intro L w1 hat hb hI hF
            try simp [factsI, Region.binds, Is] at hF
            have c0 := hI.tc.cell
            go_simp
            exact RB.refl _
          refine inv_cons ?_ (fun v3 => ?_)
          · intro L w1 hat hb hI hF
            try simp [factsI, Region.binds, Is] at hF
            go_simp
            exact RB.refl _
          refine inv_cons ?_ (fun v4 => ?_)
          · intro L w1 hat hb hI hF
            try simp [factsI, Region.binds, Is] at hF
            go_simp
            exact RB.refl _
          refine inv_cons ?_ (fun v5 => ?_)
          · intro L w1 hat hb hI hF
            try simp [factsI, Region.binds, Is] at hF
            have h17 : L 17 = false := hat.later 22 17 (by kernel_rfl)
            rw [h17] at hI
            have hp := hI.past
            refine Exists.elim hp (fun dc hdc => ?_)
            have hdc2 := hdc.2.1 rfl
            subst hdc2
            have c0 := hdc.1.cell
            clear hdc hp
            go_simp
            exact RB.refl _
          refine inv_cons ?_ (fun v6 => ?_)
          · intro L w1 hat hb hI hF
            try simp [factsI, Region.binds, Is] at hF
            go_simp
            exact RB.refl _
          refine inv_cons ?_ (fun v7 => ?_)
          · intro L w1 hat hb hI hF
            try simp [factsI, Region.binds, Is] at hF
            have h8' : L 8 = false := hat.later 22 8 (by kernel_rfl)
            rw [h8'] at hI
            have hnew := New1.fresh (d := .iface t y) (fun g hg => ((hI.own rfl).lt g hg).2) (show bp + 1 ≤ w1.heap.size from by have := hI.past; exact Exists.elim this (fun dc h => h.1.lt))
            have hr : RB w.heap.size bp k dv (xs ++ [.iface t y]) w1 (w1.alloc (.cells #[.iface t y] 122)) := RB.grow (by have := hI.hist.lt; omega) (bel_alloc (bel_refl _) _)
            have hJ := hI.grow (bel_alloc (bel_refl w1) (.cells #[.iface t y] 122))
            have HJ := Lib.hid (And.intro hr (And.intro hJ hnew)); clear hr hJ hnew hI
            go_simp
            exact HJ.out
          refine inv_cons ?_ (fun v8 => ?_)
          · intro L w1 hat hb hI hF
            try simp [factsI, Region.binds, Is] at hF
            have h8' : L 8 = false := hat.self
            have h17 : L 17 = false := hat.later 22 17 (by kernel_rfl)
            rw [h8', h17] at hI
            have happ := append_deed (h := w.heap.size) (hI.own rfl) hF.2 (by omega) (Exists.elim hI.past (fun dc h => h.1.lt)) (by have := hI.hb; omega) (by rfl)
            refine Exists.elim happ (fun v8 h => Exists.elim h (fun w9 h => ?_))
            have hr := h.1
            exact stepI_append rfl rfl (by simpa [Act.eval, Act.put] using hF.1) (by simp [Act.eval, Act.put]) hr ⟨h.2.2.2, by simpa [h17] using hI.app h.2.2.1, h.2.1⟩
          refine inv_cons ?_ (fun v9 => ?_)
          · intro L w1 hat hb hI hF
            try simp [factsI, Region.binds, Is] at hF
            have c0 := hI.tc.cell
            go_simp
            exact RB.refl _
          refine inv_cons ?_ (fun v10 => ?_)
          · intro L w1 hat hb hI hF
            try simp [factsI, Region.binds, Is] at hF
            go_simp
            exact RB.refl _
          refine inv_cons ?_ (fun v11 => ?_)
          · intro L w1 hat hb hI hF
            try simp [factsI, Region.binds, Is] at hF
            go_simp
            exact RB.refl _
          refine inv_cons ?_ (fun v12 => ?_)
          · intro L w1 hat hb hI hF
            try simp [factsI, Region.binds, Is] at hF
            have h20 : L 20 = false := hat.later 22 20 (by kernel_rfl)
            rw [h20] at hI
            have hp := hI.past
            refine Exists.elim hp (fun dc hdc => ?_)
            have c0 := hdc.1.cell
            clear hdc hp
            go_simp
            exact RB.refl _
          refine inv_cons ?_ (fun v13 => ?_)
          · intro L w1 hat hb hI hF
            try simp [factsI, Region.binds, Is] at hF
            go_simp
            exact RB.refl _
          refine inv_cons ?_ (fun v14 => ?_)
          · intro L w1 hat hb hI hF
            try simp [factsI, Region.binds, Is] at hF
            have HI := Lib.hid hI; clear hI
            go_simp
            refine (HD.out _).mono ?_
            rintro e w5 ⟨rfl, hb5⟩
            exact ⟨_, rfl, RB.grow (Nat.le_of_lt HI.out.hist.lt) hb5, HI.out.grow hb5, rfl⟩
          refine inv_cons ?_ (fun v15 => ?_)
          · intro L w1 hat hb hI hF
            try simp [factsI, Region.binds, Is] at hF
            go_simp
            exact RB.refl _
          refine inv_cons ?_ (fun v16 => ?_)
          · intro L w1 hat hb hI hF
            try simp [factsI, Region.binds, Is] at hF
            go_simp
            exact RB.refl _
          refine inv_cons ?_ (fun v17 => ?_)
          · intro L w1 hat hb hI hF
            try simp [factsI, Region.binds, Is] at hF
            have h20 : L 20 = false := hat.later 22 20 (by kernel_rfl)
            have h8' : L 8 = true := hat.ahead 22 8 (by kernel_rfl)
            rw [h20, h8'] at hI
            have hp := hI.past
            refine Exists.elim hp (fun dc hdc => ?_)
            have hown := hF.2.1
            unfold OwnK at hown
            refine Exists.elim (own_shape hown) (fun p h => Exists.elim h (fun nn h => Exists.elim h (fun cc hv => ?_)))
            subst hv
            have hJ := hI.set17 hown
            have hb := hI.hb
            have hrows := RB.rows (h := w.heap.size) (k := k) (dv := dv) (ys := xs ++ [.iface t y]) (W := w1) (bp := bp) (by omega) (pastC blank v (.slice (some ⟨ab, aoff, none⟩) n c) dc s.1 s.2) (pastC blank v (.slice (some ⟨ab, aoff, none⟩) n c) (.slice p nn cc) s.1 s.2)
            have r0 := hdc.1.row
            rw [← hdc.1.rw]
            have HJ := Lib.hid (And.intro hrows hJ); clear hrows hJ hp hdc hI hown
            go_simp
            exact HJ.out
          refine inv_cons ?_ (fun v18 => ?_)
          · intro L w1 hat hb hI hF
            try simp [factsI, Region.binds, Is] at hF
            go_simp
            exact RB.refl _
          refine inv_cons ?_ (fun v19 => ?_)
          · intro L w1 hat hb hI hF
            try simp [factsI, Region.binds, Is] at hF
            go_simp
            exact RB.refl _
          refine inv_cons ?_ (fun v20 => ?_)
          · intro L w1 hat hb hI hF
            try simp [factsI, Region.binds, Is] at hF
            have h8' : L 8 = true := hat.ahead 22 8 (by kernel_rfl)
            have h17 : L 17 = true := hat.ahead 22 17 (by kernel_rfl)
            rw [h17, h8'] at hI
            have hp := hI.past
            refine Exists.elim hp (fun dc hdc => ?_)
            have hJ := hI.set20 hdc.1 (hdc.2.2 rfl)
            have hb := hI.hb
            have hrows := RB.rows (h := w.heap.size) (k := k) (dv := dv) (ys := xs ++ [.iface t y]) (W := w1) (bp := bp) (by omega) (pastC blank v (.slice (some ⟨ab, aoff, none⟩) n c) dc (bif L 20 then s2.1 else s.1) (bif L 20 then s2.2 else s.2)) (pastC blank v (.slice (some ⟨ab, aoff, none⟩) n c) dc s2.1 s2.2)
            have r0 := hdc.1.row
            rw [← hdc.1.rw]
            have HJ := Lib.hid (And.intro hrows hJ); clear hrows hJ hp hdc hI
            go_simp
            exact HJ.out
          refine inv_nil ?_
          intro w1 hb hI hF
          simp [Is, Nat.forall_lt_succ_right] at hF
          have e0 := hF.1.1.1.1.1.1.1.1.1.1.1.1.1.1.1.1.1.1.1.1
          have e1 := hF.1.1.1.1.1.1.1.1.1.1.1.1.1.1.1.1.1.1.1.2
          have e2 := hF.1.1.1.1.1.1.1.1.1.1.1.1.1.1.1.1.1.1.2
          have e3 := hF.1.1.1.1.1.1.1.1.1.1.1.1.1.1.1.1.1.2
          have e4 := hF.1.1.1.1.1.1.1.1.1.1.1.1.1.1.1.1.2
          have e5 := hF.1.1.1.1.1.1.1.1.1.1.1.1.1.1.1.2
          have e6 := hF.1.1.1.1.1.1.1.1.1.1.1.1.1.1.2
          have e7 := hF.1.1.1.1.1.1.1.1.1.1.1.1.1.2
          have e8 := hF.1.1.1.1.1.1.1.1.1.1.1.1.2
          have e9 := hF.1.1.1.1.1.1.1.1.1.1.1.2
          have e10 := hF.1.1.1.1.1.1.1.1.1.1.2
          have e11 := hF.1.1.1.1.1.1.1.1.1.2
          have e12 := hF.1.1.1.1.1.1.1.1.2
          have e13 := hF.1.1.1.1.1.1.1.2
          have e14 := hF.1.1.1.1.1.1.2
          have e15 := hF.1.1.1.1.1.2
          have e16 := hF.1.1.1.1.2
          have e17 := hF.1.1.1.2
          have e18 := hF.1.1.2
          have e19 := hF.1.2
          have e20 := hF.2
          clear hF
          simp only [Act.put, List.setIfInBounds_toArray, List.set_cons_succ, List.set_cons_zero, e0, e1, e2, e3, e4, e5, e6, e9, e10, e11, e12, e13, e14, e15, e16, e17, e18, e19, e20]
          clear e0 e1 e2 e3 e4 e5 e6 e9 e10 e11 e12 e13 e14 e15 e16 e17 e18 e19 e20
          have hrun2 : runM l (k + 1) s2 (acts.drop (k + 1)) = res := by
            rw [← HRUN.out, runM_get HX.out, HN.out]
          have hcs : deedCs l (acts.take (k + 1)) = xs ++ [.iface t y] := by
            rw [← HXS.out, ← hd]
            unfold deedCs
            rw [List.take_add_one, HX.out]; simp
          refine Veil.out ?_
          obtain ⟨dc, p1, _, p3⟩ := hI.past
          refine Veil.on ?_
          have hnew : InvB w w.heap.size bp blank v (.slice (some ⟨ab, aoff, none⟩) n c) l acts (k + 1) s2 dc w1 :=
            ⟨hI.hist, hI.tc, hI.c2, hI.c3, p1, by rw [hcs]; exact p3 rfl, HBEL.out.trans hb.bel, hI.hb⟩
          have HNEW := Lib.hid (And.intro hrun2 hnew)
          clear hnew hrun2 hcs hI p1 p3 hb
          go_wp2_with fail
          go_roundw
          case rel => exact ⟨k + 1, s2, dc, by omega, by go_num, HNEW.out.1, HNEW.out.2⟩
          case measure => simp [intOf]; omega
        · have HRES : Hid (res = .inl (k, R)) := by
            show _ = _
            rw [← HRUN.out, runM_get HX.out]
            simp [nextM, hf, HRR.out, hR0]
          go_wp2_with fail
          refine (check_bad k R (by simpa [bne] using hR0) _).mono ?_
          rintro e w9 ⟨rfl, rfl⟩
          go_wp2_with fail
          refine leaves_cons (f := 142) (args := #[.pointer (some ⟨w.heap.size + 1, 0, none⟩), .pointer (some ⟨w.heap.size + 1 + 1, 0, none⟩), .pointer (some ⟨w.heap.size + 1 + 1 + 1, 0, none⟩)]) (by simp) (by simp [go_sem]) ?_
          refine (catch_halt _ _ _ w.heap.size k _ [] _ (.pointer (some ⟨bp, 0, none⟩)) (.int .i64 0) (.int .i64 0) (hI3.tc.cell 0) (hI3.c2.cell 0) (hI3.c3.cell 0) (hI3.tc.free 0) (hI3.c2.free 0) (hI3.c3.free 0) (by omega) (by omega) (by omega) (by omega) (by omega) (by omega) hI3.tc.lt hI3.c2.lt hI3.c3.lt).mono ?_
          rintro e u' w4 ⟨rfl, rfl, hA, hB, hC, hbel⟩
          simp [Leaves, settle, results, Tryz.results89, go_sem, hA, hB, hC]
          refine ⟨hI3.bel.trans hbel, ?_⟩
          rw [HRES.out]
      · rw [if_neg hf]
        have hnn := is_nil
        have HRES : Hid (res = .inl (k, 1)) := by
          show _ = _
          rw [← HRUN.out, runM_get HX.out]
          simp [nextM, hf]
        go_wp2_with fail
        refine (check_bad k 1 (by decide) _).mono ?_
        rintro e w3 ⟨rfl, rfl⟩
        go_wp2_with fail
        have hI3 := hI2.out
        refine leaves_cons (f := 142) (args := #[.pointer (some ⟨w.heap.size + 1, 0, none⟩), .pointer (some ⟨w.heap.size + 1 + 1, 0, none⟩), .pointer (some ⟨w.heap.size + 1 + 1 + 1, 0, none⟩)]) (by simp) (by simp [go_sem]) ?_
        refine (catch_halt _ _ _ w.heap.size k _ [] _ (.pointer (some ⟨bp, 0, none⟩)) (.int .i64 0) (.int .i64 0) (hI3.tc.cell 0) (hI3.c2.cell 0) (hI3.c3.cell 0) (hI3.tc.free 0) (hI3.c2.free 0) (hI3.c3.free 0) (by omega) (by omega) (by omega) (by omega) (by omega) (by omega) hI3.tc.lt hI3.c2.lt hI3.c3.lt).mono ?_
        rintro e u' w4 ⟨rfl, rfl, hA, hB, hC, hbel⟩
        simp [Leaves, settle, results, Tryz.results89, go_sem, hA, hB, hC]
        refine ⟨hI3.bel.trans hbel, ?_⟩
        rw [HRES.out]
    · have hkn : k = n := by omega
      subst hkn
      have hres : res = .inr s := by
        rw [← HRUN.out, List.drop_of_length_le (by rw [HL.out]; exact Nat.le_refl _)]; rfl
      have HRES := Lib.hid hres; clear hres
      have hi := HINV.out
      have r1 := hi.tc.row
      have r2 := hi.c2.row
      have r3 := hi.c3.row
      rw [← hi.tc.rw, ← hi.c2.rw, ← hi.c3.rw]
      clear hi
      go_wp2_with fail
      rw [HINV.out.c3.rw, HINV.out.c2.rw, HINV.out.tc.rw]
      refine leaves_cons (f := 142) (args := #[.pointer (some ⟨w.heap.size + 1, 0, none⟩), .pointer (some ⟨w.heap.size + 1 + 1, 0, none⟩), .pointer (some ⟨w.heap.size + 1 + 1 + 1, 0, none⟩)]) (by simp) (by simp [go_sem]) ?_
      refine (catch_idle _ _ _ _).mono ?_
      rintro e u' w4 ⟨rfl, rfl, rfl⟩
      simp [Leaves, settle, results, Tryz.results89, go_sem, HINV.out.tc.cell, HINV.out.c2.cell, HINV.out.c3.cell]
      refine ⟨HINV.out.bel, ?_⟩
      rw [HRES.out]
      refine ⟨bp, by have := HINV.out.hb; omega, rfl, ⟨dv, HINV.out.past, ?_⟩⟩
      have := HINV.out.own
      rwa [List.take_of_length_le (by rw [HL.out]; exact Nat.le_refl _), ← HL.out] at this
end Go.Proofs.YtccnkebkgegohaaGreatDoor
end
section
namespace Go.Proofs.YtccnkebkgegohaaGreatDoor
open Go.RowKit Go.Rel
set_option maxRecDepth 100000
/-- what a history comes to: the act that is refused and why, or the last stand -/
def begunM (blank : Sol) (l : List Sol) (acts : List Ac) : (Nat × Int) ⊕ Stn :=
  if chkPat blank l = 0 then (if acts.length ≤ 60 then runM l 0 (blank, 0) acts else .inl (0, 2)) else .inl (0, chkPat blank l)
theorem nextM_bad {l : List Sol} {s : Stn} {a : Ac} {e : Int} (h : nextM l s a = .inl e) : e ≠ 0 := by
  unfold nextM at h
  split at h
  · split at h
    · cases h
    · rename_i hne; cases h; exact hne
  · cases h; decide
theorem runM_bad {l : List Sol} : ∀ {acts : List Ac} {k : Nat} {s : Stn} {x : Nat × Int}, runM l k s acts = .inl x → x.2 ≠ 0
  | [], _, _, _, h => by cases h
  | a :: rest, k, s, x, h => by
    unfold runM at h
    split at h
    · rename_i e he; cases h; exact nextM_bad he
    · exact runM_bad h
theorem begunM_bad {blank : Sol} {l : List Sol} {acts : List Ac} {x : Nat × Int} (h : begunM blank l acts = .inl x) : (x.2 != 0) = true := by
  have : x.2 ≠ 0 := by
    unfold begunM at h
    split at h
    · split at h
      · exact runM_bad h
      · cases h; decide
    · rename_i hne; cases h; exact hne
  simpa using this
theorem begunM_good {blank : Sol} {l : List Sol} {acts : List Ac} {s : Stn} (h : begunM blank l acts = .inr s) : chkPat blank l = 0 ∧ acts.length ≤ 60 ∧ runM l 0 (blank, 0) acts = .inr s := by
  unfold begunM at h
  split at h
  · rename_i h0
    split at h
    · rename_i h1; exact ⟨h0, h1, h⟩
    · cases h
  · cases h
theorem chkPat_ok {blank : Sol} {l : List Sol} (h : chkPat blank l = 0) : l.length ≤ 8 := by
  unfold chkPat at h
  split at h
  · cases h
  · omega
theorem begun_spec (blank : Sol) (v av : Value) (l : List Sol) (acts : List Ac) (w : World) (Hv : SlS w v l) (Hav : SlA w av acts) :
    Calls Tryz.prog 89 #[.agg #[.int .u64 (pl blank 0), .int .u64 (pl blank 1), .int .u64 (pl blank 2), .int .u64 (pl blank 3), .int .u64 (pl blank 4), .int .u64 (pl blank 5), .int .u64 (pl blank 6), .int .u64 (pl blank 7), v, av]] w (BegunP w blank v av l acts (begunM blank l acts)) := by
  have H34 := fun w' (hb : Below w.heap.size w w') => CheckPattern_spec blank v l w' (Hv.mono hb)
  unfold begunM
  by_cases hz : chkPat blank l = 0
  · rw [if_pos hz]
    by_cases hn : acts.length ≤ 60
    · rw [if_pos hn]
      exact begun_main blank v av l acts w Hv Hav hz (chkPat_ok hz) hn _ rfl
    · rw [if_neg hn]
      rw [hz] at H34
      obtain ⟨a, c, rfl, hcn, hcm, hcells⟩ := Hav
      rw [List.length_map]
      exact (begun_long blank v a acts.length c w (by omega) H34).mono fun e w' h => ⟨h.2, h.1⟩
  · rw [if_neg hz]
    exact (begun_pat blank v av w _ (by simpa using hz) H34).mono fun e w' h => ⟨h.2, h.1⟩
theorem begun_bad {blank : Sol} {v av : Value} {l : List Sol} {acts : List Ac} {x : Nat × Int} (h : begunM blank l acts = .inl x) (w : World) (Hv : SlS w v l) (Hav : SlA w av acts) :
    Calls Tryz.prog 89 #[.agg #[.int .u64 (pl blank 0), .int .u64 (pl blank 1), .int .u64 (pl blank 2), .int .u64 (pl blank 3), .int .u64 (pl blank 4), .int .u64 (pl blank 5), .int .u64 (pl blank 6), .int .u64 (pl blank 7), v, av]] w fun e w' => e = .returned (.tuple #[.pointer none, .int .i64 x.1, .int .i64 x.2]) ∧ Below w.heap.size w w' := by
  have := begun_spec blank v av l acts w Hv Hav
  rw [h] at this
  exact this.mono fun e w' h => ⟨h.2, h.1⟩
theorem begun_good {blank : Sol} {v av : Value} {l : List Sol} {acts : List Ac} {s : Stn} (h : begunM blank l acts = .inr s) (w : World) (Hv : SlS w v l) (Hav : SlA w av acts) :
    Calls Tryz.prog 89 #[.agg #[.int .u64 (pl blank 0), .int .u64 (pl blank 1), .int .u64 (pl blank 2), .int .u64 (pl blank 3), .int .u64 (pl blank 4), .int .u64 (pl blank 5), .int .u64 (pl blank 6), .int .u64 (pl blank 7), v, av]] w fun e w' => ∃ bp, e = .returned (.tuple #[.pointer (some ⟨bp, 0, none⟩), .int .i64 0, .int .i64 0]) ∧ w.heap.size ≤ bp ∧ PastAt bp blank v av l acts s w' ∧ Below w.heap.size w w' := by
  have := begun_spec blank v av l acts w Hv Hav
  rw [h] at this
  exact this.mono fun e w' ⟨hb, bp, h1, h2, h3⟩ => ⟨bp, h2, h1, h3, hb⟩
/-- Check -/
def checkR (blank : Sol) (l : List Sol) (acts : List Ac) : Nat × Int := match begunM blank l acts with
  | .inl x => x
  | .inr _ => (0, 0)
set_option maxHeartbeats 1000000 in
theorem Check_spec (blank : Sol) (v av : Value) (l : List Sol) (acts : List Ac) (w : World) (Hv : SlS w v l) (Hav : SlA w av acts) :
    Calls Tryz.prog 27 #[.agg #[.int .u64 (pl blank 0), .int .u64 (pl blank 1), .int .u64 (pl blank 2), .int .u64 (pl blank 3), .int .u64 (pl blank 4), .int .u64 (pl blank 5), .int .u64 (pl blank 6), .int .u64 (pl blank 7), v, av]] w fun e w' => e = .returned (.tuple #[.int .i64 (checkR blank l acts).1, .int .i64 (checkR blank l acts).2]) ∧ Below w.heap.size w w' := by
  have key : ∀ w', Below w.heap.size w w' → Calls Tryz.prog 89 #[.agg #[.int .u64 (pl blank 0), .int .u64 (pl blank 1), .int .u64 (pl blank 2), .int .u64 (pl blank 3), .int .u64 (pl blank 4), .int .u64 (pl blank 5), .int .u64 (pl blank 6), .int .u64 (pl blank 7), v, av]] w' fun e w'' => ∃ p, e = .returned (.tuple #[.pointer p, .int .i64 (checkR blank l acts).1, .int .i64 (checkR blank l acts).2]) ∧ Below w'.heap.size w' w'' := by
    intro w' hb
    unfold checkR
    cases h : begunM blank l acts with
    | inl x => exact (begun_bad h w' (Hv.mono hb) (Hav.mono hb)).mono fun e w'' ⟨h1, h2⟩ => ⟨_, h1, h2⟩
    | inr s => exact (begun_good h w' (Hv.mono hb) (Hav.mono hb)).mono fun e w'' ⟨bp, h1, _, _, h2⟩ => ⟨_, h1, h2⟩
  generalize checkR blank l acts = x at key ⊢
  have H := Lib.hid key; clear key Hv Hav
  go_enter Tryz.func27, Tryz.ntmps27
  go_wp2_with fail
  refine (H.out _ bel_by).mono ?_
  rintro e w1 ⟨p, rfl, hb⟩
  go_wp2_with fail
  go_ret2
  exact ⟨rfl, bel_by⟩
set_option maxHeartbeats 1000000 in
theorem Stand_bad {blank : Sol} {v av : Value} {l : List Sol} {acts : List Ac} {x : Nat × Int} (h : begunM blank l acts = .inl x) (w : World) (Hv : SlS w v l) (Hav : SlA w av acts) :
    Calls Tryz.prog 22 #[.agg #[.int .u64 (pl blank 0), .int .u64 (pl blank 1), .int .u64 (pl blank 2), .int .u64 (pl blank 3), .int .u64 (pl blank 4), .int .u64 (pl blank 5), .int .u64 (pl blank 6), .int .u64 (pl blank 7), v, av]] w fun e w' => e = .returned (.tuple #[.agg #[.int .u64 0, .int .u64 0, .int .u64 0, .int .u64 0, .int .u64 0, .int .u64 0, .int .u64 0, .int .u64 0, .int .u8 0], .int .i64 x.2]) ∧ Below w.heap.size w w' := by
  have H := Lib.hid fun w' (hb : Below w.heap.size w w') => begun_bad h w' (Hv.mono hb) (Hav.mono hb)
  have hne := begunM_bad h
  clear h Hv Hav
  go_enter Tryz.func22, Tryz.ntmps22
  go_wp2_with fail
  refine (H.out _ bel_by).mono ?_
  rintro e w1 ⟨rfl, hb⟩
  have b1 : Blk w1 (w.heap.size + 1) #[.int .u64 0, .int .u64 0, .int .u64 0, .int .u64 0, .int .u64 0, .int .u64 0, .int .u64 0, .int .u64 0, .int .u8 0] 37 := Blk.grow blk_by hb
  have r1 := b1.row
  rw [← b1.rw]
  clear b1
  go_wp2_with fail
  refine bodyPost_ret (by simp [results, Tryz.results22, go_sem, *]) rfl ⟨rfl, bel_by⟩
set_option maxHeartbeats 1000000 in
theorem Stand_good {blank : Sol} {v av : Value} {l : List Sol} {acts : List Ac} {s : Stn} (h : begunM blank l acts = .inr s) (w : World) (Hv : SlS w v l) (Hav : SlA w av acts) :
    Calls Tryz.prog 22 #[.agg #[.int .u64 (pl blank 0), .int .u64 (pl blank 1), .int .u64 (pl blank 2), .int .u64 (pl blank 3), .int .u64 (pl blank 4), .int .u64 (pl blank 5), .int .u64 (pl blank 6), .int .u64 (pl blank 7), v, av]] w fun e w' => e = .returned (.tuple #[.agg #[.int .u64 (pl s.1 0), .int .u64 (pl s.1 1), .int .u64 (pl s.1 2), .int .u64 (pl s.1 3), .int .u64 (pl s.1 4), .int .u64 (pl s.1 5), .int .u64 (pl s.1 6), .int .u64 (pl s.1 7), .int .u8 s.2], .int .i64 0]) ∧ Below w.heap.size w w' := by
  have H := Lib.hid fun w' (hb : Below w.heap.size w w') => begun_good h w' (Hv.mono hb) (Hav.mono hb)
  clear h Hv Hav
  go_enter Tryz.func22, Tryz.ntmps22
  go_wp2_with fail
  refine (H.out _ bel_by).mono ?_
  rintro e w1 ⟨bp, rfl, hbp, hP, hb⟩
  refine Veil.out ?_
  obtain ⟨dv, hpast, _⟩ := hP.past
  refine Veil.on ?_
  have b1 : Blk w1 (w.heap.size + 1) #[.int .u64 0, .int .u64 0, .int .u64 0, .int .u64 0, .int .u64 0, .int .u64 0, .int .u64 0, .int .u64 0, .int .u8 0] 37 := Blk.grow blk_by hb
  have hne : bp ≠ w.heap.size + 1 := by simp only [World.size_alloc] at hbp; omega
  have c0 := hpast.cell
  have r1 := b1.row
  rw [← b1.rw]
  clear b1 hP hpast
  go_wp2_with fail
  refine bodyPost_ret (by simp [results, Tryz.results22, go_sem, *]) rfl ⟨rfl, bel_by⟩
end Go.Proofs.YtccnkebkgegohaaGreatDoor
end
section
namespace Go.Proofs.YtccnkebkgegohaaGreatDoor
open Go.RowKit Go.Rel
set_option maxRecDepth 100000
/-! ### LISTS OF NUMBERS -/
abbrev intL (i : Int) : List Value := [.int .i64 i]
abbrev SlI (w : World) (v : Value) (l : List Int) : Prop := Sl w 1 v (l.map intL)
theorem int_cell {w : World} {b off : Nat} {l : List Int} (h : Cells w b off 1 (l.map intL)) {k : Nat} {x : Int} (hx : l[k]? = some x) : w.cell? ⟨b, off + k, none⟩ = some (.int .i64 x) := by
  have := h.2 k 0 (.int .i64 x) (by simp [hx])
  simpa using this
set_option maxHeartbeats 1000000 in
theorem IndexInt_spec (v : Value) (l : List Int) (s : Int) (w : World) (h : SlI w v l) :
    Calls Tryz.prog 128 #[v, .int .i64 s] w fun e w' => e = .returned (.int .i64 (idx (fun x => s == x) l)) ∧ w' = w := by
  rcases h.cases with ⟨hl, a, c, rfl, hm⟩ | ⟨b, off, c, rfl, hc, hm, hpos, hcs⟩
  · have hl' : l = [] := by simpa using hl
    subst hl'
    clear hl
    go_enter Tryz.func128, Tryz.ntmps128
    go_wp2
    refine wp_loop_rounds 1 ?_
    rw [rounds_succ]
    go_wp2
    go_ret
    exact ⟨rfl, rfl⟩
  · rw [List.length_map] at hc hpos ⊢
    have hb := hcs.1
    have H := Lib.hid hcs; clear hcs h
    generalize hn : l.length = n at hc hpos ⊢
    have HN := Lib.hid hn; clear hn
    go_enter Tryz.func128, Tryz.ntmps128
    go_wp2
    go_loopw [8] (fun i wr => ∃ k : Nat, k ≤ n ∧ i = .int .i64 k ∧ Hid (∀ (j : Nat) (y : Int), j < k → l[j]? = some y → (s == y) = false) ∧ wr = w) (fun i _ => n - (intOf i).toNat)
    case atStart => exact ⟨0, Nat.zero_le _, rfl, fun j y hj => by omega, rfl⟩
    case round =>
      obtain ⟨k, hk, rfl, HP, rfl⟩ := hrel
      by_cases hlt : k < n
      · obtain ⟨x, hx⟩ : ∃ x, l[k]? = some x := ⟨l[k]'(by rw [HN.out]; exact hlt), by simp [HN.out, hlt]⟩
        have c0 := int_cell H.out hx
        have HX := Lib.hid hx; clear hx
        go_wp2
        · have he : (s == x) = true := by assumption
          go_ret
          exact ⟨ret_int (idx_found HX.out he HP.out).symm, rfl⟩
        · have he : (s == x) = false := by assumption
          go_roundw
          case rel => exact ⟨k + 1, by omega, by go_num, fun j y hj hy => by
            rcases Nat.lt_or_eq_of_le (Nat.le_of_lt_succ hj) with h | h
            · exact HP.out j y h hy
            · subst h; rw [HX.out] at hy; cases hy; exact he, trivial⟩
          case measure => simp [intOf]; omega
      · go_wp2
        go_ret
        exact ⟨ret_int (idx_none (fun j y hy => HP.out j y (by have := (List.getElem?_eq_some_iff.1 hy).1; rw [HN.out] at this; omega) hy)).symm, rfl⟩
set_option maxHeartbeats 1000000 in
theorem ContainsInt_spec (v : Value) (l : List Int) (s : Int) (w : World) (h : SlI w v l) :
    Calls Tryz.prog 68 #[v, .int .i64 s] w fun e w' => e = .returned (.bool (l.contains s)) ∧ w' = w := by
  have hge := idx_ge (fun x => s == x) l
  have hany : Hid (l.contains s = decide (0 ≤ idx (fun x => s == x) l)) := by
    show _ = _
    rw [Bool.eq_iff_iff, decide_eq_true_eq, idx_nonneg]
    simp
  have hidx := Lib.hid (IndexInt_spec v l s w h)
  generalize idx (fun x => s == x) l = i at hge hany hidx
  go_enter Tryz.func68, Tryz.ntmps68
  go_wp2_with fail
  refine hidx.out.mono ?_
  rintro e w1 ⟨rfl, rfl⟩
  go_wp2_with fail
  go_ret
  refine ⟨?_, rfl⟩
  rw [hany.out]; rfl
end Go.Proofs.YtccnkebkgegohaaGreatDoor
end
