import Derived.Test.YtccnkebkgegohaaGreatDoorHE2
/-
  Given contracts of functions of the program, and laws for them, one behind the other.
-/
set_option linter.unusedVariables false
set_option linter.unusedSimpArgs false
set_option linter.unusedSectionVars false
section
namespace Go.Proofs.YtccnkebkgegohaaGreatDoor
open Go.RowKit Go.Rel Go.Sort
set_option maxRecDepth 100000
/-! compare turns nothing: it draws and lays blocks -/
def Dg (w w' : World) : Prop := ∃ q os, w' = grow (w.drewN q) os
theorem Dg.refl (w : World) : Dg w w := ⟨0, #[], by rw [grow_empty]; rfl⟩
theorem drewN_grow (w : World) (os : Array Obj) (q : Nat) : (grow w os).drewN q = grow (w.drewN q) os := rfl
theorem drewN_add (w : World) (p q : Nat) : (w.drewN p).drewN q = w.drewN (p + q) := by
 unfold World.drewN
 simp [Nat.add_assoc]
theorem Dg.trans {a b c : World} (h : Dg a b) (k : Dg b c) : Dg a c := by
 obtain ⟨q, os, rfl⟩ := h
 obtain ⟨q', os', rfl⟩ := k
 exact ⟨q + q', os ++ os', by rw [drewN_grow, drewN_add, grow_grow]⟩
theorem Dg.drew (w : World) : Dg w w.drew := ⟨1, #[], by rw [grow_empty]; rfl⟩
theorem Dg.alloc (w : World) (o : Obj) : Dg w (w.alloc o) := ⟨0, #[o], by rw [alloc_eq_grow]; rfl⟩
theorem Dg.grows {w w' : World} (h : Dg w w') : Below w.heap.size w w' := by
 obtain ⟨q, os, rfl⟩ := h
 have key : ∀ (os : List Obj) (W : World), Below w.heap.size w W → Below w.heap.size w (grow W os.toArray) := by
  intro os
  induction os with
  | nil => intro W h; rw [show ([] : List Obj).toArray = #[] from rfl, grow_empty]; exact h
  | cons o os ih =>
   intro W h
   have e : grow W (o :: os).toArray = grow (W.alloc o) os.toArray := by
    rw [alloc_eq_grow, grow_grow]; congr 1; simp
   rw [e]
   exact ih _ (bel_alloc h o)
 have := key os.toList (w.drewN q) (bel_drewN (Below.refl _ _) q)
 simpa using this
set_option maxHeartbeats 4000000 in
theorem compare_grow (a b : Ac) (w : World) : Calls Tryz.prog 130 #[.agg #[.int .u8 a.1, .int .i64 a.2.1, .int .u64 (pl a.2.2 0), .int .u64 (pl a.2.2 1), .int .u64 (pl a.2.2 2), .int .u64 (pl a.2.2 3), .int .u64 (pl a.2.2 4), .int .u64 (pl a.2.2 5), .int .u64 (pl a.2.2 6), .int .u64 (pl a.2.2 7)], .agg #[.int .u8 b.1, .int .i64 b.2.1, .int .u64 (pl b.2.2 0), .int .u64 (pl b.2.2 1), .int .u64 (pl b.2.2 2), .int .u64 (pl b.2.2 3), .int .u64 (pl b.2.2 4), .int .u64 (pl b.2.2 5), .int .u64 (pl b.2.2 6), .int .u64 (pl b.2.2 7)]] w fun e w' => e = .returned (.int .i64 (cmpA a b)) ∧ Dg w w' := by
 have HL := Lib.hid (CompareU · 2 · 2 8 8 8 (planes a.2.2) (planes b.2.2))
 have h4 := fun w => cmp169 a.1 b.1 w
 have h9 := fun w => cmp170 a.2.1 b.2.1 w
 unfold cmpA
 generalize cmpI a.1 b.1 = x at h4 ⊢
 generalize cmpI a.2.1 b.2.1 = y at h9 ⊢
 generalize cmpL (planes a.2.2) (planes b.2.2) = z at HL ⊢
 have H4 := Lib.hid h4; have H9 := Lib.hid h9; clear h4 h9
 go_enter Tryz.func130, Tryz.ntmps130
 go_wp2_with fail
 have g0 : Blk ((w.alloc (.cells (#[.int .u8 a.1, .int .i64 a.2.1, .int .u64 (pl a.2.2 0), .int .u64 (pl a.2.2 1), .int .u64 (pl a.2.2 2), .int .u64 (pl a.2.2 3), .int .u64 (pl a.2.2 4), .int .u64 (pl a.2.2 5), .int .u64 (pl a.2.2 6), .int .u64 (pl a.2.2 7)] : Array Value) 46)).alloc (.cells (#[.int .u8 b.1, .int .i64 b.2.1, .int .u64 (pl b.2.2 0), .int .u64 (pl b.2.2 1), .int .u64 (pl b.2.2 2), .int .u64 (pl b.2.2 3), .int .u64 (pl b.2.2 4), .int .u64 (pl b.2.2 5), .int .u64 (pl b.2.2 6), .int .u64 (pl b.2.2 7)] : Array Value) 46)) w.heap.size #[.int .u8 a.1, .int .i64 a.2.1, .int .u64 (pl a.2.2 0), .int .u64 (pl a.2.2 1), .int .u64 (pl a.2.2 2), .int .u64 (pl a.2.2 3), .int .u64 (pl a.2.2 4), .int .u64 (pl a.2.2 5), .int .u64 (pl a.2.2 6), .int .u64 (pl a.2.2 7)] 46 := blk_by
 have gB : Blk ((w.alloc (.cells (#[.int .u8 a.1, .int .i64 a.2.1, .int .u64 (pl a.2.2 0), .int .u64 (pl a.2.2 1), .int .u64 (pl a.2.2 2), .int .u64 (pl a.2.2 3), .int .u64 (pl a.2.2 4), .int .u64 (pl a.2.2 5), .int .u64 (pl a.2.2 6), .int .u64 (pl a.2.2 7)] : Array Value) 46)).alloc (.cells (#[.int .u8 b.1, .int .i64 b.2.1, .int .u64 (pl b.2.2 0), .int .u64 (pl b.2.2 1), .int .u64 (pl b.2.2 2), .int .u64 (pl b.2.2 3), .int .u64 (pl b.2.2 4), .int .u64 (pl b.2.2 5), .int .u64 (pl b.2.2 6), .int .u64 (pl b.2.2 7)] : Array Value) 46)) (w.heap.size + 1) #[.int .u8 b.1, .int .i64 b.2.1, .int .u64 (pl b.2.2 0), .int .u64 (pl b.2.2 1), .int .u64 (pl b.2.2 2), .int .u64 (pl b.2.2 3), .int .u64 (pl b.2.2 4), .int .u64 (pl b.2.2 5), .int .u64 (pl b.2.2 6), .int .u64 (pl b.2.2 7)] 46 := blk_by
 have hD : Dg w ((w.alloc (.cells (#[.int .u8 a.1, .int .i64 a.2.1, .int .u64 (pl a.2.2 0), .int .u64 (pl a.2.2 1), .int .u64 (pl a.2.2 2), .int .u64 (pl a.2.2 3), .int .u64 (pl a.2.2 4), .int .u64 (pl a.2.2 5), .int .u64 (pl a.2.2 6), .int .u64 (pl a.2.2 7)] : Array Value) 46)).alloc (.cells (#[.int .u8 b.1, .int .i64 b.2.1, .int .u64 (pl b.2.2 0), .int .u64 (pl b.2.2 1), .int .u64 (pl b.2.2 2), .int .u64 (pl b.2.2 3), .int .u64 (pl b.2.2 4), .int .u64 (pl b.2.2 5), .int .u64 (pl b.2.2 6), .int .u64 (pl b.2.2 7)] : Array Value) 46)) := (Dg.alloc _ _).trans (Dg.alloc _ _)
 generalize ((w.alloc (.cells (#[.int .u8 a.1, .int .i64 a.2.1, .int .u64 (pl a.2.2 0), .int .u64 (pl a.2.2 1), .int .u64 (pl a.2.2 2), .int .u64 (pl a.2.2 3), .int .u64 (pl a.2.2 4), .int .u64 (pl a.2.2 5), .int .u64 (pl a.2.2 6), .int .u64 (pl a.2.2 7)] : Array Value) 46)).alloc (.cells (#[.int .u8 b.1, .int .i64 b.2.1, .int .u64 (pl b.2.2 0), .int .u64 (pl b.2.2 1), .int .u64 (pl b.2.2 2), .int .u64 (pl b.2.2 3), .int .u64 (pl b.2.2 4), .int .u64 (pl b.2.2 5), .int .u64 (pl b.2.2 6), .int .u64 (pl b.2.2 7)] : Array Value) 46)) = wr at *
 refine wp_region_inv Dg (fun _ _ => True) [Is (.pointer (some ⟨w.heap.size, 0, none⟩)), Is (.int .u8 a.1), Is (.pointer (some ⟨w.heap.size + 1, 0, none⟩)), Is (.int .u8 b.1), Is (.int .i64 x), Is (.pointer (some ⟨w.heap.size, 1, none⟩)), Is (.int .i64 a.2.1), Is (.pointer (some ⟨w.heap.size + 1, 1, none⟩)), Is (.int .i64 b.2.1), Is (.int .i64 y), Is (.pointer (some ⟨w.heap.size, 2, none⟩)), Is (.slice (some ⟨w.heap.size, 2, none⟩) 8 8), Is (.pointer (some ⟨w.heap.size + 1, 2, none⟩)), Is (.slice (some ⟨w.heap.size + 1, 2, none⟩) 8 8), Is (.int .i64 z), (fun v W => ∃ g, v = .slice (some ⟨g, 0, none⟩) 3 3 ∧ Blk W g #[.int .i64 x, .int .i64 y, .int .i64 z] 3), Is (.int .i64 (or3 x y z)), Is (.int .i64 (or3 x y z))] (by kernel_rfl) (by kernel_rfl) rfl Dg.refl (fun _ _ _ => Dg.trans) (stable_mem ⟨fun _ _ _ h _ => h, fun _ _ _ h _ => h, fun _ _ _ h _ => h, fun _ _ _ h _ => h, fun _ _ _ h _ => h, fun _ _ _ h _ => h, fun _ _ _ h _ => h, fun _ _ _ h _ => h, fun _ _ _ h _ => h, fun _ _ _ h _ => h, fun _ _ _ h _ => h, fun _ _ _ h _ => h, fun _ _ _ h _ => h, fun _ _ _ h _ => h, fun _ _ _ h _ => h, (fun _ _ _ h g => h.elim fun b hb => ⟨b, hb.1, hb.2.grow g.grows⟩), fun _ _ _ h _ => h, fun _ _ _ h _ => h, trivial⟩) wr (Dg.drew _) trivial ?_
 refine inv_cons ?_ (fun v0 => ?_)
 ·intro L w1 hat hb hI hF; try simp [factsI, Region.binds, Is] at hF
  have hb1 := hb.grows
  have c0 := (g0.grow hb1).cell
  have l0 := (g0.grow hb1).lt
  have c1 := (gB.grow hb1).cell
  have l1 := (gB.grow hb1).lt
  go_simp
  exact Dg.refl _
 refine inv_cons ?_ (fun v1 => ?_)
 ·intro L w1 hat hb hI hF; try simp [factsI, Region.binds, Is] at hF
  have hb1 := hb.grows
  have c0 := (g0.grow hb1).cell
  have l0 := (g0.grow hb1).lt
  have c1 := (gB.grow hb1).cell
  have l1 := (gB.grow hb1).lt
  go_simp
  exact Dg.refl _
 refine inv_cons ?_ (fun v2 => ?_)
 ·intro L w1 hat hb hI hF; try simp [factsI, Region.binds, Is] at hF
  have hb1 := hb.grows
  have c0 := (g0.grow hb1).cell
  have l0 := (g0.grow hb1).lt
  have c1 := (gB.grow hb1).cell
  have l1 := (gB.grow hb1).lt
  go_simp
  exact Dg.refl _
 refine inv_cons ?_ (fun v3 => ?_)
 ·intro L w1 hat hb hI hF; try simp [factsI, Region.binds, Is] at hF
  have hb1 := hb.grows
  have c0 := (g0.grow hb1).cell
  have l0 := (g0.grow hb1).lt
  have c1 := (gB.grow hb1).cell
  have l1 := (gB.grow hb1).lt
  go_simp
  exact Dg.refl _
 refine inv_cons ?_ (fun v4 => ?_)
 ·intro L w1 hat hb hI hF; try simp [factsI, Region.binds, Is] at hF
  have hb1 := hb.grows
  have c0 := (g0.grow hb1).cell
  have l0 := (g0.grow hb1).lt
  have c1 := (gB.grow hb1).cell
  have l1 := (gB.grow hb1).lt
  go_simp
  refine (H4.out _).mono ?_
  rintro e w4 ⟨rfl, rfl⟩
  exact ⟨rfl, Dg.refl _⟩
 refine inv_cons ?_ (fun v5 => ?_)
 ·intro L w1 hat hb hI hF; try simp [factsI, Region.binds, Is] at hF
  have hb1 := hb.grows
  have c0 := (g0.grow hb1).cell
  have l0 := (g0.grow hb1).lt
  have c1 := (gB.grow hb1).cell
  have l1 := (gB.grow hb1).lt
  go_simp
  exact Dg.refl _
 refine inv_cons ?_ (fun v6 => ?_)
 ·intro L w1 hat hb hI hF; try simp [factsI, Region.binds, Is] at hF
  have hb1 := hb.grows
  have c0 := (g0.grow hb1).cell
  have l0 := (g0.grow hb1).lt
  have c1 := (gB.grow hb1).cell
  have l1 := (gB.grow hb1).lt
  go_simp
  exact Dg.refl _
 refine inv_cons ?_ (fun v7 => ?_)
 ·intro L w1 hat hb hI hF; try simp [factsI, Region.binds, Is] at hF
  have hb1 := hb.grows
  have c0 := (g0.grow hb1).cell
  have l0 := (g0.grow hb1).lt
  have c1 := (gB.grow hb1).cell
  have l1 := (gB.grow hb1).lt
  go_simp
  exact Dg.refl _
 refine inv_cons ?_ (fun v8 => ?_)
 ·intro L w1 hat hb hI hF; try simp [factsI, Region.binds, Is] at hF
  have hb1 := hb.grows
  have c0 := (g0.grow hb1).cell
  have l0 := (g0.grow hb1).lt
  have c1 := (gB.grow hb1).cell
  have l1 := (gB.grow hb1).lt
  go_simp
  exact Dg.refl _
 refine inv_cons ?_ (fun v9 => ?_)
 ·intro L w1 hat hb hI hF; try simp [factsI, Region.binds, Is] at hF
  have hb1 := hb.grows
  have c0 := (g0.grow hb1).cell
  have l0 := (g0.grow hb1).lt
  have c1 := (gB.grow hb1).cell
  have l1 := (gB.grow hb1).lt
  go_simp
  refine (H9.out _).mono ?_
  rintro e w4 ⟨rfl, rfl⟩
  exact ⟨rfl, Dg.refl _⟩
 refine inv_cons ?_ (fun v10 => ?_)
 ·intro L w1 hat hb hI hF; try simp [factsI, Region.binds, Is] at hF
  have hb1 := hb.grows
  have c0 := (g0.grow hb1).cell
  have l0 := (g0.grow hb1).lt
  have c1 := (gB.grow hb1).cell
  have l1 := (gB.grow hb1).lt
  go_simp
  exact Dg.refl _
 refine inv_cons ?_ (fun v11 => ?_)
 ·intro L w1 hat hb hI hF; try simp [factsI, Region.binds, Is] at hF
  have hb1 := hb.grows
  have c0 := (g0.grow hb1).cell
  have l0 := (g0.grow hb1).lt
  have c1 := (gB.grow hb1).cell
  have l1 := (gB.grow hb1).lt
  go_simp
  exact Dg.refl _
 refine inv_cons ?_ (fun v12 => ?_)
 ·intro L w1 hat hb hI hF; try simp [factsI, Region.binds, Is] at hF
  have hb1 := hb.grows
  have c0 := (g0.grow hb1).cell
  have l0 := (g0.grow hb1).lt
  have c1 := (gB.grow hb1).cell
  have l1 := (gB.grow hb1).lt
  go_simp
  exact Dg.refl _
 refine inv_cons ?_ (fun v13 => ?_)
 ·intro L w1 hat hb hI hF; try simp [factsI, Region.binds, Is] at hF
  have hb1 := hb.grows
  have c0 := (g0.grow hb1).cell
  have l0 := (g0.grow hb1).lt
  have c1 := (gB.grow hb1).cell
  have l1 := (gB.grow hb1).lt
  go_simp
  exact Dg.refl _
 refine inv_cons ?_ (fun v14 => ?_)
 ·intro L w1 hat hb hI hF; try simp [factsI, Region.binds, Is] at hF
  have hb1 := hb.grows
  have c0 := (g0.grow hb1).cell
  have l0 := (g0.grow hb1).lt
  have c1 := (gB.grow hb1).cell
  have l1 := (gB.grow hb1).lt
  have HC := Lib.hid (HL.out w.heap.size (w.heap.size + 1) w1 (planes_cells (g0.grow hb1)) (planes_cells (gB.grow hb1)) rfl rfl (by omega))
  clear c0 c1
  go_simp
  refine HC.out.mono ?_
  rintro e w4 ⟨rfl, rfl⟩
  exact ⟨rfl, Dg.refl _⟩
 refine inv_cons ?_ (fun v15 => ?_)
 ·intro L w1 hat hb hI hF; try simp [factsI, Region.binds, Is] at hF
  have hb1 := hb.grows
  have c0 := (g0.grow hb1).cell
  have l0 := (g0.grow hb1).lt
  have c1 := (gB.grow hb1).cell
  have l1 := (gB.grow hb1).lt
  go_simp
  exact ⟨Dg.alloc _ _, Blk.at _ _ rfl⟩
 refine inv_cons ?_ (fun v16 => ?_)
 ·intro L w1 hat hb hI hF; try simp [factsI, Region.binds, Is] at hF
  refine Exists.elim hF.1 (fun g hg => ?_)
  have hv := hg.1
  subst hv
  have HO := Lib.hid (Or_spec g x y z w1 hg.2.lt (hg.2.cell 0) (hg.2.cell 1) (hg.2.cell 2))
  clear hg hF
  go_simp
  refine HO.out.mono ?_
  rintro e w4 ⟨rfl, rfl⟩
  exact ⟨rfl, Dg.refl _⟩
 refine inv_cons ?_ (fun v17 => ?_)
 ·intro L w1 hat hb hI hF; try simp [factsI, Region.binds, Is] at hF
  go_simp
  exact Dg.refl _
 refine inv_nil ?_
 intro w1 hb hI hF
 simp [Is, Nat.forall_lt_succ_right] at hF
 have e0 := hF.1.1.1.1.1.1.1.1.1.1.1.1.1.1.1.1.1
 have e1 := hF.1.1.1.1.1.1.1.1.1.1.1.1.1.1.1.1.2
 have e2 := hF.1.1.1.1.1.1.1.1.1.1.1.1.1.1.1.2
 have e3 := hF.1.1.1.1.1.1.1.1.1.1.1.1.1.1.2
 have e4 := hF.1.1.1.1.1.1.1.1.1.1.1.1.1.2
 have e5 := hF.1.1.1.1.1.1.1.1.1.1.1.1.2
 have e6 := hF.1.1.1.1.1.1.1.1.1.1.1.2
 have e7 := hF.1.1.1.1.1.1.1.1.1.1.2
 have e8 := hF.1.1.1.1.1.1.1.1.1.2
 have e9 := hF.1.1.1.1.1.1.1.1.2
 have e10 := hF.1.1.1.1.1.1.1.2
 have e11 := hF.1.1.1.1.1.1.2
 have e12 := hF.1.1.1.1.1.2
 have e13 := hF.1.1.1.1.2
 have e14 := hF.1.1.1.2
 have e15 := hF.1.1.2
 have e16 := hF.1.2
 have e17 := hF.2
 clear hF
 simp only [Act.put, List.setIfInBounds_toArray, List.set_cons_succ, List.set_cons_zero, e0, e1, e2, e3, e4, e5, e6, e7, e8, e9, e10, e11, e12, e13, e14, e16, e17]
 clear e0 e1 e2 e3 e4 e5 e6 e7 e8 e9 e10 e11 e12 e13 e14 e16 e17
 go_wp2_with fail
 go_ret
 exact ⟨rfl, hD.trans hb⟩
end Go.Proofs.YtccnkebkgegohaaGreatDoor
end
section
namespace Go.Proofs.YtccnkebkgegohaaGreatDoor
open Go.RowKit Go.Rel Go.Sort Go.Shelf
set_option maxRecDepth 100000
/-! SortFunc over compare, on a list of our own -/
theorem rows_get {k : Nat} {α : Type} (row : α → List Value) (hk : ∀ a, (row a).length = k) : ∀ (l : List α) (t : Nat), t < l.length * k → ((l.map row).flatten)[t]? = (l[t / k]?).bind fun a => (row a)[t % k]?
 | [], t, h => by simp at h
 | x :: l, t, h => by
  have k0 : 0 < k := by
   rcases Nat.eq_zero_or_pos k with h0 | h0
   ·subst h0; simp at h
   ·exact h0
  rw [List.map_cons, List.flatten_cons]
  by_cases ht : t < k
  ·rw [List.getElem?_append_left (by rw [hk]; exact ht), Nat.div_eq_of_lt ht, Nat.mod_eq_of_lt ht]; rfl
  ·obtain ⟨u, rfl⟩ : ∃ u, t = u + k := ⟨t - k, by omega⟩
   have hu : u < l.length * k := by
    rw [List.length_cons, Nat.add_mul, Nat.one_mul] at h; omega
   rw [List.getElem?_append_right (by rw [hk]; omega), hk, Nat.add_sub_cancel, rows_get row hk l u hu, Nat.add_div_right u k0, Nat.add_mod_right]; rfl
theorem flatK_rows (d : Array Ac) : (flatK acL 10 d).toList = (d.toList.map acL).flatten := by
 apply List.ext_getElem?
 intro t
 have hlen : ((d.toList.map acL).flatten).length = d.size * 10 := by rw [flat_len10 acL acL_len]; simp
 by_cases ht : t < d.size * 10
 ·rw [rows_get acL acL_len d.toList t (by simpa using ht)]
  have h1 : t / 10 < d.size := by omega
  have h2 : t % 10 < (acL d[t / 10]).length := by rw [acL_len]; omega
  rw [Array.getElem?_toList, Array.getElem?_eq_getElem (by rw [size_flatK]; exact ht), Array.getElem?_toList, Array.getElem?_eq_getElem h1]
  have e := get_flatK acL 10 d t ht
  rw [getElem!_pos _ t (by rw [size_flatK]; exact ht), getElem!_pos d (t / 10) h1, getElem!_pos _ (t % 10) h2] at e
  rw [e, Option.bind_some, List.getElem?_eq_getElem h2]
 ·rw [List.getElem?_eq_none (by rw [Array.length_toList, size_flatK]; omega), List.getElem?_eq_none (by rw [hlen]; omega)]
theorem put_take (F cur : Array Value) (h : F.size ≤ cur.size) : (putCells id 0 F cur).toList.take F.size = F.toList := by
 apply List.ext_getElem?
 intro t
 by_cases ht : t < F.size
 ·rw [List.getElem?_take_of_lt ht, Array.getElem?_toList, Array.getElem?_toList]
  unfold putCells
  rw [Array.getElem?_mapIdx, Array.getElem?_eq_getElem (by omega : t < cur.size), Option.map_some, if_pos ⟨Nat.zero_le _, by omega⟩, Array.getElem?_eq_getElem ht]
  simp [getElem!_pos F t ht]
 ·rw [List.getElem?_eq_none (by rw [List.length_take]; omega), List.getElem?_eq_none (by rw [Array.length_toList]; omega)]
theorem grow_bel {B : Nat} {w W : World} (h : Go.RowKit.Below B w W) (hB : B ≤ W.heap.size) (os : Array Obj) : Go.RowKit.Below B w (grow W os) :=
 ⟨h.os, h.tape, h.output, Nat.le_trans h.size (by simp [grow]), fun k hk => by
  show (W.heap ++ os)[k]? = _
  rw [Array.getElem?_append_left (by omega)]
  exact h.block k hk⟩
theorem OwnB.holds {W : World} {base g cap : Nat} {m : List Ac} {cur : Array Value} (h : OwnB W base m g cap cur) : HoldsK acL 10 W g 0 m.toArray := by
 intro j hj
 have hj' : j < m.length * 10 := by simpa using hj
 have hcs : m.length * 10 ≤ cur.size := by rw [h.size]; exact Nat.mul_le_mul_right _ h.le
 have e : (flatK acL 10 m.toArray)[j]? = cur[j]? := by
  rw [← Array.getElem?_toList, flatK_rows, ← h.rows, List.getElem?_take_of_lt hj', Array.getElem?_toList]
 constructor
 ·rw [h.blk.cell, Nat.zero_add, ← e, Array.getElem?_eq_getElem hj, getElem!_pos _ j hj]; rfl
 ·exact Blk.free h.blk _
theorem sort_world {W : World} {base g cap : Nat} {m : List Ac} {cur : Array Value} (h : OwnB W base m g cap cur) (d : Array Ac) (hd : d.size = m.length) (n : Nat) (os : Array Obj) :
  OwnA (sortWorldK acL 10 W g 0 n d os) base (.slice (some ⟨g, 0, none⟩) m.length cap) d.toList ∧ Go.RowKit.Below base W (sortWorldK acL 10 W g 0 n d os) := by
 have hcs : m.length * 10 ≤ cur.size := by rw [h.size]; exact Nat.mul_le_mul_right _ h.le
 have hB : Go.RowKit.Below base W (putRow id (Go.Sort.ahead W n) g 0 (flatK acL 10 d)) := ⟨rfl, rfl, rfl, by simp [putRow, mapBlock, Go.Sort.ahead], fun k hk => by
  show (W.heap.modify g _)[k]? = _
  rw [Array.getElem?_modify, if_neg (by have := h.base; omega)]⟩
 have hsz : (putRow id (Go.Sort.ahead W n) g 0 (flatK acL 10 d)).heap.size = W.heap.size := by simp [putRow, mapBlock, Go.Sort.ahead]
 have hblk : Blk (sortWorldK acL 10 W g 0 n d os) g (putCells id 0 (flatK acL 10 d) cur) 46 := by
  have hg := h.blk
  unfold Blk at hg ⊢
  have hlt : g < W.heap.size := h.blk.lt
  show ((putRow id (Go.Sort.ahead W n) g 0 (flatK acL 10 d)).heap ++ os)[g]? = _
  rw [Array.getElem?_append_left (by rw [hsz]; exact hlt)]
  show ((Go.Sort.ahead W n).heap.modify g (onCells (putCells id 0 (flatK acL 10 d))))[g]? = _
  rw [Array.getElem?_modify, if_pos rfl]
  show Option.map _ W.heap[g]? = _
  rw [hg]; rfl
 have hlt := h.blk.lt
 refine ⟨?_, ?_⟩
 ·have hO : OwnB (sortWorldK acL 10 W g 0 n d os) base d.toList g cap (putCells id 0 (flatK acL 10 d) cur) := by
   refine ⟨h.base, hblk, by simpa [hd] using h.le, h.lim, by simp [putCells, h.size], ?_⟩
   rw [← flatK_rows, show d.toList.length * 10 = (flatK acL 10 d).size by simp, put_take _ _ (by simpa [hd] using hcs)]
  have := hO.own
  rwa [show d.toList.length = m.length by simpa using hd] at this
 ·have hb := h.base
  exact grow_bel hB (by rw [hsz]; omega) os
theorem swo_ac : SWO (ltOf cmpA) where
 irrefl x := by
  unfold ltOf
  exact decide_eq_false fun h => cmpA_ok.asym h h
 trans x y z h1 h2 := by
  unfold ltOf at *
  exact decide_eq_true (cmpA_ok.tr (of_decide_eq_true h1) (of_decide_eq_true h2))
 ntrans x y z h1 h2 := by
  unfold ltOf at *
  refine decide_eq_false fun h => ?_
  have h1 := of_decide_eq_false h1
  have h2 := of_decide_eq_false h2
  by_cases e : x = y
  ·subst e; exact h2 h
  ·have h3 := (cmpA_ok.tot e).resolve_left h1
   exact h2 (cmpA_ok.tr h3 h)
set_option maxHeartbeats 4000000 in
theorem SortAc_spec {W : World} {base : Nat} {v : Value} {m : List Ac} (h : OwnA W base v m) (hm : m ≠ []) (hlen : m.length ≤ 1048576) :
  Calls Tryz.prog 129 #[v, .func (.func 130) #[] #[]] W fun e w' => e = .returned (.tuple #[]) ∧ ∃ d : List Ac, d.Perm m ∧ (d.Pairwise fun x y => ¬ cmpA y x < 0) ∧ OwnA w' base v d ∧ Go.RowKit.Below base W w' := by
 obtain ⟨g, cap, cur, rfl, hB⟩ := h.opn hm
 have eg : ∀ args w, (callFunc 130 args).run Tryz.prog w = .ok (.enter 130 args) w := enters_of Tryz.func130 (by kernel_rfl) rfl
 have hcon := AnyQ.slices_SortFunc sortAc 10 Tryz.isAgg46 Tryz.sizeOf46 acL acL_len (fun x v hv => by simp [acL, solL] at hv; rcases hv with rfl | rfl | rfl | rfl | rfl | rfl | rfl | rfl | rfl | rfl <;> rfl) cmpA swo_ac 130 #[] g 0 cap m.toArray W eg (fun _ _ _ _ x y => compare_grow x y _) hB.holds hB.blk.lt (by simp; omega)
 change Calls Tryz.prog 129 _ _ _ at hcon
 refine hcon.mono fun e w' ⟨he, d', n, os, hp, hs, hw⟩ => ⟨he, d'.toList, ?_, ?_, ?_⟩
 ·have := hp.2.2
  have e : d'.toList.take m.length = d'.toList := List.take_of_length_le (by simp [hp.1])
  simpa [hp.1, e] using this
 ·rw [List.pairwise_iff_getElem]
  intro i j hi hj hij
  have hsz := hp.1
  have h1 := hs i j (Nat.zero_le _) hij (by rw [← hsz]; simpa using hj)
  unfold ltOf at h1
  have h2 := of_decide_eq_false h1
  rw [getElem!_pos d' j (by simpa using hj), getElem!_pos d' i (by simpa using hi)] at h2
  simpa using h2
 ·have := sort_world hB d' (by simpa using hp.1) n os
  rw [← hw] at this
  exact this
end Go.Proofs.YtccnkebkgegohaaGreatDoor
end
section
namespace Go.Proofs.YtccnkebkgegohaaGreatDoor
open Go.RowKit Go.Rel
set_option maxRecDepth 100000
/-! Steps -/
theorem info28 : (Tryz.prog.info? 28).map (fun i => (i.zero, i.size, i.bytes)) = some (some (.slice none 0 0), 1, 24) := by kernel_rfl
/-- a list of slices in memory of one's own -/
abbrev OwnL (W : World) (base : Nat) (v : Value) (vs : List Value) : Prop := W.ownsRow base 28 1 v vs.length vs
theorem own_kept {W W' : World} {base base2 : Nat} {e : TypeId} {size : Nat} {u o : Value} {n : Nat} {zs ys : List Value} (hu : W.ownsRow base e size u n zs) (hO : OwnL W base2 o ys) (he : e ≠ 28) (hg : W.grownBy W' o.ownBlock) : W'.ownsRow base e size u n zs := by
 obtain ⟨hl, h | ⟨g, cap, cur, hv, hb, hh, hr⟩⟩ := hu
 ·exact ⟨hl, .inl h⟩
 ·refine ⟨hl, .inr ⟨g, cap, cur, hv, hb, ?_, hr⟩⟩
  refine (hg.block g ((Array.getElem?_eq_some_iff.1 hh).1) fun eo => ?_).trans hh
  obtain ⟨_, h | ⟨g2, cap2, cur2, hv2, _, hh2, _⟩⟩ := hO
  ·rw [h.1] at eo; cases eo
  ·rw [hv2] at eo
   cases eo
   rw [hh] at hh2
   injection hh2 with h1
   injection h1 with _ h2
   exact he h2
theorem ints_at {W : World} {q : Option Addr} {n c : Nat} {l : List Int} {j : Nat} {x : Int} (h : SlI W (.slice q n c) l) (hx : l[j]? = some x) : ∃ b o, q = some ⟨b, o, none⟩ ∧ b < W.heap.size ∧ ∀ W', Below W.heap.size W W' → ∀ (k : Nat) (y : Int), l[k]? = some y → W'.cell? ⟨b, o + k, none⟩ = some (.int .i64 y) := by
 rcases Sl.cases h with ⟨hl, _⟩ | ⟨b, o, c', he, _, _, _, hc⟩
 ·have : l = [] := by simpa using hl
  subst this; cases hx
 ·injection he with h1 _ _
  refine ⟨b, o, h1, hc.1, fun W' hb k y hk => ?_⟩
  have := (hc.mono hb hc.1).2 k 0 (.int .i64 y) (by simp [hk, intL])
  simpa using this
theorem flat_sing : ∀ vs : List Value, (vs.map fun x => [x]).flatten = vs
 | [] => rfl
 | v :: vs => by rw [List.map_cons, List.flatten_cons, flat_sing vs]; rfl
theorem OwnL.sl {W : World} {base : Nat} {v : Value} {vs : List Value} (h : OwnL W base v vs) : Sl W 1 v (vs.map fun x => [x]) :=
 own_sl (fun r hr => by obtain ⟨i, _, rfl⟩ := List.mem_map.1 hr; rfl) (flat_sing vs) (by rw [List.length_map]; exact h)
theorem sort_is {l : List Sol} {m : List Ac} {d : List Ac} (hp : d.Perm (Tra.frs (depA l) [] m)) (hd : d.Pairwise fun x y => ¬ cmpA y x < 0) : d = nrm l (Tra.frs (depA l) [] m) := (nrm_sorted hp hd (Tra.frs_pair (depA_refl l) [] m)).symm
set_option maxHeartbeats 16000000 in
theorem Steps_good {b : Sol} {v av : Value} {l : List Sol} {m : List Ac} {s : Stn} (h : begunM b l m = .inr s) (F : Fine l m) (hn : m.length ≤ 60) (w : World) (Hv : SlS w v l) (Hav : SlA w av m) :
  Calls Tryz.prog 69 #[.agg #[.int .u64 (pl b 0), .int .u64 (pl b 1), .int .u64 (pl b 2), .int .u64 (pl b 3), .int .u64 (pl b 4), .int .u64 (pl b 5), .int .u64 (pl b 6), .int .u64 (pl b 7), v, av]] w fun e w' => ∃ u ps, e = .returned (.tuple #[u, .int .i64 0]) ∧ (List.map (fun p : Value × List Ac => p.2) ps = stpL l m ∧ Sl w' 1 u (ps.map fun p => [p.1]) ∧ ∀ p ∈ ps, SlN w' p.1 p.2) ∧ Below w.heap.size w w' := by
 have HBG := Lib.hid fun w' (hb : Below w.heap.size w w') => begun_good h w' (Hv.mono hb) (Hav.mono hb)
 have HAV := Lib.hid Hav
 obtain ⟨RR, hRR⟩ : ∃ RR, stpL l m = RR := ⟨_, rfl⟩
 rw [hRR]
 have HRR := Lib.hid hRR
 have HF := Lib.hid F
 obtain ⟨i0, hi, hz0, hz1, hz2⟩ := info_parts info28
 have HI0 := Lib.hid (And.intro hi (And.intro hz0 (And.intro hz1 hz2)))
 have hmf' := hmf
 have Ha2 := Hav.cases
 rw [List.length_map] at Ha2
 have ha : ∃ b off ca, 0 < m.length → av = .slice (some ⟨b, off, none⟩) m.length ca ∧ m.length ≤ ca ∧ ca ≤ 9223372036854775807 ∧ Cells w b off 10 (m.map acL) := by
  rcases Ha2 with ⟨h, _⟩ | ⟨b, off, ca, h1, h2, h3, _, h5⟩
  ·exact ⟨0, 0, 0, fun hp => by have := congrArg List.length h; simp at this; rw [this] at hp; simp at hp⟩
  ·exact ⟨b, off, ca, fun _ => ⟨h1, h2, h3, h5⟩⟩
 obtain ⟨ab, aoff, ac, ha⟩ := ha
 have HA := Lib.hid ha
 clear ha h F Hv hRR hi hz0 hz1 hz2 Ha2 Hav
 go_enter Tryz.func69, Tryz.ntmps69
 go_wp2_with fail
 refine (HBG.out _ bel_by).mono ?_
 rintro e w1 ⟨bp, rfl, hbp, hP, hb⟩
 have hB1 : Below w.heap.size w w1 := bel_trans bel_by hb
 have HP := Lib.hid hP
 clear hb hP HBG hbp
 go_wp2_with fail
 refine (indices_spec w1 HP.out hn).mono ?_
 rintro e w2 ⟨u0, rfl, hI, hb2⟩
 have HI := Lib.hid hI
 clear hI
 go_wp2_with fail
 go_loopw [7, 8] (fun ov lv wr => ∃ (lf : List Int) (ps : List (Value × List Ac)) (uv : Value), uv = ov ∧ Hid (OwnI wr w1.heap.size lv lf) ∧ Hid ((∀ x ∈ lf, 0 ≤ x ∧ x < m.length) ∧ RowOf (depA l) (atA m) (depI (cellsOf l m)) lf) ∧ Hid (OwnL wr w1.heap.size uv (ps.map (·.1))) ∧ Hid (∀ p ∈ ps, OwnA wr w1.heap.size p.1 p.2) ∧ Hid (ps.map (·.2) ++ stpL l (lf.map (atA m)) = RR) ∧ ps.length + lf.length ≤ 60 ∧ Below w1.heap.size w1 wr) (fun _ lv _ => sliceLen lv)
 case atStart => exact ⟨upto m.length, [], _, rfl, HI, Lib.hid ⟨upto_range, row_all HF.out⟩, Lib.hid (World.ownsRow_nil _ _ _ _), Lib.hid (fun p hp => by cases hp), Lib.hid (by rw [upto_map]; exact HRR.out), by rw [upto_length]; simpa using hn, hb2⟩
 case round =>
  clear hb2 HI HRR
  obtain ⟨lf, ps, uv, rfl, HI, HLR, HO, HPS, HR, hlen, hbel⟩ := hrel
  obtain ⟨W1, hW⟩ : ∃ W1, W1 = wr := ⟨_, rfl⟩
  subst hW
  refine Veil.out ?_
  obtain ⟨p2, c2, rfl, _, _⟩ := own_shape' HI.out
  refine Veil.on ?_
  by_cases hlt : 0 < lf.length
  ·have hlti : (0 : Int) < (lf.length : Int) := by omega
   go_wp2_with fail
   refine (free_spec W1 (HP.out.grow hbel) _ lf (OwnI.sl HI.out) HLR.out.1).mono ?_
   rintro e w3 ⟨bl, bt, rfl, hF, hb3⟩
   have HFA := Lib.hid hF
   clear hF
   go_wp2_with fail
   refine (Collect_spec HFA.out (by omega)).mono ?_
   rintro e w4 ⟨u4, rfl, hO4, hb4⟩
   have hb34 := bel_trans hb3 hb4
   have hB4 := bel_trans hbel hb34
   have HX4 := Lib.hid (And.intro (own_grow HI.out hb34) (And.intro (own_grow HO.out hb34) (fun p (hp : p ∈ ps) => own_grow (HPS.out p hp) hb34)))
   have hne := freeUpto_ne (depI (cellsOf l m)) lf lf.length hlt
   have hflen := freeUpto_length (depI (cellsOf l m)) lf lf.length
   have HSR := Lib.hid (step_row HLR.out.2)
   have hmem : ∀ x ∈ freeUpto (depI (cellsOf l m)) lf lf.length, 0 ≤ x ∧ x < m.length := fun x hx => HLR.out.1 x (freeUpto_mem (depI (cellsOf l m)) lf lf.length (Nat.le_refl _) x hx)
   have hz14 := hB4.size
   clear hb3 hb4 hb34 HFA
   generalize freeUpto (depI (cellsOf l m)) lf lf.length = fr at *
   have HMEM := Lib.hid hmem
   have hfpos : 0 < fr.length := List.length_pos_iff.2 hne
   refine Veil.out ?_
   obtain ⟨p4, c4, rfl, _, _⟩ := own_shape' hO4
   have hx0 : fr[0]? = some (fr[0]'hfpos) := by simp
   obtain ⟨nb, no, rfl, hnb, hcells⟩ := ints_at (OwnI.sl hO4) hx0
   refine Veil.on ?_
   have HC4 := Lib.hid hcells
   have HN4 := Lib.hid hO4
   clear hmem hx0 hcells hO4
   go_wp2_with fail
   have hrefl4 : Below w4.heap.size w4 w4 := Below.refl _ _
   go_loopw [10, 33] (fun sv iv wq => ∃ (j : Nat) (tv : Value), tv = sv ∧ j ≤ fr.length ∧ iv = .int .i64 j ∧ Hid (OwnA wq w4.heap.size tv ((fr.take j).map (atA m))) ∧ Below w4.heap.size w4 wq) (fun _ iv _ => fr.length - (intOf iv).toNat)
   case atStart => exact ⟨0, _, rfl, Nat.zero_le _, rfl, Lib.hid (World.ownsRow_nil _ _ _ _), hrefl4⟩
   case round =>
    clear hrefl4
    obtain ⟨j, tv, rfl, hj, rfl, HS, hbq⟩ := hrel
    obtain ⟨wq, hW⟩ : ∃ wq, wq = wr := ⟨_, rfl⟩
    subst hW
    have hB5 := bel_trans hB1 (bel_trans hB4 hbq)
    by_cases hlj : j < fr.length
    ·have hx : fr[j]? = some (fr[j]'hlj) := by simp
     have hxr := HMEM.out _ (List.getElem_mem hlj)
     generalize fr[j]'hlj = xi at hx hxr
     refine Veil.out ?_
     obtain ⟨k, rfl⟩ : ∃ k : Nat, xi = (k : Int) := ⟨xi.toNat, by omega⟩
     refine Veil.on ?_
     have hcn := HC4.out wq hbq j _ hx
     have lnb : nb < wq.heap.size := Nat.lt_of_lt_of_le hnb hbq.size
     have hkl : k < m.length := by omega
     have hk : m[k]? = some (m[k]'hkl) := by simp
     have hA3 := HA.out (by omega)
     have hcs := ac_cells (hA3.2.2.2.mono hB5 hA3.2.2.2.1) hk
     have lab : ab < wq.heap.size := Nat.lt_of_lt_of_le hA3.2.2.2.1 hB5.size
     have hac := hA3.2.1
     have hacm := hA3.2.2.1
     have hav := hA3.1
     subst hav
     obtain ⟨dv, hpast, _⟩ := (HP.out.grow (bel_trans hB4 hbq)).past
     have cp := hpast.cell
     have lp := hpast.lt
     generalize m[k]'hkl = x at hk hcs
     have HXX : Hid (((fr.take (j + 1)).map (atA m)) = (fr.take j).map (atA m) ++ [x]) := Lib.hid (by
      rw [List.take_add_one, hx, List.map_append]
      simp [atA, hk])
     obtain ⟨a0, a1, a2, a3, a4, a5, a6, a7, a8, a9⟩ := hcs
     clear hx hk hpast hA3
     go_wp2_with (first
      | (at_builtin; refine wpList_app_ac rfl _ _ rfl rfl w4.heap.size tv (.slice (some ⟨wq.heap.size, 0, none⟩) 1 1) ((fr.take j).map (atA m)) [x] rfl rfl (own_grow HS.out (bel_alloc (bel_refl _) _)) (sln_one (Blk.new _ _ _)) (by simp; omega) (by have := hbq.size; simp; omega) ?_; intro v' w5 hO5 hg5))
     have hb5 : Below w4.heap.size w4 w5 := (bel_alloc hbq _).grown hg5 (by have := hbq.size; simp; omega) (fun j hj => (HS.out.lt j hj).1)
     have HO5 : Hid (OwnA w5 w4.heap.size v' ((fr.take (j + 1)).map (atA m))) := Lib.hid (by rw [HXX.out]; exact hO5)
     clear hO5 hg5
     go_wp2_with fail
     go_roundw
     case rel => exact ⟨j + 1, v', rfl, by omega, by go_num, HO5, hb5⟩
     case measure => simp [intOf]; omega
    ·have hjf : j = fr.length := by omega
     subst hjf
     have hS := HS.out
     rw [List.take_length] at hS
     have HS2 := Lib.hid hS
     have hnn : fr.map (atA m) ≠ [] := by simp [hne]
     clear hS HS
     go_wp2_with fail
     refine (SortAc_spec HS2.out hnn (by simp; omega)).mono ?_
     rintro e w6 ⟨rfl, d, hp, hd, hO6, hb6⟩
     have hBB6 : Below w4.heap.size w4 w6 := hbq.trans hb6
     have hdl : d.length = fr.length := by rw [hp.length_eq, List.length_map]
     have HDN := Lib.hid (sort_is (l := l) (m := lf.map (atA m)) (by rw [← HSR.out.1]; exact hp) hd)
     refine Veil.out ?_
     obtain ⟨p6, c6, rfl, _, _⟩ := own_shapeK hO6 hdl
     refine Veil.on ?_
     have HXO := Lib.hid (own_grow HX4.out.2.1 hBB6)
     have HX6 := Lib.hid (And.intro (own_grow HX4.out.1 hBB6) (And.intro (own_grow HN4.out hBB6) (And.intro hO6 (fun p (hp : p ∈ ps) => own_grow (HX4.out.2.2 p hp) hBB6))))
     have hB6 := bel_trans hB4 hBB6
     clear hdl hp hd hO6 hb6 hBB6 hbq HS2 hnn hB5
     have hpl : (ps.map (·.1)).length = ps.length := List.length_map ..
     have hz6 := hB6.size
     go_wp2_with (first
      | (at_builtin; refine wpList_append_own _ rfl _ _ 83 rfl w1.heap.size 28 i0 (.slice none 0 0) 1 24 Tryz.underlying83 HI0.out.1 HI0.out.2.1 HI0.out.2.2.1 HI0.out.2.2.2 rfl (by decide) _ _ _ rfl (HXO.out.alloc _) ⟨w6.heap.size, 0, none⟩ 1 1 [.slice p6 fr.length c6] rfl rfl (cell_one_new _ _ _) (fun x hx => by simp at hx; subst hx; rfl) (by unfold maxLen; omega) (by omega) (by simp; omega) ?_; intro v' w7 hown' hgrow7 hnil7))
     have hL7 : OwnI w7 w1.heap.size _ lf := own_kept (HX6.out.1.alloc _) (HXO.out.alloc _) (by decide) hgrow7
     have hN7 : OwnI w7 w3.heap.size _ fr := own_kept (HX6.out.2.1.alloc _) (HXO.out.alloc _) (by decide) hgrow7
     have hD7 : OwnA w7 w4.heap.size _ d := own_kept (HX6.out.2.2.1.alloc _) (HXO.out.alloc _) (by decide) hgrow7
     have hP7 : ∀ p ∈ ps, OwnA w7 w1.heap.size p.1 p.2 := fun p hp => own_kept ((HX6.out.2.2.2 p hp).alloc _) (HXO.out.alloc _) (by decide) hgrow7
     have hB7 : Below w1.heap.size w1 w7 := (bel_alloc hB6 _).grown hgrow7 (by have := hB6.size; simp; omega) (fun j hj => (HXO.out.lt j hj).1)
     have HX7 := Lib.hid (And.intro hown' (And.intro hL7 (And.intro hN7 (And.intro hD7 hP7))))
     clear hown' hgrow7 hnil7 hL7 hN7 hD7 hP7 hB6
     refine (without_spec _ _ lf fr w7 (OwnI.sl HX7.out.2.1) (OwnI.sl HX7.out.2.2.1) (by omega)).mono ?_
     rintro e w8 ⟨u8, rfl, hO8, hb8⟩
     have hB8 := bel_trans hB7 hb8
     have hz7 := hB7.size
     have HI8 : Hid (OwnI w8 w1.heap.size u8 (lf.filter fun x => !fr.contains x)) := Lib.hid (own_weak hO8 (by omega))
     have HLR8 : Hid ((∀ x ∈ lf.filter (fun x => !fr.contains x), 0 ≤ x ∧ x < m.length) ∧ RowOf (depA l) (atA m) (depI (cellsOf l m)) (lf.filter fun x => !fr.contains x)) := Lib.hid ⟨fun x hx => HLR.out.1 x (List.mem_filter.1 hx).1, HSR.out.2.2⟩
     have HO8 : Hid (OwnL w8 w1.heap.size v' ((ps ++ [(Value.slice p6 fr.length c6, d)]).map (·.1))) := Lib.hid (by
      have h1 := own_grow HX7.out.1 hb8
      show World.ownsRow _ _ _ _ _ _ _
      rw [List.map_append, List.length_append]
      exact h1)
     have HP8 : Hid (∀ p ∈ ps ++ [(Value.slice p6 fr.length c6, d)], OwnA w8 w1.heap.size p.1 p.2) := Lib.hid (fun p hp => by
      rcases List.mem_append.1 hp with hp | hp
      ·exact own_grow (HX7.out.2.2.2.2 p hp) hb8
      ·rw [List.mem_singleton.1 hp]
       exact own_weak (own_grow HX7.out.2.2.2.1 hb8) (by omega))
     have hlne : lf.map (atA m) ≠ [] := by
      intro e
      have := congrArg List.length e
      simp at this
      rw [this] at hlt; simp at hlt
     have HR8 : Hid ((ps ++ [(Value.slice p6 fr.length c6, d)]).map (·.2) ++ stpL l ((lf.filter fun x => !fr.contains x).map (atA m)) = RR) := Lib.hid (by
      rw [HSR.out.2.1, ← HR.out, stpL_cons hlne, ← HDN.out, List.map_append, List.append_assoc]; rfl)
     have hless : (lf.filter fun x => !fr.contains x).length < lf.length := by
      have h1 := congrArg List.length HSR.out.2.1
      rw [List.length_map] at h1
      rw [h1]
      cases hq : lf.map (atA m) with
      | nil => exact absurd hq hlne
      | cons x k =>
       have h2 := Tra.lft_len (D := depA l) (depA_refl l) (depA_symm l) x k
       have h3 : lf.length = k.length + 1 := by
        have := congrArg List.length hq
        simpa using this
       omega
     have hlen8 := HI8.out.len
     clear hO8 hb8 HX7 hB7
     go_wp2_with fail
     go_roundw
     case rel => exact ⟨_, ps ++ [(Value.slice p6 fr.length c6, d)], v', rfl, HI8, HLR8, HO8, HP8, HR8, by rw [List.length_append, List.length_singleton]; omega, hB8⟩
     case measure =>
      rw [hlen8]
      simpa [sliceLen] using hless
  ·have h0 : lf = [] := List.eq_nil_of_length_eq_zero (by omega)
   subst h0
   have HRE : Hid (ps.map (·.2) = RR) := Lib.hid (by simpa [stpL_nil] using HR.out)
   have HOO := HO
   have hBf : Below w.heap.size w W1 := bel_trans hB1 hbel
   go_wp2_with fail
   refine bodyPost_ret (v := .tuple #[uv, .int .i64 0]) (by simp [results, Tryz.results69, go_sem]) rfl ?_
   refine ⟨uv, ps, rfl, ⟨HRE.out, ?_, fun p hp => OwnA.sln (HPS.out p hp)⟩, hBf⟩
   have := OwnL.sl HOO.out
   rwa [List.map_map] at this
end Go.Proofs.YtccnkebkgegohaaGreatDoor
end
