import Derived.Test.YtccnkebkgegohaaGreatDoorHY3
/-
  Given contracts of functions of the program, and laws for them, one behind the other.
-/
set_option linter.unusedVariables false
set_option linter.unusedSimpArgs false
set_option linter.unusedSectionVars false
section
namespace Go.Proofs.YtccnkebkgegohaaGreatDoor
open Go.RowKit Go.Rel
set_option maxRecDepth 100000
/-! TraceReduced: an act pair is put into a history -/
abbrev AliveH (w : World) : Prop := Hid (∀ w', Below w.heap.size w w' → Calls Tryz.prog 20 #[] w' fun e w'' => e = .returned (.bool true) ∧ Below w'.heap.size w' w'')
theorem alive_h (w : World) (hT : w.cell? ⟨5, 15, none⟩ = some (.int .u8 4)) : AliveH w :=
  Lib.hid fun w' hb => alive_spec w' ((hb.cell (p := ⟨5, 15, none⟩) (block_lt_of_cell hT)).trans hT)
@[go_sem] theorem kinds0 (W : World) : (Instr.index 43 (.agg #[.int .u8 2, .int .u8 3, .int .u8 3, .int .u8 2]) (.int .i64 0)).run Tryz.prog W = .ok (.agg #[.int .u8 2, .int .u8 3]) W := by kernel_rfl
@[go_sem] theorem kinds1 (W : World) : (Instr.index 43 (.agg #[.int .u8 2, .int .u8 3, .int .u8 3, .int .u8 2]) (.int .i64 1)).run Tryz.prog W = .ok (.agg #[.int .u8 3, .int .u8 2]) W := by kernel_rfl
theorem SlN.grow {w w' : World} {v : Value} {xs : List Ac} (h : SlN w v xs) (hb : Below w.heap.size w w') : SlN w' v xs := ⟨h.1.mono hb, h.2⟩
theorem SlN.shape {w : World} {v : Value} {xs : List Ac} (h : SlN w v xs) : ∃ a n c, v = .slice a n c := by
  obtain ⟨a, c, h1, _⟩ := h.1
  exact ⟨a, _, c, h1⟩
abbrev pairC (k1 k2 : Int) (n : Int) : Array Value := #[.int .u8 k1, .int .i64 n, .int .u64 0, .int .u64 0, .int .u64 0, .int .u64 0, .int .u64 0, .int .u64 0, .int .u64 0, .int .u64 0, .int .u8 k2, .int .i64 n, .int .u64 0, .int .u64 0, .int .u64 0, .int .u64 0, .int .u64 0, .int .u64 0, .int .u64 0, .int .u64 0]
@[irreducible] def VSN (xs : List Ac) (v : Value) (W : World) : Prop := SlN W v xs
@[irreducible] def VPair (k1 k2 n : Int) (v : Value) (W : World) : Prop := ∃ g, v = .slice (some ⟨g, 0, none⟩) 2 2 ∧ Blk W g (pairC k1 k2 n) 46
@[irreducible] def VTri (a b c : List Ac) (v : Value) (W : World) : Prop := ∃ g x y z, v = .slice (some ⟨g, 0, none⟩) 3 3 ∧ Blk W g #[x, y, z] 28 ∧ SlN W x a ∧ SlN W y b ∧ SlN W z c
theorem VSN.stable {xs : List Ac} (v : Value) (W W' : World) (h : VSN xs v W) (g : Grows W W') : VSN xs v W' := by unfold VSN at *; exact h.grow g
theorem VPair.stable {k1 k2 n : Int} (v : Value) (W W' : World) (h : VPair k1 k2 n v W) (g : Grows W W') : VPair k1 k2 n v W' := by
  unfold VPair at *; obtain ⟨b, h1, h2⟩ := h; exact ⟨b, h1, h2.grow g⟩
theorem VTri.stable {a b c : List Ac} (v : Value) (W W' : World) (h : VTri a b c v W) (g : Grows W W') : VTri a b c v W' := by
  unfold VTri at *; obtain ⟨p, x, y, z, h1, h2, h3, h4, h5⟩ := h; exact ⟨p, x, y, z, h1, h2.grow g, h3.grow g, h4.grow g, h5.grow g⟩
def pairL (k1 k2 : Nat) (n : Int) : List Ac := [(k1, n, 0), (k2, n, 0)]
@[irreducible] def insL (k1 k2 : Nat) (n : Int) (K : Nat) (m : List Ac) : List Ac := m.take K ++ (pairL k1 k2 n ++ m.drop K)
@[irreducible] def VSA (xs : List Ac) (v : Value) (W : World) : Prop := SlA W v xs
theorem VSA.stable {xs : List Ac} (v : Value) (W W' : World) (h : VSA xs v W) (g : Grows W W') : VSA xs v W' := by unfold VSA at *; exact h.mono g
theorem pair_sl {k1 k2 : Nat} {n : Int} {W : World} {g : Nat} (h : Blk W g (pairC k1 k2 n) 46) : SlN W (.slice (some ⟨g, 0, none⟩) 2 2) (pairL k1 k2 n) :=
  ⟨Sl.ofBlk h rfl (by decide) (by simp [pairL]) (by simp [pairL, show ∀ k, pl (0#512) k = 0 from pl_zero]), fun n c e => by cases e⟩
theorem sln_take {w : World} {i n c : Nat} {a : Option Addr} {xs : List Ac} (h : SlA w (.slice a n c) xs) (hi : i ≤ n) : SlN w (.slice a i i) (xs.take i) := by
  have h1 := sl_take h hi
  rw [← List.map_take] at h1
  have e : sliced a 0 i i 10 = .slice a i i ∧ (a = none → i = 0) := by
    obtain ⟨a', c', he, h2, h3, h4⟩ := h
    cases he
    unfold sliced
    by_cases h0 : i = 0
    · simp [h0]
    · rcases h4 with h4 | ⟨b, off, rfl, _⟩
      · rw [h4] at hi; simp at hi; omega
      · simp [h0, Go.WideShapes.add_plain]
  rw [e.1] at h1
  exact ⟨h1, fun m d he => by cases he; exact e.2 rfl⟩
theorem sln_drop {w : World} {i n c : Nat} {a : Option Addr} {xs : List Ac} (h : SlN w (.slice a n c) xs) (hi : i ≤ n) : SlN w (sliced a i n c 10) (xs.drop i) := by
  have h1 := sl_drop h.1 hi
  rw [← List.map_drop] at h1
  refine ⟨h1, fun m d e => ?_⟩
  unfold sliced at e
  simp only [Value.slice.injEq] at e
  have hc : a = none → c = 0 := fun ha => by subst ha; exact h.2 _ _ rfl
  have ha : a = none := by
    have := e.1
    split at this
    · exact this
    · simpa using this
  have := hc ha
  omega
theorem concat_ins {k1 k2 : Nat} {n : Int} {K : Nat} {m : List Ac} {v : Value} (w : World) (h : VTri (m.take K) (pairL k1 k2 n) (m.drop K) v w) (hm : m.length ≤ 60) :
    Calls Tryz.prog 24 #[v] w fun e w' => ∃ u, e = .returned u ∧ Grows w w' ∧ VSA (insL k1 k2 n K m) u w' := by
  unfold VTri at h
  obtain ⟨g, x, y, z, rfl, hb, h1, h2, h3⟩ := h
  have hl : (catM [(x, m.take K), (y, pairL k1 k2 n), (z, m.drop K)]) = insL k1 k2 n K m := by
    unfold insL; simp [catM]
  have hlen : (insL k1 k2 n K m).length ≤ 1048576 := by unfold insL pairL; simp; omega
  have := Concat_spec _ [(x, m.take K), (y, pairL k1 k2 n), (z, m.drop K)] w (three_sl hb _ _ _) (fun p hp => by
    simp only [List.mem_cons, List.not_mem_nil, or_false] at hp
    rcases hp with rfl | rfl | rfl
    · exact h1
    · exact h2
    · exact h3) (by rw [hl]; exact hlen)
  rw [hl] at this
  exact this.mono fun e w' ⟨u, he, hO, hg⟩ => ⟨u, he, hg, by unfold VSA; exact hO.sl⟩
theorem ins_red (l : List Sol) (n : Int) (K : Nat) (m : List Ac) (k1 k2 : Nat) (hk : (k1 = 2 ∧ k2 = 3) ∨ (k1 = 3 ∧ k2 = 2)) : nrm l (redL l (insL k1 k2 n K m)) = nrm l (redL l m) := by
  unfold insL pairL
  have h : ivA (k1, n, 0) = some (k2, n, 0) := by
    rcases hk with ⟨rfl, rfl⟩ | ⟨rfl, rfl⟩ <;> rfl
  have := redL_turn (l := l) (m.take K) (m.drop K) h
  rw [List.take_append_drop] at this
  exact this
theorem sla_shape {W : World} {v : Value} {xs : List Ac} (h : SlA W v xs) : ∃ a n c, v = .slice a n c := by
  obtain ⟨a, c, h1, _⟩ := h
  exact ⟨a, _, c, h1⟩
end Go.Proofs.YtccnkebkgegohaaGreatDoor
end
