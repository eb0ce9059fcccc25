import Derived.Test.YtccnkebkgegohaaGreatDoorG21
/-
  Given contracts of functions of the program, and laws for them, one behind the other.
-/
set_option linter.unusedVariables false
set_option linter.unusedSimpArgs false
set_option linter.unusedSectionVars false
section
namespace Go.Proofs.YtccnkebkgegohaaGreatDoor
open Go.RowKit Go.Rel
set_option maxRecDepth 100000
/-- the four acts that alive holds -/
structure Four (B : Nat) (W : World) : Prop where
 c1 : Blk W (B) #[.int .u8 1, .int .i64 0, .int .u64 134217728, .int .u64 0, .int .u64 0, .int .u64 0, .int .u64 0, .int .u64 0, .int .u64 0, .int .u64 0] 46
 c2 : Blk W (B + 1) #[.int .u8 1, .int .i64 0, .int .u64 1, .int .u64 0, .int .u64 0, .int .u64 0, .int .u64 0, .int .u64 0, .int .u64 0, .int .u64 0] 46
 d1 : Blk W (B + 1 + 1) #[.int .u8 2, .int .i64 0, .int .u64 0, .int .u64 0, .int .u64 0, .int .u64 0, .int .u64 0, .int .u64 0, .int .u64 0, .int .u64 0] 46
 d2 : Blk W (B + 1 + 1 + 1) #[.int .u8 3, .int .i64 0, .int .u64 0, .int .u64 0, .int .u64 0, .int .u64 0, .int .u64 0, .int .u64 0, .int .u64 0, .int .u64 0] 46
theorem Four.grow {B : Nat} {W W' : World} (h : Four B W) (hb : Below W.heap.size W W') : Four B W' := ⟨h.c1.grow hb, h.c2.grow hb, h.d1.grow hb, h.d2.grow hb⟩
theorem len_rows (acts : List Ac) : ∀ r ∈ acts.map acL, r.length = 10 := by
 intro r hr
 obtain ⟨a, _, rfl⟩ := List.mem_map.1 hr
 rfl
theorem rows_n321 : (#[.int .u8 2, .int .i64 0, .int .u64 0, .int .u64 0, .int .u64 0, .int .u64 0, .int .u64 0, .int .u64 0, .int .u64 0, .int .u64 0, .int .u8 1, .int .i64 0, .int .u64 1, .int .u64 0, .int .u64 0, .int .u64 0, .int .u64 0, .int .u64 0, .int .u64 0, .int .u64 0, .int .u8 1, .int .i64 0, .int .u64 134217728, .int .u64 0, .int .u64 0, .int .u64 0, .int .u64 0, .int .u64 0, .int .u64 0, .int .u64 0] : Array Value).toList = (([aD1, aC2, aC1] : List Ac).map acL).flatten := by
 simp only [List.map_cons, List.map_nil, acL_aD1, acL_aC2, acL_aC1]; rfl
theorem sl_n321 {W : World} {b : Nat} (h : Blk W b #[.int .u8 2, .int .i64 0, .int .u64 0, .int .u64 0, .int .u64 0, .int .u64 0, .int .u64 0, .int .u64 0, .int .u64 0, .int .u64 0, .int .u8 1, .int .i64 0, .int .u64 1, .int .u64 0, .int .u64 0, .int .u64 0, .int .u64 0, .int .u64 0, .int .u64 0, .int .u64 0, .int .u8 1, .int .i64 0, .int .u64 134217728, .int .u64 0, .int .u64 0, .int .u64 0, .int .u64 0, .int .u64 0, .int .u64 0, .int .u64 0] 46) : SlA W (.slice (some ⟨b, 0, none⟩) 3 3) [aD1, aC2, aC1] := Sl.ofBlk h rfl (by decide) (len_rows _) rows_n321
theorem rows_n1234 : (#[.int .u8 1, .int .i64 0, .int .u64 134217728, .int .u64 0, .int .u64 0, .int .u64 0, .int .u64 0, .int .u64 0, .int .u64 0, .int .u64 0, .int .u8 1, .int .i64 0, .int .u64 1, .int .u64 0, .int .u64 0, .int .u64 0, .int .u64 0, .int .u64 0, .int .u64 0, .int .u64 0, .int .u8 2, .int .i64 0, .int .u64 0, .int .u64 0, .int .u64 0, .int .u64 0, .int .u64 0, .int .u64 0, .int .u64 0, .int .u64 0, .int .u8 3, .int .i64 0, .int .u64 0, .int .u64 0, .int .u64 0, .int .u64 0, .int .u64 0, .int .u64 0, .int .u64 0, .int .u64 0] : Array Value).toList = (([aC1, aC2, aD1, aD2] : List Ac).map acL).flatten := by
 simp only [List.map_cons, List.map_nil, acL_aC1, acL_aC2, acL_aD1, acL_aD2]; rfl
theorem sl_n1234 {W : World} {b : Nat} (h : Blk W b #[.int .u8 1, .int .i64 0, .int .u64 134217728, .int .u64 0, .int .u64 0, .int .u64 0, .int .u64 0, .int .u64 0, .int .u64 0, .int .u64 0, .int .u8 1, .int .i64 0, .int .u64 1, .int .u64 0, .int .u64 0, .int .u64 0, .int .u64 0, .int .u64 0, .int .u64 0, .int .u64 0, .int .u8 2, .int .i64 0, .int .u64 0, .int .u64 0, .int .u64 0, .int .u64 0, .int .u64 0, .int .u64 0, .int .u64 0, .int .u64 0, .int .u8 3, .int .i64 0, .int .u64 0, .int .u64 0, .int .u64 0, .int .u64 0, .int .u64 0, .int .u64 0, .int .u64 0, .int .u64 0] 46) : SlA W (.slice (some ⟨b, 0, none⟩) 4 4) [aC1, aC2, aD1, aD2] := Sl.ofBlk h rfl (by decide) (len_rows _) rows_n1234
theorem rows_n12 : (#[.int .u8 1, .int .i64 0, .int .u64 134217728, .int .u64 0, .int .u64 0, .int .u64 0, .int .u64 0, .int .u64 0, .int .u64 0, .int .u64 0, .int .u8 1, .int .i64 0, .int .u64 1, .int .u64 0, .int .u64 0, .int .u64 0, .int .u64 0, .int .u64 0, .int .u64 0, .int .u64 0] : Array Value).toList = (([aC1, aC2] : List Ac).map acL).flatten := by
 simp only [List.map_cons, List.map_nil, acL_aC1, acL_aC2]; rfl
theorem sl_n12 {W : World} {b : Nat} (h : Blk W b #[.int .u8 1, .int .i64 0, .int .u64 134217728, .int .u64 0, .int .u64 0, .int .u64 0, .int .u64 0, .int .u64 0, .int .u64 0, .int .u64 0, .int .u8 1, .int .i64 0, .int .u64 1, .int .u64 0, .int .u64 0, .int .u64 0, .int .u64 0, .int .u64 0, .int .u64 0, .int .u64 0] 46) : SlA W (.slice (some ⟨b, 0, none⟩) 2 2) [aC1, aC2] := Sl.ofBlk h rfl (by decide) (len_rows _) rows_n12
theorem rows_n23 : (#[.int .u8 1, .int .i64 0, .int .u64 1, .int .u64 0, .int .u64 0, .int .u64 0, .int .u64 0, .int .u64 0, .int .u64 0, .int .u64 0, .int .u8 2, .int .i64 0, .int .u64 0, .int .u64 0, .int .u64 0, .int .u64 0, .int .u64 0, .int .u64 0, .int .u64 0, .int .u64 0] : Array Value).toList = (([aC2, aD1] : List Ac).map acL).flatten := by
 simp only [List.map_cons, List.map_nil, acL_aC2, acL_aD1]; rfl
theorem sl_n23 {W : World} {b : Nat} (h : Blk W b #[.int .u8 1, .int .i64 0, .int .u64 1, .int .u64 0, .int .u64 0, .int .u64 0, .int .u64 0, .int .u64 0, .int .u64 0, .int .u64 0, .int .u8 2, .int .i64 0, .int .u64 0, .int .u64 0, .int .u64 0, .int .u64 0, .int .u64 0, .int .u64 0, .int .u64 0, .int .u64 0] 46) : SlA W (.slice (some ⟨b, 0, none⟩) 2 2) [aC2, aD1] := Sl.ofBlk h rfl (by decide) (len_rows _) rows_n23
theorem rows_n1 : (#[.int .u8 1, .int .i64 0, .int .u64 134217728, .int .u64 0, .int .u64 0, .int .u64 0, .int .u64 0, .int .u64 0, .int .u64 0, .int .u64 0] : Array Value).toList = (([aC1] : List Ac).map acL).flatten := by
 simp only [List.map_cons, List.map_nil, acL_aC1]; rfl
theorem sl_n1 {W : World} {b : Nat} (h : Blk W b #[.int .u8 1, .int .i64 0, .int .u64 134217728, .int .u64 0, .int .u64 0, .int .u64 0, .int .u64 0, .int .u64 0, .int .u64 0, .int .u64 0] 46) : SlA W (.slice (some ⟨b, 0, none⟩) 1 1) [aC1] := Sl.ofBlk h rfl (by decide) (len_rows _) rows_n1
theorem rows_n3 : (#[.int .u8 1, .int .i64 0, .int .u64 201326592, .int .u64 0, .int .u64 0, .int .u64 0, .int .u64 0, .int .u64 0, .int .u64 0, .int .u64 0] : Array Value).toList = (([aC3] : List Ac).map acL).flatten := by
 simp only [List.map_cons, List.map_nil, acL_aC3]; rfl
theorem sl_n3 {W : World} {b : Nat} (h : Blk W b #[.int .u8 1, .int .i64 0, .int .u64 201326592, .int .u64 0, .int .u64 0, .int .u64 0, .int .u64 0, .int .u64 0, .int .u64 0, .int .u64 0] 46) : SlA W (.slice (some ⟨b, 0, none⟩) 1 1) [aC3] := Sl.ofBlk h rfl (by decide) (len_rows _) rows_n3
theorem rows_n3142 : (#[.int .u8 2, .int .i64 0, .int .u64 0, .int .u64 0, .int .u64 0, .int .u64 0, .int .u64 0, .int .u64 0, .int .u64 0, .int .u64 0, .int .u8 1, .int .i64 0, .int .u64 134217728, .int .u64 0, .int .u64 0, .int .u64 0, .int .u64 0, .int .u64 0, .int .u64 0, .int .u64 0, .int .u8 3, .int .i64 0, .int .u64 0, .int .u64 0, .int .u64 0, .int .u64 0, .int .u64 0, .int .u64 0, .int .u64 0, .int .u64 0, .int .u8 1, .int .i64 0, .int .u64 1, .int .u64 0, .int .u64 0, .int .u64 0, .int .u64 0, .int .u64 0, .int .u64 0, .int .u64 0] : Array Value).toList = (([aD1, aC1, aD2, aC2] : List Ac).map acL).flatten := by
 simp only [List.map_cons, List.map_nil, acL_aD1, acL_aC1, acL_aD2, acL_aC2]; rfl
theorem sl_n3142 {W : World} {b : Nat} (h : Blk W b #[.int .u8 2, .int .i64 0, .int .u64 0, .int .u64 0, .int .u64 0, .int .u64 0, .int .u64 0, .int .u64 0, .int .u64 0, .int .u64 0, .int .u8 1, .int .i64 0, .int .u64 134217728, .int .u64 0, .int .u64 0, .int .u64 0, .int .u64 0, .int .u64 0, .int .u64 0, .int .u64 0, .int .u8 3, .int .i64 0, .int .u64 0, .int .u64 0, .int .u64 0, .int .u64 0, .int .u64 0, .int .u64 0, .int .u64 0, .int .u64 0, .int .u8 1, .int .i64 0, .int .u64 1, .int .u64 0, .int .u64 0, .int .u64 0, .int .u64 0, .int .u64 0, .int .u64 0, .int .u64 0] 46) : SlA W (.slice (some ⟨b, 0, none⟩) 4 4) [aD1, aC1, aD2, aC2] := Sl.ofBlk h rfl (by decide) (len_rows _) rows_n3142
theorem rows_n213 : (#[.int .u8 1, .int .i64 0, .int .u64 1, .int .u64 0, .int .u64 0, .int .u64 0, .int .u64 0, .int .u64 0, .int .u64 0, .int .u64 0, .int .u8 1, .int .i64 0, .int .u64 134217728, .int .u64 0, .int .u64 0, .int .u64 0, .int .u64 0, .int .u64 0, .int .u64 0, .int .u64 0, .int .u8 2, .int .i64 0, .int .u64 0, .int .u64 0, .int .u64 0, .int .u64 0, .int .u64 0, .int .u64 0, .int .u64 0, .int .u64 0] : Array Value).toList = (([aC2, aC1, aD1] : List Ac).map acL).flatten := by
 simp only [List.map_cons, List.map_nil, acL_aC2, acL_aC1, acL_aD1]; rfl
theorem sl_n213 {W : World} {b : Nat} (h : Blk W b #[.int .u8 1, .int .i64 0, .int .u64 1, .int .u64 0, .int .u64 0, .int .u64 0, .int .u64 0, .int .u64 0, .int .u64 0, .int .u64 0, .int .u8 1, .int .i64 0, .int .u64 134217728, .int .u64 0, .int .u64 0, .int .u64 0, .int .u64 0, .int .u64 0, .int .u64 0, .int .u64 0, .int .u8 2, .int .i64 0, .int .u64 0, .int .u64 0, .int .u64 0, .int .u64 0, .int .u64 0, .int .u64 0, .int .u64 0, .int .u64 0] 46) : SlA W (.slice (some ⟨b, 0, none⟩) 3 3) [aC2, aC1, aD1] := Sl.ofBlk h rfl (by decide) (len_rows _) rows_n213
theorem rows_n21 : (#[.int .u8 1, .int .i64 0, .int .u64 1, .int .u64 0, .int .u64 0, .int .u64 0, .int .u64 0, .int .u64 0, .int .u64 0, .int .u64 0, .int .u8 1, .int .i64 0, .int .u64 134217728, .int .u64 0, .int .u64 0, .int .u64 0, .int .u64 0, .int .u64 0, .int .u64 0, .int .u64 0] : Array Value).toList = (([aC2, aC1] : List Ac).map acL).flatten := by
 simp only [List.map_cons, List.map_nil, acL_aC2, acL_aC1]; rfl
theorem sl_n21 {W : World} {b : Nat} (h : Blk W b #[.int .u8 1, .int .i64 0, .int .u64 1, .int .u64 0, .int .u64 0, .int .u64 0, .int .u64 0, .int .u64 0, .int .u64 0, .int .u64 0, .int .u8 1, .int .i64 0, .int .u64 134217728, .int .u64 0, .int .u64 0, .int .u64 0, .int .u64 0, .int .u64 0, .int .u64 0, .int .u64 0] 46) : SlA W (.slice (some ⟨b, 0, none⟩) 2 2) [aC2, aC1] := Sl.ofBlk h rfl (by decide) (len_rows _) rows_n21
/-- a history kept in a cell -/
structure Kept (b : Nat) (p : Option Addr) (m k : Nat) (q : Option Addr) (n c : Nat) (acts : List Ac) (W : World) : Prop where
 blk : Blk W b #[.int .u64 252645135, .int .u64 0, .int .u64 0, .int .u64 0, .int .u64 0, .int .u64 0, .int .u64 0, .int .u64 0, .slice p m k, .slice q n c] 30
 sl : SlA W (.slice q n c) acts
theorem Kept.grow {b : Nat} {p : Option Addr} {m k : Nat} {q : Option Addr} {n c : Nat} {acts : List Ac} {W W' : World} (h : Kept b p m k q n c acts W) (hb : Below W.heap.size W W') : Kept b p m k q n c acts W' := ⟨h.blk.grow hb, h.sl.mono hb⟩
/-- blocks below B stay, and so does every block whose cells are no histories -/
def RS (B : Nat) (w w' : World) : Prop := Below B w w' ∧ ∀ k c t, t ≠ 30 → Blk w k c t → Blk w' k c t
theorem RS.refl (B : Nat) (w : World) : RS B w w := ⟨Below.refl _ _, fun _ _ _ _ h => h⟩
theorem RS.trans {B : Nat} {x y z : World} (h : RS B x y) (k : RS B y z) : RS B x z := ⟨h.1.trans k.1, fun b c t ht hk => k.2 b c t ht (h.2 b c t ht hk)⟩
theorem RS.grows {B : Nat} {w w' : World} (hb : Below w.heap.size w w') (hB : B ≤ w.heap.size) : RS B w w' := ⟨hb.mono hB, fun _ _ _ _ h => h.grow hb⟩
theorem own_rs {B base : Nat} {e : TypeId} {size : Nat} {v : Value} {n : Nat} {xs : List Value} {w w' : World} (h : w.ownsRow base e size v n xs) (hr : RS B w w') (he : e ≠ 30) : w'.ownsRow base e size v n xs := by
 refine ⟨h.1, ?_⟩
 rcases h.2 with hn | ⟨g, cap, cur, hv, hg, hw, rest⟩
 ·exact .inl hn
 ·exact .inr ⟨g, cap, cur, hv, hg, hr.2 g cur e he hw, rest⟩
def AnyV (_ : Value) (_ : World) : Prop := True
def SliceB (k : Nat) (c : Array Value) (v : Value) (W : World) : Prop := ∃ b, v = .slice (some ⟨b, 0, none⟩) k k ∧ Blk W b c 46
theorem SliceB.rs {B k : Nat} {c : Array Value} {v : Value} {W W' : World} (h : SliceB k c v W) (hb : RS B W W') : SliceB k c v W' := by
 obtain ⟨b, hv, hs⟩ := h
 exact ⟨b, hv, hb.2 _ _ _ (by decide) hs⟩
def HistB (k : Nat) (c : Array Value) (v : Value) (W : World) : Prop := ∃ b b2, v = .agg #[.int .u64 252645135, .int .u64 0, .int .u64 0, .int .u64 0, .int .u64 0, .int .u64 0, .int .u64 0, .int .u64 0, .slice (some ⟨b, 0, none⟩) 2 2, .slice (some ⟨b2, 0, none⟩) k k] ∧ Blk W b slabC 24 ∧ Blk W b2 c 46
theorem HistB.rs {B k : Nat} {c : Array Value} {v : Value} {W W' : World} (h : HistB k c v W) (hb : RS B W W') : HistB k c v W' := by
 obtain ⟨b, b2, hv, h1, h2⟩ := h
 exact ⟨b, b2, hv, hb.2 _ _ _ (by decide) h1, hb.2 _ _ _ (by decide) h2⟩
theorem ofB {k : Nat} {c : Array Value} (v : Value) (w : World) (h : SliceB k c v w) : Calls Tryz.prog 88 #[v] w fun e w' => ∃ u, e = .returned u ∧ HistB k c u w' ∧ Below w.heap.size w w' := by
 obtain ⟨b2, rfl, hk⟩ := h
 refine (of_spec _ _ _ w).mono ?_
 rintro e w' ⟨b, rfl, hS, hb⟩
 exact ⟨_, rfl, ⟨b, b2, rfl, hS, hk.grow hb⟩, hb⟩
theorem HistB.p12 {v : Value} {W : World} (h : HistB 2 #[.int .u8 1, .int .i64 0, .int .u64 134217728, .int .u64 0, .int .u64 0, .int .u64 0, .int .u64 0, .int .u64 0, .int .u64 0, .int .u64 0, .int .u8 1, .int .i64 0, .int .u64 1, .int .u64 0, .int .u64 0, .int .u64 0, .int .u64 0, .int .u64 0, .int .u64 0, .int .u64 0] v W) : HistP [aC1, aC2] v W := by
 obtain ⟨b, b2, hv, h1, h2⟩ := h
 exact ⟨b, _, _, _, hv, slab_sl h1, sl_n12 h2⟩
theorem HistB.p23 {v : Value} {W : World} (h : HistB 2 #[.int .u8 1, .int .i64 0, .int .u64 1, .int .u64 0, .int .u64 0, .int .u64 0, .int .u64 0, .int .u64 0, .int .u64 0, .int .u64 0, .int .u8 2, .int .i64 0, .int .u64 0, .int .u64 0, .int .u64 0, .int .u64 0, .int .u64 0, .int .u64 0, .int .u64 0, .int .u64 0] v W) : HistP [aC2, aD1] v W := by
 obtain ⟨b, b2, hv, h1, h2⟩ := h
 exact ⟨b, _, _, _, hv, slab_sl h1, sl_n23 h2⟩
theorem OutP.rs {B : Nat} {acts : List Ac} {v : Value} {W W' : World} (h : OutP acts v W) (hb : RS B W W') : OutP acts v W' := by
 obtain ⟨p, m, k, q, n, c, base, hv, h2⟩ := h
 exact ⟨p, m, k, q, n, c, base, hv, own_rs h2 hb (by decide)⟩
def OutT (acts : List Ac) (v : Value) (W : World) : Prop := ∃ u, v = .tuple #[u, .int .i64 0] ∧ OutP acts u W
theorem OutT.rs {B : Nat} {acts : List Ac} {v : Value} {W W' : World} (h : OutT acts v W) (hb : RS B W W') : OutT acts v W' := by
 obtain ⟨u, hv, hs⟩ := h
 exact ⟨u, hv, hs.rs hb⟩
/-- the room that the region makes, empty till its store -/
def I5 (B : Nat) (a b : Bool) (x y : Value) (W : World) : Prop := a = true → ∃ k, y = .pointer (some ⟨k, 0, none⟩) ∧ B ≤ k ∧ (b = false → Blk W k #[.int .u64 0, .int .u64 0, .int .u64 0, .int .u64 0, .int .u64 0, .int .u64 0, .int .u64 0, .int .u64 0, .slice none 0 0, .slice none 0 0] 30) ∧ (b = true → ∃ p m e q n c, x = .agg #[.int .u64 252645135, .int .u64 0, .int .u64 0, .int .u64 0, .int .u64 0, .int .u64 0, .int .u64 0, .int .u64 0, .slice p m e, .slice q n c] ∧ Blk W k #[.int .u64 252645135, .int .u64 0, .int .u64 0, .int .u64 0, .int .u64 0, .int .u64 0, .int .u64 0, .int .u64 0, .slice p m e, .slice q n c] 30)
theorem I5.grow {B : Nat} {a b : Bool} {x y : Value} {W W' : World} (h : I5 B a b x y W) (hb : Below W.heap.size W W') : I5 B a b x y W' := by
 intro ha
 obtain ⟨k, hy, hk, h0, h1⟩ := h ha
 refine ⟨k, hy, hk, fun e => (h0 e).grow hb, fun e => ?_⟩
 obtain ⟨p, m, e, q, n, c, hx, hk⟩ := h1 e
 exact ⟨p, m, e, q, n, c, hx, hk.grow hb⟩
theorem I5.x {B : Nat} {a : Bool} {x x' y : Value} {W : World} (h : I5 B a false x y W) : I5 B a false x' y W := by
 intro ha
 obtain ⟨k, hy, hk, h0, _⟩ := h ha
 exact ⟨k, hy, hk, h0, fun e => by cases e⟩
theorem I5.made {B : Nat} {x : Value} {W : World} (hB : B ≤ W.heap.size) : I5 B true false x (.pointer (some ⟨W.heap.size, 0, none⟩)) (W.alloc (.cells #[.int .u64 0, .int .u64 0, .int .u64 0, .int .u64 0, .int .u64 0, .int .u64 0, .int .u64 0, .int .u64 0, .slice none 0 0, .slice none 0 0] 30)) := fun _ => ⟨_, rfl, hB, fun _ => Blk.new _ _ _, fun e => by cases e⟩
theorem rs_row {B : Nat} {w : World} {k : Nat} {c c' : Array Value} (h : Blk w k c 30) (hk : B ≤ k) : RS B w (w.setRow k c') :=
 ⟨blw_row (Below.refl _ _) hk _, fun j d t ht hj => hj.rowO _ (fun e => by subst e; rw [Blk] at h hj; rw [h] at hj; cases hj; exact ht rfl)⟩
@[go_sem] theorem eqStandLit (w : World) : (Op.equalIn 9999 24 (.agg #[.int .u64 252645134, .int .u64 1, .int .u64 0, .int .u64 0, .int .u64 0, .int .u64 0, .int .u64 0, .int .u64 0]) (.agg #[.int .u64 252645134, .int .u64 1, .int .u64 0, .int .u64 0, .int .u64 0, .int .u64 0, .int .u64 0, .int .u64 0])).run Tryz.prog w = .ok true w := by
 have h := eqSol 9997 18446744073962196750 18446744073962196750 w
 unfold solV at h
 simp only [pl_st_0, pl_st_1, pl_st_2, pl_st_3, pl_st_4, pl_st_5, pl_st_6, pl_st_7, beq_self_eq_true] at h
 exact h
set_option maxHeartbeats 8000000 in
theorem alive_spec (w : World) (hT : w.cell? ⟨5, 15, none⟩ = some (.int .u8 4)) : Calls Tryz.prog 20 #[] w fun e w' => e = .returned (.bool true) ∧ Below w.heap.size w w' := by
 have HT := Lib.hid hT
 have HT5 := Lib.hid (block_lt_of_cell hT); clear hT
 have HCUT := Lib.hid cut_spec
 go_enter Tryz.func20, Tryz.ntmps20
 go_wp2_with fail
 refine (HCUT.out _ _).mono ?_
 rintro e w1 ⟨rfl, hb1⟩
 go_wp2_with fail
 refine (HCUT.out _ _).mono ?_
 rintro e w2 ⟨rfl, hb2⟩
 have hB := bel_trans hb1 hb2
 clear hb1 hb2
 go_wp2_with fail
 refine (ofP (acts := [aD1, aC2, aC1]) _ _ _ _ ?sl).mono ?_
 case sl => exact sl_n321 blk_by
 rintro e w3 ⟨h, rfl, hP, hb⟩
 have F : Four w2.heap.size w3 := Four.grow ⟨blk_by, blk_by, blk_by, blk_by⟩ hb
 have hB3 : Below w.heap.size w w3 := bel_trans bel_by hb
 clear hb hB
 generalize w2.heap.size = B at *
 go_wp2_with fail
 refine (aliveNormal _ _ hP).mono ?_
 rintro e w4 ⟨u, rfl, hO, hb⟩
 replace F := F.grow hb
 have hB := bel_trans hB3 hb
 clear hB3 hb hP
 obtain ⟨p5, m5, e5, q5, n5, k5, base5, rfl, hS5⟩ := hO
 have c1 := F.c1.cell
 have c2 := F.c2.cell
 have c3 := F.d1.cell
 have c4 := F.d2.cell
 have l1 := F.c1.lt
 have l2 := F.c2.lt
 have l3 := F.d1.lt
 have l4 := F.d2.lt
 go_wp2_with fail
 clear c1 c2 c3 c4 l1 l2 l3 l4
 refine (ofP (acts := [aC1, aC2, aD1, aD2]) _ _ _ _ ?sl).mono ?_
 case sl => exact sl_n1234 blk_by
 rintro e w5 ⟨h, rfl, hP, hb⟩
 have hb4 : Below w4.heap.size w4 w5 := bel_trans bel_by hb
 have K5 : Kept w4.heap.size p5 m5 e5 q5 n5 k5 [aC2, aC1, aD1] w5 := ⟨Blk.grow blk_by hb, hS5.sl.mono hb4⟩
 replace F := F.grow hb4
 replace hB := bel_trans hB hb4
 clear hb hb4 hS5
 generalize w4.heap.size = B5 at *
 go_wp2_with fail
 refine (aliveOrders _ _ hP).mono ?_
 rintro e w6 ⟨rfl, hb⟩
 replace F := F.grow hb
 replace K5 := K5.grow hb
 replace hB := bel_trans hB hb
 clear hb hP
 have c1 := F.c1.cell
 have c2 := F.c2.cell
 have c3 := F.d1.cell
 have c4 := F.d2.cell
 have l1 := F.c1.lt
 have l2 := F.c2.lt
 have l3 := F.d1.lt
 have l4 := F.d2.lt
 go_wp2_with fail
 refine wp_region_val (RS w6.heap.size) (fun L vs W => I5 w6.heap.size (L 12) (L 13) (vs 10) (vs 12) W) [Is (.agg #[.int .u8 1, .int .i64 0, .int .u64 134217728, .int .u64 0, .int .u64 0, .int .u64 0, .int .u64 0, .int .u64 0, .int .u64 0, .int .u64 0]), Is (.agg #[.int .u8 1, .int .i64 0, .int .u64 1, .int .u64 0, .int .u64 0, .int .u64 0, .int .u64 0, .int .u64 0, .int .u64 0, .int .u64 0]), SliceB 2 #[.int .u8 1, .int .i64 0, .int .u64 134217728, .int .u64 0, .int .u64 0, .int .u64 0, .int .u64 0, .int .u64 0, .int .u64 0, .int .u64 0, .int .u8 1, .int .i64 0, .int .u64 1, .int .u64 0, .int .u64 0, .int .u64 0, .int .u64 0, .int .u64 0, .int .u64 0, .int .u64 0], HistB 2 #[.int .u8 1, .int .i64 0, .int .u64 134217728, .int .u64 0, .int .u64 0, .int .u64 0, .int .u64 0, .int .u64 0, .int .u64 0, .int .u64 0, .int .u8 1, .int .i64 0, .int .u64 1, .int .u64 0, .int .u64 0, .int .u64 0, .int .u64 0, .int .u64 0, .int .u64 0, .int .u64 0], Is (.agg #[.int .u8 1, .int .i64 0, .int .u64 1, .int .u64 0, .int .u64 0, .int .u64 0, .int .u64 0, .int .u64 0, .int .u64 0, .int .u64 0]), Is (.agg #[.int .u8 2, .int .i64 0, .int .u64 0, .int .u64 0, .int .u64 0, .int .u64 0, .int .u64 0, .int .u64 0, .int .u64 0, .int .u64 0]), SliceB 2 #[.int .u8 1, .int .i64 0, .int .u64 1, .int .u64 0, .int .u64 0, .int .u64 0, .int .u64 0, .int .u64 0, .int .u64 0, .int .u64 0, .int .u8 2, .int .i64 0, .int .u64 0, .int .u64 0, .int .u64 0, .int .u64 0, .int .u64 0, .int .u64 0, .int .u64 0, .int .u64 0], HistB 2 #[.int .u8 1, .int .i64 0, .int .u64 1, .int .u64 0, .int .u64 0, .int .u64 0, .int .u64 0, .int .u64 0, .int .u64 0, .int .u64 0, .int .u8 2, .int .i64 0, .int .u64 0, .int .u64 0, .int .u64 0, .int .u64 0, .int .u64 0, .int .u64 0, .int .u64 0, .int .u64 0], OutT [aC2, aC1, aD1], OutT [aC2, aC1, aD1], OutP [aC2, aC1, aD1], Is (.int .i64 0), AnyV, AnyV, Is (.int .i64 0)] (by kernel_rfl) (by kernel_rfl) rfl (RS.refl w6.heap.size) (fun _ _ _ => RS.trans) (stable_mem ⟨fun _ _ _ h _ => h, fun _ _ _ h _ => h, fun _ _ _ h hb => SliceB.rs h hb, fun _ _ _ h hb => HistB.rs h hb, fun _ _ _ h _ => h, fun _ _ _ h _ => h, fun _ _ _ h hb => SliceB.rs h hb, fun _ _ _ h hb => HistB.rs h hb, fun _ _ _ h hb => OutT.rs h hb, fun _ _ _ h hb => OutT.rs h hb, fun _ _ _ h hb => OutP.rs h hb, fun _ _ _ h _ => h, fun _ _ _ h _ => h, fun _ _ _ h _ => h, fun _ _ _ h _ => h, trivial⟩) w6 ⟨Below.drew (Below.refl _ _), fun _ _ _ _ h => h⟩ (fun e => by cases e) ?_
 refine val_cons ?_ (fun v0 => ?_)
 ·intro L vs w1 hvs hat hb hI hF; try simp [factsI, Region.binds, Is] at hF
  have c1 := (F.grow hb.1).c1.cell
  go_simp
  simp [upd]
  exact ⟨RS.refl _ _, hI⟩
 refine val_cons ?_ (fun v1 => ?_)
 ·intro L vs w1 hvs hat hb hI hF; try simp [factsI, Region.binds, Is] at hF
  have c1 := (F.grow hb.1).c2.cell
  go_simp
  simp [upd]
  exact ⟨RS.refl _ _, hI⟩
 refine val_cons ?_ (fun v2 => ?_)
 ·intro L vs w1 hvs hat hb hI hF; try simp [factsI, Region.binds, Is] at hF
  go_simp
  exact ⟨RS.grows (bel_alloc (bel_refl _) _) hb.1.size, hI.grow (bel_alloc (bel_refl _) _), _, rfl, Blk.new _ _ _⟩
 refine val_cons ?_ (fun v3 => ?_)
 ·intro L vs w1 hvs hat hb hI hF; try simp [factsI, Region.binds, Is] at hF
  have HF := Lib.hid hF; clear hF
  go_simp
  refine (ofB _ _ HF.out).mono ?_
  rintro e w' ⟨u, rfl, hH, hb'⟩
  exact ⟨u, rfl, RS.grows hb' hb.1.size, hI.grow hb', hH⟩
 refine val_cons ?_ (fun v4 => ?_)
 ·intro L vs w1 hvs hat hb hI hF; try simp [factsI, Region.binds, Is] at hF
  have c1 := (F.grow hb.1).c2.cell
  go_simp
  simp [upd]
  exact ⟨RS.refl _ _, hI⟩
 refine val_cons ?_ (fun v5 => ?_)
 ·intro L vs w1 hvs hat hb hI hF; try simp [factsI, Region.binds, Is] at hF
  have c1 := (F.grow hb.1).d1.cell
  go_simp
  simp [upd]
  exact ⟨RS.refl _ _, hI⟩
 refine val_cons ?_ (fun v6 => ?_)
 ·intro L vs w1 hvs hat hb hI hF; try simp [factsI, Region.binds, Is] at hF
  go_simp
  exact ⟨RS.grows (bel_alloc (bel_refl _) _) hb.1.size, hI.grow (bel_alloc (bel_refl _) _), _, rfl, Blk.new _ _ _⟩
 refine val_cons ?_ (fun v7 => ?_)
 ·intro L vs w1 hvs hat hb hI hF; try simp [factsI, Region.binds, Is] at hF
  have HF := Lib.hid hF; clear hF
  go_simp
  refine (ofB _ _ HF.out.1).mono ?_
  rintro e w' ⟨u, rfl, hH, hb'⟩
  exact ⟨u, rfl, RS.grows hb' hb.1.size, hI.grow hb', hH⟩
 refine val_cons ?_ (fun v8 => ?_)
 ·intro L vs w1 hvs hat hb hI hF; try simp [factsI, Region.binds, Is] at hF
  have HF := Lib.hid hF; clear hF
  go_simp
  refine (aliveMerge _ _ _ HF.out.1.p12 (by first | exact HF.out.2.p23 | exact HF.out.2.1.p23)).mono ?_
  rintro e w' ⟨u, rfl, hH, hb'⟩
  exact ⟨_, rfl, RS.grows hb' hb.1.size, hI.grow hb', u, rfl, hH⟩
 refine val_cons ?_ (fun v9 => ?_)
 ·intro L vs w1 hvs hat hb hI hF; try simp [factsI, Region.binds, Is] at hF
  have HF := Lib.hid hF; clear hF
  go_simp
  exact ⟨RS.refl _ _, hI, HF.out⟩
 refine val_cons ?_ (fun v10 => ?_)
 ·intro L vs w1 hvs hat hb hI hF; try simp [factsI, Region.binds, Is] at hF
  have h13 := hat.later 9 13 (by kernel_rfl)
  rw [h13] at hI
  obtain ⟨u, rfl, hO⟩ := hF
  go_simp
  first | exact ⟨RS.refl _ _, hI.x⟩ | exact ⟨RS.refl _ _, hI.x, hO⟩
 refine val_cons ?_ (fun v11 => ?_)
 ·intro L vs w1 hvs hat hb hI hF; try simp [factsI, Region.binds, Is] at hF
  obtain ⟨u, rfl, hO⟩ := hF
  go_simp
  exact ⟨RS.refl _ _, hI⟩
 refine val_cons ?_ (fun v12 => ?_)
 ·intro L vs w1 hvs hat hb hI hF; try simp [factsI, Region.binds, Is] at hF
  have h13 := hat.later 9 13 (by kernel_rfl)
  go_simp
  exact ⟨RS.grows (bel_alloc (bel_refl _) _) hb.1.size, I5.made hb.1.size, trivial⟩
 refine val_cons ?_ (fun v13 => ?_)
 ·intro L vs w1 hvs hat hb hI hF; try simp [factsI, Region.binds, Is] at hF
  have h12 := hat.ahead 9 12 (by kernel_rfl)
  have h13 := hat.self
  have h10 := hat.ahead 9 10 (by kernel_rfl)
  have hv12 : vs 12 = v12 := hvs 12 (by omega)
  have hv10 : vs 10 = v10 := hvs 10 (by omega)
  have hP : OutP [aC2, aC1, aD1] v10 w1 := hF.2.1
  obtain ⟨k, hk, hBk, h0, _⟩ := hI h12
  obtain ⟨p, m, e, q, n, c, base, hv, _⟩ := hP
  have hbk := h0 h13
  rw [hv12] at hk
  rw [hv] at hv10
  subst hk
  subst hv
  have r0 := hbk.row
  have HW := Lib.hid hbk.rw
  have HBK := Lib.hid hbk
  rw [← HW.out]
  clear hF hI h0 hbk
  go_simp
  rw [HW.out]
  exact ⟨rs_row HBK.out hBk, fun _ => ⟨k, hv12, hBk, fun e => (by cases e), fun _ => ⟨p, m, e, q, n, c, hv10, HBK.out.rowS _⟩⟩, trivial⟩
 refine val_cons ?_ (fun v14 => ?_)
 ·intro L vs w1 hvs hat hb hI hF; try simp [factsI, Region.binds, Is] at hF
  have h11 := hF.1
  subst h11
  go_simp
  exact ⟨RS.refl _ _, hI⟩
 refine val_nil ?_
 intro vs w1 hvs hb hI hF
 simp [Is, Nat.forall_lt_succ_right] at hF
 have e0 := hF.1.1.1.1.1.1.1.1.1.1.1.1.1.1
 have e1 := hF.1.1.1.1.1.1.1.1.1.1.1.1.1.2
 have e2 := hF.1.1.1.1.1.1.1.1.1.1.1.1.2
 have e3 := hF.1.1.1.1.1.1.1.1.1.1.1.2
 have e4 := hF.1.1.1.1.1.1.1.1.1.1.2
 have e5 := hF.1.1.1.1.1.1.1.1.1.2
 have e6 := hF.1.1.1.1.1.1.1.1.2
 have e7 := hF.1.1.1.1.1.1.1.2
 have e8 := hF.1.1.1.1.1.1.2
 have e9 := hF.1.1.1.1.1.2
 have e10 := hF.1.1.1.1.2
 have e11 := hF.1.1.1.2
 have e12 := hF.1.1.2
 have e13 := hF.1.2
 have e14 := hF.2
 clear hF
 simp only [Act.put, List.setIfInBounds_toArray, List.set_cons_succ, List.set_cons_zero, e0, e1, e4, e5, e11, e14]
 clear e0 e1 e4 e5 e11 e14
 have hv12 : vs 12 = v12 := hvs 12 (by omega)
 have hv10 : vs 10 = v10 := hvs 10 (by omega)
 obtain ⟨B9, hk, hBk, _, h1⟩ := hI rfl
 obtain ⟨p9, m9, e9', q9, n9, k9, hx9, hbk9⟩ := h1 rfl
 obtain ⟨p, m, e, q, n, c, base9, hv, hO9⟩ := e10
 rw [hv12] at hk
 rw [hv10, hv] at hx9
 have hxx : (p = p9 ∧ m = m9 ∧ e = e9') ∧ (q = q9 ∧ n = n9 ∧ c = k9) := by simpa using hx9
 obtain ⟨⟨rfl, rfl, rfl⟩, rfl, rfl, rfl⟩ := hxx
 have K9 : Kept B9 p m e q n c [aC2, aC1, aD1] w1 := ⟨hbk9, hO9.sl⟩
 replace F := F.grow hb.1
 replace K5 := K5.grow hb.1
 replace hB := bel_trans hB hb.1
 subst hk
 subst hv
 clear h1 hbk9 hO9 hx9 hv10 hv12 hI hvs e2 e3 e6 e7 e8 e9 e12 e13 hb hBk
 clear c1 c2 c3 c4 l1 l2 l3 l4
 have c1 := F.c1.cell
 have c2 := F.c2.cell
 have c3 := F.d1.cell
 have c4 := F.d2.cell
 have l1 := F.c1.lt
 have l2 := F.c2.lt
 have l3 := F.d1.lt
 have l4 := F.d2.lt
 go_wp2_with fail
 clear c1 c2 c3 c4 l1 l2 l3 l4
 refine (ofP (acts := [aC1]) _ _ _ _ ?sl).mono ?_
 case sl => exact sl_n1 blk_by
 rintro e w7 ⟨h, rfl, hP6, hb⟩
 have hbb : Below w1.heap.size w1 w7 := bel_trans bel_by hb
 replace F := F.grow hbb
 replace K5 := K5.grow hbb
 replace K9 := K9.grow hbb
 replace hB := bel_trans hB hbb
 clear hb hbb
 go_wp2_with fail
 refine (HCUT.out _ _).mono ?_
 rintro e w8 ⟨rfl, hb⟩
 replace F := F.grow hb
 replace K5 := K5.grow hb
 replace K9 := K9.grow hb
 replace hP6 := hP6.mono hb
 replace hB := bel_trans hB hb
 clear hb
 go_wp2_with fail
 refine (ofP (acts := [aC3]) _ _ _ _ ?sl).mono ?_
 case sl => exact sl_n3 blk_by
 rintro e w9 ⟨h, rfl, hP7, hb⟩
 have hbb : Below w8.heap.size w8 w9 := bel_trans bel_by hb
 replace F := F.grow hbb
 replace K5 := K5.grow hbb
 replace K9 := K9.grow hbb
 replace hB := bel_trans hB hbb
 replace hP6 := hP6.mono hbb
 clear hb hbb
 go_wp2_with fail
 refine (aliveClash _ _ _ hP6 hP7).mono ?_
 rintro e w10 ⟨rfl, hb⟩
 replace F := F.grow hb
 replace K5 := K5.grow hb
 replace K9 := K9.grow hb
 replace hB := bel_trans hB hb
 clear hb hP6 hP7
 have c1 := F.c1.cell
 have c2 := F.c2.cell
 have c3 := F.d1.cell
 have c4 := F.d2.cell
 have l1 := F.c1.lt
 have l2 := F.c2.lt
 have l3 := F.d1.lt
 have l4 := F.d2.lt
 go_wp2_with fail
 clear c1 c2 c3 c4 l1 l2 l3 l4
 refine (ofP (acts := [aD1, aC1, aD2, aC2]) _ _ _ _ ?sl).mono ?_
 case sl => exact sl_n3142 blk_by
 rintro e w11 ⟨h, rfl, hP8, hb⟩
 have hbb : Below w10.heap.size w10 w11 := bel_trans bel_by hb
 replace F := F.grow hbb
 replace K5 := K5.grow hbb
 replace K9 := K9.grow hbb
 replace hB := bel_trans hB hbb
 clear hb hbb
 go_wp2_with fail
 refine (aliveReduced _ _ hP8).mono ?_
 rintro e w12 ⟨u, rfl, hO, hb⟩
 replace F := F.grow hb
 replace K5 := K5.grow hb
 replace K9 := K9.grow hb
 replace hB := bel_trans hB hb
 clear hb hP8
 obtain ⟨p13, m13, e13, q13, n13, k13, base13, rfl, hO13⟩ := hO
 have c1 := F.c1.cell
 have c2 := F.c2.cell
 have c3 := F.d1.cell
 have c4 := F.d2.cell
 have l1 := F.c1.lt
 have l2 := F.c2.lt
 have l3 := F.d1.lt
 have l4 := F.d2.lt
 go_wp2_with fail
 clear c1 c2 c3 c4 l1 l2 l3 l4
 refine (ofP (acts := [aC2, aD1]) _ _ _ _ ?sl).mono ?_
 case sl => exact sl_n23 blk_by
 rintro e w13 ⟨h, rfl, hP9, hb⟩
 have hbb : Below w12.heap.size w12 w13 := bel_trans bel_by hb
 replace F := F.grow hbb
 replace K5 := K5.grow hbb
 replace K9 := K9.grow hbb
 replace hB := bel_trans hB hbb
 have K13 : Kept w12.heap.size p13 m13 e13 q13 n13 k13 [aC2, aC1] w13 := ⟨Blk.grow blk_by hb, hO13.sl.mono hbb⟩
 clear hb hbb hO13
 generalize w12.heap.size = B13 at *
 go_wp2_with fail
 refine (aliveStand _ _ hP9).mono ?_
 rintro e w14 ⟨rfl, hb⟩
 replace F := F.grow hb
 replace K5 := K5.grow hb
 replace K9 := K9.grow hb
 replace K13 := K13.grow hb
 replace hB := bel_trans hB hb
 clear hb hP9
 have c1 := F.c1.cell
 have c2 := F.c2.cell
 have c3 := F.d1.cell
 have c4 := F.d2.cell
 have l1 := F.c1.lt
 have l2 := F.c2.lt
 have l3 := F.d1.lt
 have l4 := F.d2.lt
 go_wp2_with fail
 clear c1 c2 c3 c4 l1 l2 l3 l4
 refine (ofP (acts := [aC1, aC2, aD1, aD2]) _ _ _ _ ?sl).mono ?_
 case sl => exact sl_n1234 blk_by
 rintro e w15 ⟨h, rfl, hPa, hb⟩
 have hbb : Below w14.heap.size w14 w15 := bel_trans bel_by hb
 replace F := F.grow hbb
 replace K5 := K5.grow hbb
 replace K9 := K9.grow hbb
 replace K13 := K13.grow hbb
 replace hB := bel_trans hB hbb
 have K15 : Blk w15 w14.heap.size #[.int .u64 252645134, .int .u64 1, .int .u64 0, .int .u64 0, .int .u64 0, .int .u64 0, .int .u64 0, .int .u64 0, .int .u8 1] 37 := Blk.grow blk_by hb
 clear hb hbb
 generalize w14.heap.size = B15 at *
 go_wp2_with fail
 refine (aliveNeeds _ _ hPa).mono ?_
 rintro e w16 ⟨u, rfl, hS17, hb⟩
 replace F := F.grow hb
 replace K5 := K5.grow hb
 replace K9 := K9.grow hb
 replace K13 := K13.grow hb
 replace K15 := K15.grow hb
 replace hB := bel_trans hB hb
 clear hb hPa
 obtain ⟨p17, k17, rfl, _⟩ := id hS17
 have c1 := F.c1.cell
 have c2 := F.c2.cell
 have c3 := F.d1.cell
 have c4 := F.d2.cell
 have l1 := F.c1.lt
 have l2 := F.c2.lt
 have l3 := F.d1.lt
 have l4 := F.d2.lt
 go_wp2_with fail
 clear c1 c2 c3 c4 l1 l2 l3 l4
 refine (aliveWrite _ ((hB.cell (p := ⟨5, 15, none⟩) HT5.out).trans HT.out)).mono ?_
 rintro e w17 ⟨rfl, hb⟩
 replace F := F.grow hb
 replace K5 := K5.grow hb
 replace K9 := K9.grow hb
 replace K13 := K13.grow hb
 replace K15 := K15.grow hb
 replace hB := bel_trans hB hb
 replace hS17 := hS17.mono hb
 clear hb
 have c5 := K5.blk.cell
 have l5 := K5.blk.lt
 have c1 := F.c1.cell
 have c2 := F.c2.cell
 have c3 := F.d1.cell
 have c4 := F.d2.cell
 have l1 := F.c1.lt
 have l2 := F.c2.lt
 have l3 := F.d1.lt
 have l4 := F.d2.lt
 go_wp2_with fail
 clear c1 c2 c3 c4 l1 l2 l3 l4
 clear c5 l5
 refine (EqualAc_spec _ _ [aC2, aC1, aD1] [aC2, aC1, aD1] _ ?s1 ?s2).mono ?_
 case s1 => exact K5.sl.mono bel_by
 case s2 => exact sl_n213 blk_by
 rintro e w18 ⟨rfl, hb⟩
 have hbb : Below w17.heap.size w17 w18 := bel_trans bel_by hb
 rw [show ([aC2, aC1, aD1] == [aC2, aC1, aD1]) = true from by decide +kernel]
 replace F := F.grow hbb
 replace K5 := K5.grow hbb
 replace K9 := K9.grow hbb
 replace K13 := K13.grow hbb
 replace K15 := K15.grow hbb
 replace hB := bel_trans hB hbb
 replace hS17 := hS17.mono hbb
 clear hb hbb
 have c5 := K9.blk.cell
 have l5 := K9.blk.lt
 have c1 := F.c1.cell
 have c2 := F.c2.cell
 have c3 := F.d1.cell
 have c4 := F.d2.cell
 have l1 := F.c1.lt
 have l2 := F.c2.lt
 have l3 := F.d1.lt
 have l4 := F.d2.lt
 go_wp2_with fail
 clear c1 c2 c3 c4 l1 l2 l3 l4
 clear c5 l5
 refine (EqualAc_spec _ _ [aC2, aC1, aD1] [aC2, aC1, aD1] _ ?s1 ?s2).mono ?_
 case s1 => exact K9.sl.mono bel_by
 case s2 => exact sl_n213 blk_by
 rintro e w19 ⟨rfl, hb⟩
 have hbb : Below w18.heap.size w18 w19 := bel_trans bel_by hb
 rw [show ([aC2, aC1, aD1] == [aC2, aC1, aD1]) = true from by decide +kernel]
 replace F := F.grow hbb
 replace K5 := K5.grow hbb
 replace K9 := K9.grow hbb
 replace K13 := K13.grow hbb
 replace K15 := K15.grow hbb
 replace hB := bel_trans hB hbb
 replace hS17 := hS17.mono hbb
 clear hb hbb
 have c5 := K13.blk.cell
 have l5 := K13.blk.lt
 have c1 := F.c1.cell
 have c2 := F.c2.cell
 have c3 := F.d1.cell
 have c4 := F.d2.cell
 have l1 := F.c1.lt
 have l2 := F.c2.lt
 have l3 := F.d1.lt
 have l4 := F.d2.lt
 go_wp2_with fail
 clear c1 c2 c3 c4 l1 l2 l3 l4
 clear c5 l5
 refine (EqualAc_spec _ _ [aC2, aC1] [aC2, aC1] _ ?s1 ?s2).mono ?_
 case s1 => exact K13.sl.mono bel_by
 case s2 => exact sl_n21 blk_by
 rintro e w20 ⟨rfl, hb⟩
 have hbb : Below w19.heap.size w19 w20 := bel_trans bel_by hb
 rw [show ([aC2, aC1] == [aC2, aC1]) = true from by decide +kernel]
 replace F := F.grow hbb
 replace K5 := K5.grow hbb
 replace K9 := K9.grow hbb
 replace K13 := K13.grow hbb
 replace K15 := K15.grow hbb
 replace hB := bel_trans hB hbb
 replace hS17 := hS17.mono hbb
 clear hb hbb
 have c15 := K15.cell
 have l15 := K15.lt
 go_wp2_with fail
 refine (EqualInt_spec _ _ [2] [2] _ ?s1 ?s2).mono ?_
 case s1 => exact hS17.mono bel_by
 case s2 => exact Sl.ofBlk (t := 3) (c := #[.int .i64 2]) blk_by rfl (by decide) (by simp [intL]) rfl
 rintro e w21 ⟨rfl, hb⟩
 have hbb : Below w20.heap.size w20 w21 := bel_trans bel_by hb
 replace hB := bel_trans hB hbb
 rw [show (([2] : List Int) == [2]) = true from by decide +kernel]
 clear hb hbb c15 l15
 go_wp2_with fail
 refine bodyPost_ret (v := .bool true) (by simp [results, Tryz.results20, go_sem]) rfl ⟨rfl, hB⟩
end Go.Proofs.YtccnkebkgegohaaGreatDoor
end
