import Derived.Test.YtlbhjikkpbknnaaGreatDoorG06
import Derived.OwnWalk
import Derived.Maps.AppendAt
/-
  Given contracts of functions of the program, and laws for them, one behind the other.
-/
set_option linter.unusedVariables false
set_option linter.unusedSimpArgs false
set_option linter.unusedSectionVars false
section
namespace Go.Proofs.YtlbhjikkpbknnaaGreatDoor
open Go.RowKit Go.Rel Go.Draw
set_option maxRecDepth 100000
/-! an array of eight words, indexed -/
@[go_sem] theorem idxB0 (a0 a1 a2 a3 a4 a5 a6 a7 : Int) (w : World) : (Instr.index 93 (.agg #[.int .u64 a0, .int .u64 a1, .int .u64 a2, .int .u64 a3, .int .u64 a4, .int .u64 a5, .int .u64 a6, .int .u64 a7]) (.int .i64 0)).run Tryz.prog w = .ok (.int .u64 a0) w := by kernel_rfl
@[go_sem] theorem idxB1 (a0 a1 a2 a3 a4 a5 a6 a7 : Int) (w : World) : (Instr.index 93 (.agg #[.int .u64 a0, .int .u64 a1, .int .u64 a2, .int .u64 a3, .int .u64 a4, .int .u64 a5, .int .u64 a6, .int .u64 a7]) (.int .i64 1)).run Tryz.prog w = .ok (.int .u64 a1) w := by kernel_rfl
@[go_sem] theorem idxB2 (a0 a1 a2 a3 a4 a5 a6 a7 : Int) (w : World) : (Instr.index 93 (.agg #[.int .u64 a0, .int .u64 a1, .int .u64 a2, .int .u64 a3, .int .u64 a4, .int .u64 a5, .int .u64 a6, .int .u64 a7]) (.int .i64 2)).run Tryz.prog w = .ok (.int .u64 a2) w := by kernel_rfl
@[go_sem] theorem idxB3 (a0 a1 a2 a3 a4 a5 a6 a7 : Int) (w : World) : (Instr.index 93 (.agg #[.int .u64 a0, .int .u64 a1, .int .u64 a2, .int .u64 a3, .int .u64 a4, .int .u64 a5, .int .u64 a6, .int .u64 a7]) (.int .i64 3)).run Tryz.prog w = .ok (.int .u64 a3) w := by kernel_rfl
@[go_sem] theorem idxB4 (a0 a1 a2 a3 a4 a5 a6 a7 : Int) (w : World) : (Instr.index 93 (.agg #[.int .u64 a0, .int .u64 a1, .int .u64 a2, .int .u64 a3, .int .u64 a4, .int .u64 a5, .int .u64 a6, .int .u64 a7]) (.int .i64 4)).run Tryz.prog w = .ok (.int .u64 a4) w := by kernel_rfl
@[go_sem] theorem idxB5 (a0 a1 a2 a3 a4 a5 a6 a7 : Int) (w : World) : (Instr.index 93 (.agg #[.int .u64 a0, .int .u64 a1, .int .u64 a2, .int .u64 a3, .int .u64 a4, .int .u64 a5, .int .u64 a6, .int .u64 a7]) (.int .i64 5)).run Tryz.prog w = .ok (.int .u64 a5) w := by kernel_rfl
@[go_sem] theorem idxB6 (a0 a1 a2 a3 a4 a5 a6 a7 : Int) (w : World) : (Instr.index 93 (.agg #[.int .u64 a0, .int .u64 a1, .int .u64 a2, .int .u64 a3, .int .u64 a4, .int .u64 a5, .int .u64 a6, .int .u64 a7]) (.int .i64 6)).run Tryz.prog w = .ok (.int .u64 a6) w := by kernel_rfl
@[go_sem] theorem idxB7 (a0 a1 a2 a3 a4 a5 a6 a7 : Int) (w : World) : (Instr.index 93 (.agg #[.int .u64 a0, .int .u64 a1, .int .u64 a2, .int .u64 a3, .int .u64 a4, .int .u64 a5, .int .u64 a6, .int .u64 a7]) (.int .i64 7)).run Tryz.prog w = .ok (.int .u64 a7) w := by kernel_rfl
end Go.Proofs.YtlbhjikkpbknnaaGreatDoor
end
section
namespace Go.Proofs.YtlbhjikkpbknnaaGreatDoor
open Go.RowKit Go.Rel Go.Draw
set_option maxRecDepth 100000
/-! sets of pieces, and planes, as the numbers that the model has -/
def uI (p : U) : Int := (p.toNat : Int)
theorem uI_nonneg (p : U) : 0 ≤ uI p := by unfold uI; omega
theorem uI_lt (p : U) : uI p < 18446744073709551616 := by unfold uI; have := p.isLt; omega
theorem uI_inj {p q : U} : uI p = uI q ↔ p = q := by unfold uI; rw [Int.ofNat_inj, BitVec.toNat_inj]
theorem uI_zero : uI 0 = 0 := rfl
theorem uI_one : uI 1 = 1 := rfl
theorem ofInt_uI (p : U) : BitVec.ofInt 64 (uI p) = p := by
 unfold uI; rw [BitVec.ofInt_natCast, BitVec.ofNat_toNat]; simp
theorem wrap_uI (p : U) : IntKind.u64.wrap (uI p) = uI p := IntWalk.u64_in _ (by have := uI_nonneg p; have := uI_lt p; omega)
theorem bits_and_u (a b : U) : bits .and .u64 (uI a) (uI b) = uI (a &&& b) := by
 show IntKind.u64.wrap ((BitVec.ofInt 64 (uI a) &&& BitVec.ofInt 64 (uI b)).toNat : Int) = _
 rw [ofInt_uI, ofInt_uI]; exact wrap_uI _
theorem bits_or_u (a b : U) : bits .or .u64 (uI a) (uI b) = uI (a ||| b) := by
 show IntKind.u64.wrap ((BitVec.ofInt 64 (uI a) ||| BitVec.ofInt 64 (uI b)).toNat : Int) = _
 rw [ofInt_uI, ofInt_uI]; exact wrap_uI _
theorem bits_andNot_u (a b : U) : bits .andNot .u64 (uI a) (uI b) = uI (a &&& ~~~b) := by
 show IntKind.u64.wrap ((BitVec.ofInt 64 (uI a) &&& ~~~(BitVec.ofInt 64 (uI b))).toNat : Int) = _
 rw [ofInt_uI, ofInt_uI]; exact wrap_uI _
theorem beq_u (a b : U) : (uI a == uI b) = (a == b) := by
 rw [Bool.eq_iff_iff, beq_iff_eq, beq_iff_eq]; exact uI_inj
theorem beq_u0 (a : U) : (uI a == 0) = (a == 0) := beq_u a 0
theorem bne_u0 (a : U) : (uI a != 0) = (a != 0) := by unfold bne; rw [beq_u0]
theorem pl_uI (s : Sol) (k : Nat) : pl s k = uI (plv s k) := by unfold pl; rfl
theorem uI_lit (n : Nat) (h : n < 18446744073709551616) : ((n : Nat) : Int) = uI (BitVec.ofNat 64 n) := by
 unfold uI; rw [BitVec.toNat_ofNat, Nat.mod_eq_of_lt h]
theorem shl_u (p : U) (n : Nat) : IntKind.u64.wrap (uI p * ((2 ^ n : Nat) : Int)) = uI (p <<< n) := by
 have h1 : uI p * ((2 ^ n : Nat) : Int) = ((p.toNat * 2 ^ n : Nat) : Int) := by unfold uI; rw [Int.natCast_mul]
 have h2 : IntKind.u64.wrap ((p.toNat * 2 ^ n : Nat) : Int) = ((p.toNat * 2 ^ n % 2 ^ 64 : Nat) : Int) := by
  have e : ∀ x : Int, IntKind.u64.wrap x = x % 18446744073709551616 := fun x => by
   unfold IntKind.wrap
   rw [if_neg (by simp [IntKind.signed])]
   rfl
  rw [e, Int.natCast_emod]; rfl
 rw [h1, h2]
 unfold uI
 rw [BitVec.toNat_shiftLeft, Nat.shiftLeft_eq]
theorem shr_u (p : U) (n : Nat) : uI p / ((2 ^ n : Nat) : Int) = uI (p >>> n) := by
 unfold uI
 rw [BitVec.toNat_ushiftRight, Nat.shiftRight_eq_div_pow, Int.natCast_ediv]
theorem u_hiX : (9259542123273814144 : Int) = uI hiXP := by unfold uI; rfl
theorem u_lowX : (72340172838076673 : Int) = uI lowXP := by unfold uI; rfl
theorem u_lowY : (255 : Int) = uI 0xff#64 := by unfold uI; rfl
attribute [irreducible] uI
theorem uon1 (p : U) : IntKind.u64.wrap (bits .andNot .u64 (uI p) 9259542123273814144 * 2) = uI (onP 1 p) := by rw [u_hiX, bits_andNot_u]; exact shl_u _ 1
theorem uoff1 (p : U) : bits .and .u64 (uI p) 9259542123273814144 = uI (offP 1 p) := by rw [u_hiX, bits_and_u]; rfl
theorem uon2 (p : U) : IntKind.u64.wrap (uI p * 256) = uI (onP 2 p) := shl_u _ 8
theorem uoff2 (p : U) : uI p / 72057594037927936 = uI (offP 2 p) := shr_u _ 56
theorem uon3 (p : U) : bits .andNot .u64 (uI p) 72340172838076673 / 2 = uI (onP 3 p) := by rw [u_lowX, bits_andNot_u]; exact shr_u _ 1
theorem uoff3 (p : U) : bits .and .u64 (uI p) 72340172838076673 = uI (offP 3 p) := by rw [u_lowX, bits_and_u]; rfl
theorem uon4 (p : U) : uI p / 256 = uI (onP 4 p) := shr_u _ 8
theorem uoff4 (p : U) : bits .and .u64 (uI p) 255 = uI (offP 4 p) := by rw [u_lowY, bits_and_u]; rfl
set_option maxHeartbeats 400000 in
theorem east1_spec (p : U) (w : World) : Calls Tryz.prog 168 #[.int .u64 (uI p)] w fun e w' => e = .returned (.tuple #[.int .u64 (uI (onP 1 p)), .int .u64 (uI (offP 1 p))]) ∧ w' = w := by
 go_enter Tryz.func168, Tryz.ntmps168
 go_wp2
 rw [uon1, uoff1]
 exact bodyPost_ret (v := .tuple #[.int .u64 (uI (onP 1 p)), .int .u64 (uI (offP 1 p))]) (by simp [results, Tryz.results168, go_sem]) rfl ⟨rfl, rfl⟩
set_option maxHeartbeats 400000 in
theorem south1_spec (p : U) (w : World) : Calls Tryz.prog 169 #[.int .u64 (uI p)] w fun e w' => e = .returned (.tuple #[.int .u64 (uI (onP 2 p)), .int .u64 (uI (offP 2 p))]) ∧ w' = w := by
 go_enter Tryz.func169, Tryz.ntmps169
 go_wp2
 rw [uon2, uoff2]
 exact bodyPost_ret (v := .tuple #[.int .u64 (uI (onP 2 p)), .int .u64 (uI (offP 2 p))]) (by simp [results, Tryz.results169, go_sem]) rfl ⟨rfl, rfl⟩
set_option maxHeartbeats 400000 in
theorem west1_spec (p : U) (w : World) : Calls Tryz.prog 170 #[.int .u64 (uI p)] w fun e w' => e = .returned (.tuple #[.int .u64 (uI (onP 3 p)), .int .u64 (uI (offP 3 p))]) ∧ w' = w := by
 go_enter Tryz.func170, Tryz.ntmps170
 go_wp2
 rw [uon3, uoff3]
 exact bodyPost_ret (v := .tuple #[.int .u64 (uI (onP 3 p)), .int .u64 (uI (offP 3 p))]) (by simp [results, Tryz.results170, go_sem]) rfl ⟨rfl, rfl⟩
set_option maxHeartbeats 400000 in
theorem north1_spec (p : U) (w : World) : Calls Tryz.prog 171 #[.int .u64 (uI p)] w fun e w' => e = .returned (.tuple #[.int .u64 (uI (onP 4 p)), .int .u64 (uI (offP 4 p))]) ∧ w' = w := by
 go_enter Tryz.func171, Tryz.ntmps171
 go_wp2
 rw [uon4, uoff4]
 exact bodyPost_ret (v := .tuple #[.int .u64 (uI (onP 4 p)), .int .u64 (uI (offP 4 p))]) (by simp [results, Tryz.results171, go_sem]) rfl ⟨rfl, rfl⟩
end Go.Proofs.YtlbhjikkpbknnaaGreatDoor
end
section
namespace Go.Proofs.YtlbhjikkpbknnaaGreatDoor
open Go.RowKit Go.Rel Go.Draw
set_option maxRecDepth 100000
abbrev intL (i : Int) : List Value := [.int .i64 i]
abbrev SlI (w : World) (v : Value) (l : List Int) : Prop := Sl w 1 v (l.map intL)
theorem int_cell {w : World} {b off : Nat} {l : List Int} (h : Cells w b off 1 (l.map intL)) {k : Nat} {x : Int} (hx : l[k]? = some x) : w.cell? ⟨b, off + k, none⟩ = some (.int .i64 x) := by
 have := h.2 k 0 (.int .i64 x) (by simp [hx])
 simpa using this
theorem infoInt : (Tryz.prog.info? 3).map (fun i => (i.zero, i.size, i.bytes)) = some (some (.int .i64 0), 1, 8) := by kernel_rfl
theorem infoUint : (Tryz.prog.info? 81).map (fun i => (i.zero, i.size, i.bytes)) = some (some (.int .u64 0), 1, 8) := by kernel_rfl
theorem infoMove : (Tryz.prog.info? 25).map (fun i => (i.zero, i.size, i.bytes)) = some (some (.agg #[.int .i64 0, .int .i64 0, .int .i64 0]), 3, 24) := by kernel_rfl
theorem infoBody : (Tryz.prog.info? 93).map (fun i => (i.zero, i.size, i.bytes)) = some (some (.agg #[.int .u64 0, .int .u64 0, .int .u64 0, .int .u64 0, .int .u64 0, .int .u64 0, .int .u64 0, .int .u64 0]), 8, 64) := by kernel_rfl
theorem infoSolid : (Tryz.prog.info? 64).map (fun i => (i.zero, i.size, i.bytes)) = some (some (.agg #[.int .u64 0, .int .u64 0, .int .u64 0, .int .u64 0, .int .u64 0, .int .u64 0, .int .u64 0, .int .u64 0]), 8, 64) := by kernel_rfl
theorem infoInts : (Tryz.prog.info? 23).map (fun i => (i.zero, i.size, i.bytes)) = some (some (.slice none 0 0), 1, 24) := by kernel_rfl
/-- a list of numbers in memory of one's own -/
abbrev OwnI (W : World) (base : Nat) (v : Value) (l : List Int) : Prop := W.ownsRow base 3 1 v l.length (l.map (Value.int .i64))
/-- a list of sets in memory of one's own -/
abbrev OwnU (W : World) (base : Nat) (v : Value) (l : List U) : Prop := W.ownsRow base 81 1 v l.length (l.map fun s => Value.int .u64 (uI s))
abbrev uL (s : U) : List Value := [.int .u64 (uI s)]
abbrev SlU (w : World) (v : Value) (l : List U) : Prop := Sl w 1 v (l.map uL)
/-- moves -/
abbrev Mo := Nat × Nat × Nat
abbrev mvV (x : Mo) : Value := .agg #[.int .i64 (x.1 : Int), .int .i64 (x.2.1 : Int), .int .i64 (x.2.2 : Int)]
abbrev mvL (x : Mo) : List Value := [.int .i64 (x.1 : Int), .int .i64 (x.2.1 : Int), .int .i64 (x.2.2 : Int)]
abbrev SlM (w : World) (v : Value) (l : List Mo) : Prop := Sl w 3 v (l.map mvL)
abbrev OwnM (W : World) (base : Nat) (v : Value) (l : List Mo) : Prop := W.ownsRow base 25 3 v l.length (l.map mvL).flatten
abbrev OwnB (W : World) (base : Nat) (v : Value) (l : List Sol) : Prop := W.ownsRow base 93 8 v l.length (l.map solL).flatten
/-- a list of slices in memory of one's own -/
abbrev OwnL (W : World) (base : Nat) (v : Value) (vs : List Value) : Prop := W.ownsRow base 23 1 v vs.length vs
theorem own_shape' {w : World} {base : Nat} {e : TypeId} {size : Nat} {v : Value} {n : Nat} {xs : List Value} (h : w.ownsRow base e size v n xs) : ∃ p c, v = .slice p n c ∧ n ≤ c ∧ c ≤ 9223372036854775807 := by
 rcases h.2 with ⟨rfl, rfl⟩ | ⟨g, cap, cur, rfl, _, _, h1, h2, _⟩
 ·exact ⟨_, _, rfl, Nat.le_refl _, by omega⟩
 ·exact ⟨_, _, rfl, h1, by unfold maxLen at h2; omega⟩
theorem own_weak {w : World} {base base' : Nat} {e : TypeId} {size : Nat} {v : Value} {n : Nat} {xs : List Value} (h : w.ownsRow base e size v n xs) (hb : base' ≤ base) : w.ownsRow base' e size v n xs := by
 refine ⟨h.1, ?_⟩
 rcases h.2 with h | ⟨g, cap, cur, e, hbg, rest⟩
 ·exact .inl h
 ·exact .inr ⟨g, cap, cur, e, Nat.le_trans hb hbg, rest⟩
theorem own_sl {w : World} {base : Nat} {e : TypeId} {size : Nat} {v : Value} {xs : List Value} {ls : List (List Value)} (hs : ∀ r ∈ ls, r.length = size) (hx : ls.flatten = xs) (h : w.ownsRow base e size v ls.length xs) : Sl w size v ls := by
 rcases h.2 with ⟨rfl, h0⟩ | ⟨g, cap, cur, rfl, hb, hg, hnc, hcm, hcs, htake⟩
 ·have : ls = [] := List.eq_nil_of_length_eq_zero h0
  subst this
  exact ⟨none, 0, rfl, Nat.le_refl _, by omega, .inl rfl⟩
 ·refine ⟨some ⟨g, 0, none⟩, cap, rfl, hnc, by unfold maxLen at hcm; omega, .inr ⟨g, 0, rfl, (Array.getElem?_eq_some_iff.1 hg).1, fun i j u hu => ?_⟩⟩
  rw [Nat.zero_add, cell_of_row w g _ cur e (0, 0) hg]
  have key : ∀ (ls : List (List Value)) (i j : Nat) (u : Value), (∀ r ∈ ls, r.length = size) → (ls[i]?).bind (·[j]?) = some u → (ls.flatten)[i * size + j]? = some u := by
   intro ls
   induction ls with
   | nil => intro i j u _ h; simp at h
   | cons r rest ih =>
    intro i j u hr h
    have hrl : r.length = size := hr r (by simp)
    cases i with
    | zero =>
     have h' : r[j]? = some u := by simpa using h
     have hj : j < r.length := (List.getElem?_eq_some_iff.1 h').1
     simp only [List.flatten_cons, Nat.zero_mul, Nat.zero_add]
     rw [List.getElem?_append_left hj]; exact h'
    | succ i =>
     have h' : (rest[i]?).bind (·[j]?) = some u := by simpa using h
     have := ih i j u (fun r' h' => hr r' (by simp [h'])) h'
     simp only [List.flatten_cons]
     rw [List.getElem?_append_right (by rw [hrl, Nat.add_mul]; omega), hrl, show (i + 1) * size + j - size = i * size + j by rw [Nat.add_mul]; omega]
     exact this
  have h1 := key ls i j u hs hu
  rw [hx, ← htake, List.getElem?_take] at h1
  split at h1
  ·rw [← Array.getElem?_toList]; exact h1
  ·cases h1
theorem flat_int (l : List Int) : (l.map intL).flatten = l.map (Value.int .i64) := by
 induction l with
 | nil => rfl
 | cons a l ih => simp [ih]
theorem OwnI.sl {W : World} {base : Nat} {v : Value} {l : List Int} (h : OwnI W base v l) : SlI W v l :=
 own_sl (fun r hr => by obtain ⟨i, _, rfl⟩ := List.mem_map.1 hr; rfl) (flat_int l) (by rw [List.length_map]; exact h)
theorem flat_u (l : List U) : (l.map uL).flatten = l.map fun s => Value.int .u64 (uI s) := by
 induction l with
 | nil => rfl
 | cons a l ih => simp [ih]
theorem OwnU.sl {W : World} {base : Nat} {v : Value} {l : List U} (h : OwnU W base v l) : SlU W v l :=
 own_sl (fun r hr => by obtain ⟨i, _, rfl⟩ := List.mem_map.1 hr; rfl) (flat_u l) (by rw [List.length_map]; exact h)
theorem OwnM.sl {W : World} {base : Nat} {v : Value} {l : List Mo} (h : OwnM W base v l) : SlM W v l :=
 own_sl (fun r hr => by obtain ⟨i, _, rfl⟩ := List.mem_map.1 hr; rfl) rfl (by rw [List.length_map]; exact h)
theorem OwnB.sl {W : World} {base : Nat} {v : Value} {l : List Sol} (h : OwnB W base v l) : SlS W v l :=
 own_sl (fun r hr => by obtain ⟨i, _, rfl⟩ := List.mem_map.1 hr; rfl) rfl (by rw [List.length_map]; exact h)
theorem flat_sing : ∀ vs : List Value, (vs.map fun x => [x]).flatten = vs
 | [] => rfl
 | v :: vs => by rw [List.map_cons, List.flatten_cons, flat_sing vs]; rfl
theorem OwnL.sl {W : World} {base : Nat} {v : Value} {vs : List Value} (h : OwnL W base v vs) : Sl W 1 v (vs.map fun x => [x]) :=
 own_sl (fun r hr => by obtain ⟨i, _, rfl⟩ := List.mem_map.1 hr; rfl) (flat_sing vs) (by rw [List.length_map]; exact h)
theorem hmf (fn : Fn) (first cap : Array Value) (w : World) : (Instr.makeFunc fn first cap).run Tryz.prog w = .ok (.func fn first cap) w := rfl
theorem u_cell {w : World} {b off : Nat} {l : List U} (h : Cells w b off 1 (l.map uL)) {k : Nat} {x : U} (hx : l[k]? = some x) : w.cell? ⟨b, off + k, none⟩ = some (.int .u64 (uI x)) := by
 have := h.2 k 0 (.int .u64 (uI x)) (by simp [hx])
 simpa using this
theorem mv_cells {w : World} {b off : Nat} {l : List Mo} (h : Cells w b off 3 (l.map mvL)) {k : Nat} {x : Mo} (hx : l[k]? = some x) : w.cell? ⟨b, off + k * 3, none⟩ = some (.int .i64 (x.1 : Int)) ∧ w.cell? ⟨b, off + k * 3 + 1, none⟩ = some (.int .i64 (x.2.1 : Int)) ∧ w.cell? ⟨b, off + k * 3 + 2, none⟩ = some (.int .i64 (x.2.2 : Int)) :=
 ⟨h.2 k 0 _ (by simp [hx]), h.2 k 1 _ (by simp [hx]), h.2 k 2 _ (by simp [hx])⟩
end Go.Proofs.YtlbhjikkpbknnaaGreatDoor
end
section
namespace Go.Proofs.YtlbhjikkpbknnaaGreatDoor
open Go.RowKit Go.Rel Go.Draw
set_option maxRecDepth 100000
/-! the four sides, up, and whether two bodies meet -/
theorem meets_planes (a b : Sol) : (bits .and .u64 (pl a 0) (pl b 0) != 0 || bits .and .u64 (pl a 1) (pl b 1) != 0 || bits .and .u64 (pl a 2) (pl b 2) != 0 || bits .and .u64 (pl a 3) (pl b 3) != 0 || bits .and .u64 (pl a 4) (pl b 4) != 0 || bits .and .u64 (pl a 5) (pl b 5) != 0 || bits .and .u64 (pl a 6) (pl b 6) != 0 || bits .and .u64 (pl a 7) (pl b 7) != 0) = meets a b := by
 have h := beq_pl (a &&& b) 0
 simp only [pl_zero] at h
 rw [bits_and_pl a b 0, bits_and_pl a b 1, bits_and_pl a b 2, bits_and_pl a b 3, bits_and_pl a b 4, bits_and_pl a b 5, bits_and_pl a b 6, bits_and_pl a b 7]
 unfold meets bne
 rw [← h]
 simp only [Bool.not_and, Bool.or_assoc]
set_option maxHeartbeats 1000000 in
theorem meets_any (a0 a1 a2 a3 a4 a5 a6 a7 b0 b1 b2 b3 b4 b5 b6 b7 : Int) (w : World) :
    Calls Tryz.prog 119 #[.agg #[.int .u64 a0, .int .u64 a1, .int .u64 a2, .int .u64 a3, .int .u64 a4, .int .u64 a5, .int .u64 a6, .int .u64 a7], .agg #[.int .u64 b0, .int .u64 b1, .int .u64 b2, .int .u64 b3, .int .u64 b4, .int .u64 b5, .int .u64 b6, .int .u64 b7]] w fun e w' =>
     e = .returned (.bool (bits .and .u64 a0 b0 != 0 || bits .and .u64 a1 b1 != 0 || bits .and .u64 a2 b2 != 0 || bits .and .u64 a3 b3 != 0 || bits .and .u64 a4 b4 != 0 || bits .and .u64 a5 b5 != 0 || bits .and .u64 a6 b6 != 0 || bits .and .u64 a7 b7 != 0)) ∧ Below w.heap.size w w' := by
  go_enter Tryz.func119, Tryz.ntmps119
  go_wp2
  refine wp_loop_rounds 9 ?_
  iterate 8
    rw [rounds_succ]
    go_wp2
    · refine bodyPost_ret (v := .bool true) (by simp [results, Tryz.results119, go_sem]) rfl ⟨by simp [*], ?_⟩
      repeat first | exact bel_refl _ | refine bel_drew ?_ | refine bel_alloc ?_ _
  rw [rounds_succ]
  go_wp2
  refine bodyPost_ret (v := .bool false) (by simp [results, Tryz.results119, go_sem]) rfl ⟨by simp [*], ?_⟩
  repeat first | exact bel_refl _ | refine bel_drew ?_ | refine bel_alloc ?_ _
theorem meets_spec (a b : Sol) (w : World) : Calls Tryz.prog 119 #[solV a, solV b] w fun e w' => e = .returned (.bool (meets a b)) ∧ Below w.heap.size w w' := by
 refine (meets_any (pl a 0) (pl a 1) (pl a 2) (pl a 3) (pl a 4) (pl a 5) (pl a 6) (pl a 7) (pl b 0) (pl b 1) (pl b 2) (pl b 3) (pl b 4) (pl b 5) (pl b 6) (pl b 7) w).mono ?_
 rintro e w' ⟨rfl, hb⟩
 exact ⟨by rw [meets_planes], hb⟩
end Go.Proofs.YtlbhjikkpbknnaaGreatDoor
end
section
namespace Go.Proofs.YtlbhjikkpbknnaaGreatDoor
open Go.RowKit Go.Rel Go.Draw
set_option maxRecDepth 100000
theorem or_u0 (p : U) : bits .or .u64 0 (uI p) = uI p := by
 have := bits_or_u 0 p
 rw [uI_zero] at this
 rw [this]; simp
theorem sol_planes (b : Sol) : (.agg #[.int .u64 (pl b 0), .int .u64 (pl b 1), .int .u64 (pl b 2), .int .u64 (pl b 3), .int .u64 (pl b 4), .int .u64 (pl b 5), .int .u64 (pl b 6), .int .u64 (pl b 7)] : Value) = .agg #[.int .u64 (uI (plv b 0)), .int .u64 (uI (plv b 1)), .int .u64 (uI (plv b 2)), .int .u64 (uI (plv b 3)), .int .u64 (uI (plv b 4)), .int .u64 (uI (plv b 5)), .int .u64 (uI (plv b 6)), .int .u64 (uI (plv b 7))] := by
 simp only [pl_uI]
set_option maxHeartbeats 4000000 in
theorem each1 (a0 a1 a2 a3 a4 a5 a6 a7 : U) (w : World) : Calls Tryz.prog 167 #[.agg #[.int .u64 (uI a0), .int .u64 (uI a1), .int .u64 (uI a2), .int .u64 (uI a3), .int .u64 (uI a4), .int .u64 (uI a5), .int .u64 (uI a6), .int .u64 (uI a7)], .func (.func 168) #[] #[]] w fun e w' =>
  e = .returned (.tuple #[.agg #[.int .u64 (uI (onP 1 a0)), .int .u64 (uI (onP 1 a1)), .int .u64 (uI (onP 1 a2)), .int .u64 (uI (onP 1 a3)), .int .u64 (uI (onP 1 a4)), .int .u64 (uI (onP 1 a5)), .int .u64 (uI (onP 1 a6)), .int .u64 (uI (onP 1 a7))], .bool (offP 1 a0 ||| offP 1 a1 ||| offP 1 a2 ||| offP 1 a3 ||| offP 1 a4 ||| offP 1 a5 ||| offP 1 a6 ||| offP 1 a7 == 0)]) ∧ Below w.heap.size w w' := by
 go_enter Tryz.func167, Tryz.ntmps167
 go_wp2
 refine wp_loop_rounds 9 ?_
 iterate 8
  rw [rounds_succ]
  go_wp2_with fail
  refine (east1_spec _ _).mono ?_
  rintro e w1 ⟨rfl, rfl⟩
  go_wp2_with fail
 rw [rounds_succ]
 go_wp2_with fail
 simp only [or_u0, bits_or_u, beq_u0]
 refine bodyPost_ret (v := .tuple #[.agg #[.int .u64 (uI (onP 1 a0)), .int .u64 (uI (onP 1 a1)), .int .u64 (uI (onP 1 a2)), .int .u64 (uI (onP 1 a3)), .int .u64 (uI (onP 1 a4)), .int .u64 (uI (onP 1 a5)), .int .u64 (uI (onP 1 a6)), .int .u64 (uI (onP 1 a7))], .bool (offP 1 a0 ||| offP 1 a1 ||| offP 1 a2 ||| offP 1 a3 ||| offP 1 a4 ||| offP 1 a5 ||| offP 1 a6 ||| offP 1 a7 == 0)]) (by simp [results, Tryz.results167, go_sem]) rfl ⟨rfl, ?_⟩
 exact (by repeat (first | with_reducible exact bel_refl _ | with_reducible assumption | with_reducible refine bel_drewN ?_ _ | with_reducible refine bel_drew ?_ | with_reducible refine bel_alloc ?_ _ | with_reducible refine bel_row ?_ ?_ _ | with_reducible refine bel_set ?_ ?_ _ | refine bel_trans ?_ (by with_reducible assumption) | (simp; done) | (simp; omega)))
set_option maxHeartbeats 4000000 in
theorem each2 (a0 a1 a2 a3 a4 a5 a6 a7 : U) (w : World) : Calls Tryz.prog 167 #[.agg #[.int .u64 (uI a0), .int .u64 (uI a1), .int .u64 (uI a2), .int .u64 (uI a3), .int .u64 (uI a4), .int .u64 (uI a5), .int .u64 (uI a6), .int .u64 (uI a7)], .func (.func 169) #[] #[]] w fun e w' =>
  e = .returned (.tuple #[.agg #[.int .u64 (uI (onP 2 a0)), .int .u64 (uI (onP 2 a1)), .int .u64 (uI (onP 2 a2)), .int .u64 (uI (onP 2 a3)), .int .u64 (uI (onP 2 a4)), .int .u64 (uI (onP 2 a5)), .int .u64 (uI (onP 2 a6)), .int .u64 (uI (onP 2 a7))], .bool (offP 2 a0 ||| offP 2 a1 ||| offP 2 a2 ||| offP 2 a3 ||| offP 2 a4 ||| offP 2 a5 ||| offP 2 a6 ||| offP 2 a7 == 0)]) ∧ Below w.heap.size w w' := by
 go_enter Tryz.func167, Tryz.ntmps167
 go_wp2
 refine wp_loop_rounds 9 ?_
 iterate 8
  rw [rounds_succ]
  go_wp2_with fail
  refine (south1_spec _ _).mono ?_
  rintro e w1 ⟨rfl, rfl⟩
  go_wp2_with fail
 rw [rounds_succ]
 go_wp2_with fail
 simp only [or_u0, bits_or_u, beq_u0]
 refine bodyPost_ret (v := .tuple #[.agg #[.int .u64 (uI (onP 2 a0)), .int .u64 (uI (onP 2 a1)), .int .u64 (uI (onP 2 a2)), .int .u64 (uI (onP 2 a3)), .int .u64 (uI (onP 2 a4)), .int .u64 (uI (onP 2 a5)), .int .u64 (uI (onP 2 a6)), .int .u64 (uI (onP 2 a7))], .bool (offP 2 a0 ||| offP 2 a1 ||| offP 2 a2 ||| offP 2 a3 ||| offP 2 a4 ||| offP 2 a5 ||| offP 2 a6 ||| offP 2 a7 == 0)]) (by simp [results, Tryz.results167, go_sem]) rfl ⟨rfl, ?_⟩
 exact (by repeat (first | with_reducible exact bel_refl _ | with_reducible assumption | with_reducible refine bel_drewN ?_ _ | with_reducible refine bel_drew ?_ | with_reducible refine bel_alloc ?_ _ | with_reducible refine bel_row ?_ ?_ _ | with_reducible refine bel_set ?_ ?_ _ | refine bel_trans ?_ (by with_reducible assumption) | (simp; done) | (simp; omega)))
set_option maxHeartbeats 4000000 in
theorem each3 (a0 a1 a2 a3 a4 a5 a6 a7 : U) (w : World) : Calls Tryz.prog 167 #[.agg #[.int .u64 (uI a0), .int .u64 (uI a1), .int .u64 (uI a2), .int .u64 (uI a3), .int .u64 (uI a4), .int .u64 (uI a5), .int .u64 (uI a6), .int .u64 (uI a7)], .func (.func 170) #[] #[]] w fun e w' =>
  e = .returned (.tuple #[.agg #[.int .u64 (uI (onP 3 a0)), .int .u64 (uI (onP 3 a1)), .int .u64 (uI (onP 3 a2)), .int .u64 (uI (onP 3 a3)), .int .u64 (uI (onP 3 a4)), .int .u64 (uI (onP 3 a5)), .int .u64 (uI (onP 3 a6)), .int .u64 (uI (onP 3 a7))], .bool (offP 3 a0 ||| offP 3 a1 ||| offP 3 a2 ||| offP 3 a3 ||| offP 3 a4 ||| offP 3 a5 ||| offP 3 a6 ||| offP 3 a7 == 0)]) ∧ Below w.heap.size w w' := by
 go_enter Tryz.func167, Tryz.ntmps167
 go_wp2
 refine wp_loop_rounds 9 ?_
 iterate 8
  rw [rounds_succ]
  go_wp2_with fail
  refine (west1_spec _ _).mono ?_
  rintro e w1 ⟨rfl, rfl⟩
  go_wp2_with fail
 rw [rounds_succ]
 go_wp2_with fail
 simp only [or_u0, bits_or_u, beq_u0]
 refine bodyPost_ret (v := .tuple #[.agg #[.int .u64 (uI (onP 3 a0)), .int .u64 (uI (onP 3 a1)), .int .u64 (uI (onP 3 a2)), .int .u64 (uI (onP 3 a3)), .int .u64 (uI (onP 3 a4)), .int .u64 (uI (onP 3 a5)), .int .u64 (uI (onP 3 a6)), .int .u64 (uI (onP 3 a7))], .bool (offP 3 a0 ||| offP 3 a1 ||| offP 3 a2 ||| offP 3 a3 ||| offP 3 a4 ||| offP 3 a5 ||| offP 3 a6 ||| offP 3 a7 == 0)]) (by simp [results, Tryz.results167, go_sem]) rfl ⟨rfl, ?_⟩
 exact (by repeat (first | with_reducible exact bel_refl _ | with_reducible assumption | with_reducible refine bel_drewN ?_ _ | with_reducible refine bel_drew ?_ | with_reducible refine bel_alloc ?_ _ | with_reducible refine bel_row ?_ ?_ _ | with_reducible refine bel_set ?_ ?_ _ | refine bel_trans ?_ (by with_reducible assumption) | (simp; done) | (simp; omega)))
set_option maxHeartbeats 4000000 in
theorem each4 (a0 a1 a2 a3 a4 a5 a6 a7 : U) (w : World) : Calls Tryz.prog 167 #[.agg #[.int .u64 (uI a0), .int .u64 (uI a1), .int .u64 (uI a2), .int .u64 (uI a3), .int .u64 (uI a4), .int .u64 (uI a5), .int .u64 (uI a6), .int .u64 (uI a7)], .func (.func 171) #[] #[]] w fun e w' =>
  e = .returned (.tuple #[.agg #[.int .u64 (uI (onP 4 a0)), .int .u64 (uI (onP 4 a1)), .int .u64 (uI (onP 4 a2)), .int .u64 (uI (onP 4 a3)), .int .u64 (uI (onP 4 a4)), .int .u64 (uI (onP 4 a5)), .int .u64 (uI (onP 4 a6)), .int .u64 (uI (onP 4 a7))], .bool (offP 4 a0 ||| offP 4 a1 ||| offP 4 a2 ||| offP 4 a3 ||| offP 4 a4 ||| offP 4 a5 ||| offP 4 a6 ||| offP 4 a7 == 0)]) ∧ Below w.heap.size w w' := by
 go_enter Tryz.func167, Tryz.ntmps167
 go_wp2
 refine wp_loop_rounds 9 ?_
 iterate 8
  rw [rounds_succ]
  go_wp2_with fail
  refine (north1_spec _ _).mono ?_
  rintro e w1 ⟨rfl, rfl⟩
  go_wp2_with fail
 rw [rounds_succ]
 go_wp2_with fail
 simp only [or_u0, bits_or_u, beq_u0]
 refine bodyPost_ret (v := .tuple #[.agg #[.int .u64 (uI (onP 4 a0)), .int .u64 (uI (onP 4 a1)), .int .u64 (uI (onP 4 a2)), .int .u64 (uI (onP 4 a3)), .int .u64 (uI (onP 4 a4)), .int .u64 (uI (onP 4 a5)), .int .u64 (uI (onP 4 a6)), .int .u64 (uI (onP 4 a7))], .bool (offP 4 a0 ||| offP 4 a1 ||| offP 4 a2 ||| offP 4 a3 ||| offP 4 a4 ||| offP 4 a5 ||| offP 4 a6 ||| offP 4 a7 == 0)]) (by simp [results, Tryz.results167, go_sem]) rfl ⟨rfl, ?_⟩
 exact (by repeat (first | with_reducible exact bel_refl _ | with_reducible assumption | with_reducible refine bel_drewN ?_ _ | with_reducible refine bel_drew ?_ | with_reducible refine bel_alloc ?_ _ | with_reducible refine bel_row ?_ ?_ _ | with_reducible refine bel_set ?_ ?_ _ | refine bel_trans ?_ (by with_reducible assumption) | (simp; done) | (simp; omega)))
end Go.Proofs.YtlbhjikkpbknnaaGreatDoor
end
section
namespace Go.Proofs.YtlbhjikkpbknnaaGreatDoor
open Go.RowKit Go.Rel Go.Draw
set_option maxRecDepth 100000
set_option maxHeartbeats 1000000 in
theorem east_spec (b : Sol) (w : World) : Calls Tryz.prog 146 #[solV b] w fun e w' => e = .returned (.tuple #[solV (stepS 1 b), .bool (inS 1 b)]) ∧ Below w.heap.size w w' := by
 have HE := fun w => Lib.hid (each1 (plv b 0) (plv b 1) (plv b 2) (plv b 3) (plv b 4) (plv b 5) (plv b 6) (plv b 7) w)
 have e1 : (.agg #[.int .u64 (pl (stepS 1 b) 0), .int .u64 (pl (stepS 1 b) 1), .int .u64 (pl (stepS 1 b) 2), .int .u64 (pl (stepS 1 b) 3), .int .u64 (pl (stepS 1 b) 4), .int .u64 (pl (stepS 1 b) 5), .int .u64 (pl (stepS 1 b) 6), .int .u64 (pl (stepS 1 b) 7)] : Value) = .agg #[.int .u64 (uI (onP 1 (plv b 0))), .int .u64 (uI (onP 1 (plv b 1))), .int .u64 (uI (onP 1 (plv b 2))), .int .u64 (uI (onP 1 (plv b 3))), .int .u64 (uI (onP 1 (plv b 4))), .int .u64 (uI (onP 1 (plv b 5))), .int .u64 (uI (onP 1 (plv b 6))), .int .u64 (uI (onP 1 (plv b 7)))] := by
  rw [sol_planes]
  simp only [stepS, mapS]
  rw [plv_mkS _ 0 (by omega), plv_mkS _ 1 (by omega), plv_mkS _ 2 (by omega), plv_mkS _ 3 (by omega), plv_mkS _ 4 (by omega), plv_mkS _ 5 (by omega), plv_mkS _ 6 (by omega), plv_mkS _ 7 (by omega)]
 rw [show solV (stepS 1 b) = .agg #[.int .u64 (pl (stepS 1 b) 0), .int .u64 (pl (stepS 1 b) 1), .int .u64 (pl (stepS 1 b) 2), .int .u64 (pl (stepS 1 b) 3), .int .u64 (pl (stepS 1 b) 4), .int .u64 (pl (stepS 1 b) 5), .int .u64 (pl (stepS 1 b) 6), .int .u64 (pl (stepS 1 b) 7)] from rfl, e1, show solV b = .agg #[.int .u64 (pl b 0), .int .u64 (pl b 1), .int .u64 (pl b 2), .int .u64 (pl b 3), .int .u64 (pl b 4), .int .u64 (pl b 5), .int .u64 (pl b 6), .int .u64 (pl b 7)] from rfl, sol_planes]
 clear e1
 go_enter Tryz.func146, Tryz.ntmps146
 go_wp2_with fail
 refine (HE _).out.mono ?_
 rintro e w1 ⟨rfl, hb⟩
 have g0 : Blk w1 (w.heap.size + 1) #[.int .u64 0, .int .u64 0, .int .u64 0, .int .u64 0, .int .u64 0, .int .u64 0, .int .u64 0, .int .u64 0] 93 := Blk.grow (by repeat (first | with_reducible assumption | (refine Blk.at _ _ ?_; (simp; done)) | with_reducible refine Blk.alloc ?_ _ | with_reducible refine Blk.drew ?_ | with_reducible refine Blk.rowS ?_ _ | with_reducible refine Blk.rowO ?_ _ (by simp))) hb
 have hB : Below w.heap.size w w1 := bel_trans (by repeat (first | with_reducible exact bel_refl _ | with_reducible assumption | with_reducible refine bel_drewN ?_ _ | with_reducible refine bel_drew ?_ | with_reducible refine bel_alloc ?_ _ | with_reducible refine bel_row ?_ ?_ _ | with_reducible refine bel_set ?_ ?_ _ | refine bel_trans ?_ (by with_reducible assumption) | (simp; done) | (simp; omega))) hb
 have r0 := g0.row
 rw [← g0.rw]
 clear g0 hb HE
 go_wp2_with fail
 refine bodyPost_ret (v := .tuple #[.agg #[.int .u64 (uI (onP 1 (plv b 0))), .int .u64 (uI (onP 1 (plv b 1))), .int .u64 (uI (onP 1 (plv b 2))), .int .u64 (uI (onP 1 (plv b 3))), .int .u64 (uI (onP 1 (plv b 4))), .int .u64 (uI (onP 1 (plv b 5))), .int .u64 (uI (onP 1 (plv b 6))), .int .u64 (uI (onP 1 (plv b 7)))], .bool (inS 1 b)]) (by simp [results, Tryz.results146, go_sem, inS, orP, *]) rfl ⟨rfl, ?_⟩
 exact blw_row hB (by omega) _
set_option maxHeartbeats 1000000 in
theorem south_spec (b : Sol) (w : World) : Calls Tryz.prog 147 #[solV b] w fun e w' => e = .returned (.tuple #[solV (stepS 2 b), .bool (inS 2 b)]) ∧ Below w.heap.size w w' := by
 have HE := fun w => Lib.hid (each2 (plv b 0) (plv b 1) (plv b 2) (plv b 3) (plv b 4) (plv b 5) (plv b 6) (plv b 7) w)
 have e1 : (.agg #[.int .u64 (pl (stepS 2 b) 0), .int .u64 (pl (stepS 2 b) 1), .int .u64 (pl (stepS 2 b) 2), .int .u64 (pl (stepS 2 b) 3), .int .u64 (pl (stepS 2 b) 4), .int .u64 (pl (stepS 2 b) 5), .int .u64 (pl (stepS 2 b) 6), .int .u64 (pl (stepS 2 b) 7)] : Value) = .agg #[.int .u64 (uI (onP 2 (plv b 0))), .int .u64 (uI (onP 2 (plv b 1))), .int .u64 (uI (onP 2 (plv b 2))), .int .u64 (uI (onP 2 (plv b 3))), .int .u64 (uI (onP 2 (plv b 4))), .int .u64 (uI (onP 2 (plv b 5))), .int .u64 (uI (onP 2 (plv b 6))), .int .u64 (uI (onP 2 (plv b 7)))] := by
  rw [sol_planes]
  simp only [stepS, mapS]
  rw [plv_mkS _ 0 (by omega), plv_mkS _ 1 (by omega), plv_mkS _ 2 (by omega), plv_mkS _ 3 (by omega), plv_mkS _ 4 (by omega), plv_mkS _ 5 (by omega), plv_mkS _ 6 (by omega), plv_mkS _ 7 (by omega)]
 rw [show solV (stepS 2 b) = .agg #[.int .u64 (pl (stepS 2 b) 0), .int .u64 (pl (stepS 2 b) 1), .int .u64 (pl (stepS 2 b) 2), .int .u64 (pl (stepS 2 b) 3), .int .u64 (pl (stepS 2 b) 4), .int .u64 (pl (stepS 2 b) 5), .int .u64 (pl (stepS 2 b) 6), .int .u64 (pl (stepS 2 b) 7)] from rfl, e1, show solV b = .agg #[.int .u64 (pl b 0), .int .u64 (pl b 1), .int .u64 (pl b 2), .int .u64 (pl b 3), .int .u64 (pl b 4), .int .u64 (pl b 5), .int .u64 (pl b 6), .int .u64 (pl b 7)] from rfl, sol_planes]
 clear e1
 go_enter Tryz.func147, Tryz.ntmps147
 go_wp2_with fail
 refine (HE _).out.mono ?_
 rintro e w1 ⟨rfl, hb⟩
 have g0 : Blk w1 (w.heap.size + 1) #[.int .u64 0, .int .u64 0, .int .u64 0, .int .u64 0, .int .u64 0, .int .u64 0, .int .u64 0, .int .u64 0] 93 := Blk.grow (by repeat (first | with_reducible assumption | (refine Blk.at _ _ ?_; (simp; done)) | with_reducible refine Blk.alloc ?_ _ | with_reducible refine Blk.drew ?_ | with_reducible refine Blk.rowS ?_ _ | with_reducible refine Blk.rowO ?_ _ (by simp))) hb
 have hB : Below w.heap.size w w1 := bel_trans (by repeat (first | with_reducible exact bel_refl _ | with_reducible assumption | with_reducible refine bel_drewN ?_ _ | with_reducible refine bel_drew ?_ | with_reducible refine bel_alloc ?_ _ | with_reducible refine bel_row ?_ ?_ _ | with_reducible refine bel_set ?_ ?_ _ | refine bel_trans ?_ (by with_reducible assumption) | (simp; done) | (simp; omega))) hb
 have r0 := g0.row
 rw [← g0.rw]
 clear g0 hb HE
 go_wp2_with fail
 refine bodyPost_ret (v := .tuple #[.agg #[.int .u64 (uI (onP 2 (plv b 0))), .int .u64 (uI (onP 2 (plv b 1))), .int .u64 (uI (onP 2 (plv b 2))), .int .u64 (uI (onP 2 (plv b 3))), .int .u64 (uI (onP 2 (plv b 4))), .int .u64 (uI (onP 2 (plv b 5))), .int .u64 (uI (onP 2 (plv b 6))), .int .u64 (uI (onP 2 (plv b 7)))], .bool (inS 2 b)]) (by simp [results, Tryz.results147, go_sem, inS, orP, *]) rfl ⟨rfl, ?_⟩
 exact blw_row hB (by omega) _
set_option maxHeartbeats 1000000 in
theorem west_spec (b : Sol) (w : World) : Calls Tryz.prog 148 #[solV b] w fun e w' => e = .returned (.tuple #[solV (stepS 3 b), .bool (inS 3 b)]) ∧ Below w.heap.size w w' := by
 have HE := fun w => Lib.hid (each3 (plv b 0) (plv b 1) (plv b 2) (plv b 3) (plv b 4) (plv b 5) (plv b 6) (plv b 7) w)
 have e1 : (.agg #[.int .u64 (pl (stepS 3 b) 0), .int .u64 (pl (stepS 3 b) 1), .int .u64 (pl (stepS 3 b) 2), .int .u64 (pl (stepS 3 b) 3), .int .u64 (pl (stepS 3 b) 4), .int .u64 (pl (stepS 3 b) 5), .int .u64 (pl (stepS 3 b) 6), .int .u64 (pl (stepS 3 b) 7)] : Value) = .agg #[.int .u64 (uI (onP 3 (plv b 0))), .int .u64 (uI (onP 3 (plv b 1))), .int .u64 (uI (onP 3 (plv b 2))), .int .u64 (uI (onP 3 (plv b 3))), .int .u64 (uI (onP 3 (plv b 4))), .int .u64 (uI (onP 3 (plv b 5))), .int .u64 (uI (onP 3 (plv b 6))), .int .u64 (uI (onP 3 (plv b 7)))] := by
  rw [sol_planes]
  simp only [stepS, mapS]
  rw [plv_mkS _ 0 (by omega), plv_mkS _ 1 (by omega), plv_mkS _ 2 (by omega), plv_mkS _ 3 (by omega), plv_mkS _ 4 (by omega), plv_mkS _ 5 (by omega), plv_mkS _ 6 (by omega), plv_mkS _ 7 (by omega)]
 rw [show solV (stepS 3 b) = .agg #[.int .u64 (pl (stepS 3 b) 0), .int .u64 (pl (stepS 3 b) 1), .int .u64 (pl (stepS 3 b) 2), .int .u64 (pl (stepS 3 b) 3), .int .u64 (pl (stepS 3 b) 4), .int .u64 (pl (stepS 3 b) 5), .int .u64 (pl (stepS 3 b) 6), .int .u64 (pl (stepS 3 b) 7)] from rfl, e1, show solV b = .agg #[.int .u64 (pl b 0), .int .u64 (pl b 1), .int .u64 (pl b 2), .int .u64 (pl b 3), .int .u64 (pl b 4), .int .u64 (pl b 5), .int .u64 (pl b 6), .int .u64 (pl b 7)] from rfl, sol_planes]
 clear e1
 go_enter Tryz.func148, Tryz.ntmps148
 go_wp2_with fail
 refine (HE _).out.mono ?_
 rintro e w1 ⟨rfl, hb⟩
 have g0 : Blk w1 (w.heap.size + 1) #[.int .u64 0, .int .u64 0, .int .u64 0, .int .u64 0, .int .u64 0, .int .u64 0, .int .u64 0, .int .u64 0] 93 := Blk.grow (by repeat (first | with_reducible assumption | (refine Blk.at _ _ ?_; (simp; done)) | with_reducible refine Blk.alloc ?_ _ | with_reducible refine Blk.drew ?_ | with_reducible refine Blk.rowS ?_ _ | with_reducible refine Blk.rowO ?_ _ (by simp))) hb
 have hB : Below w.heap.size w w1 := bel_trans (by repeat (first | with_reducible exact bel_refl _ | with_reducible assumption | with_reducible refine bel_drewN ?_ _ | with_reducible refine bel_drew ?_ | with_reducible refine bel_alloc ?_ _ | with_reducible refine bel_row ?_ ?_ _ | with_reducible refine bel_set ?_ ?_ _ | refine bel_trans ?_ (by with_reducible assumption) | (simp; done) | (simp; omega))) hb
 have r0 := g0.row
 rw [← g0.rw]
 clear g0 hb HE
 go_wp2_with fail
 refine bodyPost_ret (v := .tuple #[.agg #[.int .u64 (uI (onP 3 (plv b 0))), .int .u64 (uI (onP 3 (plv b 1))), .int .u64 (uI (onP 3 (plv b 2))), .int .u64 (uI (onP 3 (plv b 3))), .int .u64 (uI (onP 3 (plv b 4))), .int .u64 (uI (onP 3 (plv b 5))), .int .u64 (uI (onP 3 (plv b 6))), .int .u64 (uI (onP 3 (plv b 7)))], .bool (inS 3 b)]) (by simp [results, Tryz.results148, go_sem, inS, orP, *]) rfl ⟨rfl, ?_⟩
 exact blw_row hB (by omega) _
set_option maxHeartbeats 1000000 in
theorem north_spec (b : Sol) (w : World) : Calls Tryz.prog 149 #[solV b] w fun e w' => e = .returned (.tuple #[solV (stepS 4 b), .bool (inS 4 b)]) ∧ Below w.heap.size w w' := by
 have HE := fun w => Lib.hid (each4 (plv b 0) (plv b 1) (plv b 2) (plv b 3) (plv b 4) (plv b 5) (plv b 6) (plv b 7) w)
 have e1 : (.agg #[.int .u64 (pl (stepS 4 b) 0), .int .u64 (pl (stepS 4 b) 1), .int .u64 (pl (stepS 4 b) 2), .int .u64 (pl (stepS 4 b) 3), .int .u64 (pl (stepS 4 b) 4), .int .u64 (pl (stepS 4 b) 5), .int .u64 (pl (stepS 4 b) 6), .int .u64 (pl (stepS 4 b) 7)] : Value) = .agg #[.int .u64 (uI (onP 4 (plv b 0))), .int .u64 (uI (onP 4 (plv b 1))), .int .u64 (uI (onP 4 (plv b 2))), .int .u64 (uI (onP 4 (plv b 3))), .int .u64 (uI (onP 4 (plv b 4))), .int .u64 (uI (onP 4 (plv b 5))), .int .u64 (uI (onP 4 (plv b 6))), .int .u64 (uI (onP 4 (plv b 7)))] := by
  rw [sol_planes]
  simp only [stepS, mapS]
  rw [plv_mkS _ 0 (by omega), plv_mkS _ 1 (by omega), plv_mkS _ 2 (by omega), plv_mkS _ 3 (by omega), plv_mkS _ 4 (by omega), plv_mkS _ 5 (by omega), plv_mkS _ 6 (by omega), plv_mkS _ 7 (by omega)]
 rw [show solV (stepS 4 b) = .agg #[.int .u64 (pl (stepS 4 b) 0), .int .u64 (pl (stepS 4 b) 1), .int .u64 (pl (stepS 4 b) 2), .int .u64 (pl (stepS 4 b) 3), .int .u64 (pl (stepS 4 b) 4), .int .u64 (pl (stepS 4 b) 5), .int .u64 (pl (stepS 4 b) 6), .int .u64 (pl (stepS 4 b) 7)] from rfl, e1, show solV b = .agg #[.int .u64 (pl b 0), .int .u64 (pl b 1), .int .u64 (pl b 2), .int .u64 (pl b 3), .int .u64 (pl b 4), .int .u64 (pl b 5), .int .u64 (pl b 6), .int .u64 (pl b 7)] from rfl, sol_planes]
 clear e1
 go_enter Tryz.func149, Tryz.ntmps149
 go_wp2_with fail
 refine (HE _).out.mono ?_
 rintro e w1 ⟨rfl, hb⟩
 have g0 : Blk w1 (w.heap.size + 1) #[.int .u64 0, .int .u64 0, .int .u64 0, .int .u64 0, .int .u64 0, .int .u64 0, .int .u64 0, .int .u64 0] 93 := Blk.grow (by repeat (first | with_reducible assumption | (refine Blk.at _ _ ?_; (simp; done)) | with_reducible refine Blk.alloc ?_ _ | with_reducible refine Blk.drew ?_ | with_reducible refine Blk.rowS ?_ _ | with_reducible refine Blk.rowO ?_ _ (by simp))) hb
 have hB : Below w.heap.size w w1 := bel_trans (by repeat (first | with_reducible exact bel_refl _ | with_reducible assumption | with_reducible refine bel_drewN ?_ _ | with_reducible refine bel_drew ?_ | with_reducible refine bel_alloc ?_ _ | with_reducible refine bel_row ?_ ?_ _ | with_reducible refine bel_set ?_ ?_ _ | refine bel_trans ?_ (by with_reducible assumption) | (simp; done) | (simp; omega))) hb
 have r0 := g0.row
 rw [← g0.rw]
 clear g0 hb HE
 go_wp2_with fail
 refine bodyPost_ret (v := .tuple #[.agg #[.int .u64 (uI (onP 4 (plv b 0))), .int .u64 (uI (onP 4 (plv b 1))), .int .u64 (uI (onP 4 (plv b 2))), .int .u64 (uI (onP 4 (plv b 3))), .int .u64 (uI (onP 4 (plv b 4))), .int .u64 (uI (onP 4 (plv b 5))), .int .u64 (uI (onP 4 (plv b 6))), .int .u64 (uI (onP 4 (plv b 7)))], .bool (inS 4 b)]) (by simp [results, Tryz.results149, go_sem, inS, orP, *]) rfl ⟨rfl, ?_⟩
 exact blw_row hB (by omega) _
end Go.Proofs.YtlbhjikkpbknnaaGreatDoor
end
