import Derived.Test.YtkfimbonmnoglaaGreatDoorB05
import Derived.Laws.CopyRow
import Derived.Laws.Tables
import Derived.Laws.AppendOwn
import Derived.Shelf.Strings.Split
import Derived.Test.YtkfimbonmnoglaaGreatDoorProg
import Derived.Shelf.SlSortCmp.WholeK
import Derived.Shelf.SlSortCmp.NoneTotal
import Derived.Maps.OwnSet
import Derived.Maps.Views
import Derived.DeepKeys4
/-
  Given contracts of functions of the program, and laws for them, one behind the other.
-/
set_option linter.unusedVariables false
set_option linter.unusedSimpArgs false
set_option linter.unusedSectionVars false
section
namespace Go.Proofs.YtkfimbonmnoglaaGreatDoor
open Go
def spl (cur : Array Value) (o : Nat) (vs : List Value) : Array Value := (cur.toList.take o ++ vs ++ cur.toList.drop (o + vs.length)).toArray
theorem spl_size {cur : Array Value} {o : Nat} {vs : List Value} (h : o + vs.length ≤ cur.size) : (spl cur o vs).size = cur.size := by
 unfold spl; simp; omega
theorem run_storeVar_at {P : Program} (w : World) (g of : Nat) (t ty : TypeId) (cur cells : Array Value) (hg : w.heap[g]? = some (.cells cur t (0, 0))) (hi : (P.info? ty).map (·.size) = some cells.size)
  (hfit : of + cells.size ≤ cur.size) (h1 : cells.all (·.oneCell') = true) : (storeVar ty ⟨g, of, none⟩ (.agg cells)).run P w = .ok () (w.setRow g (spl cur of cells.toList)) := by
 have := run_storeCells_at (P := P) g of t cells.toList 0 cur w hg (by simpa using hfit) (fun v hv => (Array.all_eq_true_iff_forall_mem.1 h1) v (by simpa using hv))
 cases hq : P.info? ty with
 | none => simp [hq] at hi
 | some i =>
  have hs : cells.size = i.size := by simp [hq] at hi; omega
  simp only [Nat.add_zero] at this
  simp [storeVar, sizeOf, typeInfo, hq, Value.cells, hs, this, spl]
theorem wpList_store_at {P : Program} {ops : Array Oper} {rest : List Oper} {o : Oper} {a : Act} {w : World} {Q : Exit → Act → World → Prop} (hgd : o.guard = none) (ty : TypeId) (x y : Operand) (ho : o.op = .store ty x y)
  (g of : Nat) (cells : Array Value) (hx : a.eval x = .pointer (some ⟨g, of, none⟩)) (hy : a.eval y = .agg cells)
  (t : TypeId) (cur : Array Value) (hg : w.heap[g]? = some (.cells cur t (0, 0))) (hi : (P.info? ty).map (·.size) = some cells.size)
  (hfit : of + cells.size ≤ cur.size) (h1 : cells.all (·.oneCell') = true)
  (h : wpList P ops Q rest (a.put o.dst undef) (w.setRow g (spl cur of cells.toList))) : wpList P ops Q (o :: rest) a w :=
 wpList_plain hgd fun _ hK => by
  unfold Oper.wp execOp
  simp only [ho, hx, hy, Instr.storeAt, Instr.sureAddr, Sem.run_bind, Sem.run_pure, Result.andThen_ok, run_storeVar_at w g of t ty cur cells hg hi hfit h1]
  exact hK _ _ h
/-- rows of k cells, one of them set -/
theorem flat_set {k : Nat} {α : Type} (row : α → List Value) (hk : ∀ a, (row a).length = k) (x : α) : ∀ (m : List α) (i : Nat), i < m.length → ((m.set i x).map row).flatten = (m.map row).flatten.take (i * k) ++ row x ++ (m.map row).flatten.drop (i * k + k)
 | y :: m, 0, _ => by
  have h : (row y).length = k := hk y
  simp only [List.set_cons_zero, List.map_cons, List.flatten_cons, Nat.zero_mul, List.take_zero, List.nil_append, Nat.zero_add]
  rw [← h, List.drop_left]
 | y :: m, i + 1, h => by
  have hy : (row y).length = k := hk y
  have ih := flat_set row hk x m i (by simpa using h)
  simp only [List.set_cons_succ, List.map_cons, List.flatten_cons, ih]
  have e1 : (i + 1) * k = (row y).length + i * k := by rw [hy, Nat.add_mul, Nat.one_mul, Nat.add_comm]
  rw [e1, List.take_length_add_append, Nat.add_assoc, List.drop_length_add_append]
  simp
theorem flat_len10 {k : Nat} {α : Type} (row : α → List Value) (hk : ∀ a, (row a).length = k) : ∀ m : List α, ((m.map row).flatten).length = m.length * k
 | [] => by simp
 | y :: m => by simp [flat_len10 row hk m, hk y, Nat.add_mul]; omega
end Go.Proofs.YtkfimbonmnoglaaGreatDoor
end
section
namespace Go.Proofs
open Go.Shelf
def Tryz.lays146_ren : Go.Shelf.Ren := ⟨fun | 146 => 117 | 221 => 153 | 268 => 168 | 138 => 169 | 143 => 170 | 195 => 190 | 197 => 191 | 218 => 192 | 219 => 193 | 260 => 206 | 217 => 207 | 225 => 208 | 224 => 209 | 267 => 210 | 266 => 215 | 314 => 216 | n => n, fun | 9 => 9 | 31 => 102 | 3 => 3 | 4 => 4 | 0 => 0 | 105 => 187 | 21 => 21 | 5 => 5 | 46 => 50 | 119 => 209 | 139 => 212 | 138 => 211 | 146 => 213 | 51 => 178 | n => n, fun | 1 => 2 | 3 => 6 | 4 => 7 | n => n⟩
theorem Tryz.lays146 : Go.Proofs.Lays.n146 Tryz.prog Tryz.lays146_ren := {
 mixed := by kernel_rfl
 f138 := Tryz.func169.trans (congrArg some (by kernel_rfl))
 f143 := Tryz.func170.trans (congrArg some (by kernel_rfl))
 f146 := Tryz.func117.trans (congrArg some (by kernel_rfl))
 f195 := Tryz.func190.trans (congrArg some (by kernel_rfl))
 f197 := Tryz.func191.trans (congrArg some (by kernel_rfl))
 f217 := Tryz.func207.trans (congrArg some (by kernel_rfl))
 f218 := Tryz.func192.trans (congrArg some (by kernel_rfl))
 f219 := Tryz.func193.trans (congrArg some (by kernel_rfl))
 f221 := Tryz.func153.trans (congrArg some (by kernel_rfl))
 f224 := Tryz.func209.trans (congrArg some (by kernel_rfl))
 f225 := Tryz.func208.trans (congrArg some (by kernel_rfl))
 f260 := Tryz.func206.trans (congrArg some (by kernel_rfl))
 f266 := Tryz.func215.trans (congrArg some (by kernel_rfl))
 f267 := Tryz.func210.trans (congrArg some (by kernel_rfl))
 f268 := Tryz.func168.trans (congrArg some (by kernel_rfl))
 f314 := Tryz.func216.trans (congrArg some (by kernel_rfl))
 t0 := Tryz.underlying0
 a0 := Tryz.isAgg0
 z0 := Tryz.sizeOf0
 v0 := Tryz.zeroValue0
 t3 := Tryz.underlying3
 a3 := Tryz.isAgg3
 z3 := Tryz.sizeOf3
 v3 := Tryz.zeroValue3
 t4 := Tryz.underlying4
 a4 := Tryz.isAgg4
 z4 := Tryz.sizeOf4
 v4 := Tryz.zeroValue4
 t5 := Tryz.underlying5
 a5 := Tryz.isAgg5
 z5 := Tryz.sizeOf5
 v5 := Tryz.zeroValue5
 t9 := Tryz.underlying9
 a9 := Tryz.isAgg9
 z9 := Tryz.sizeOf9
 v9 := Tryz.zeroValue9
 t21 := Tryz.underlying21
 a21 := Tryz.isAgg21
 z21 := Tryz.sizeOf21
 v21 := Tryz.zeroValue21
 t31 := Tryz.underlying102
 a31 := Tryz.isAgg102
 z31 := Tryz.sizeOf102
 v31 := Tryz.zeroValue102
 t46 := Tryz.underlying50
 a46 := Tryz.isAgg50
 z46 := Tryz.sizeOf50
 v46 := Tryz.zeroValue50
 t51 := Tryz.underlying178
 a51 := Tryz.isAgg178
 z51 := Tryz.sizeOf178
 v51 := Tryz.zeroValue178
 t105 := Tryz.underlying187
 a105 := Tryz.isAgg187
 z105 := Tryz.sizeOf187
 v105 := Tryz.zeroValue187
 t119 := Tryz.underlying209
 a119 := Tryz.isAgg209
 z119 := Tryz.sizeOf209
 t138 := Tryz.underlying211
 a138 := Tryz.isAgg211
 z138 := Tryz.sizeOf211
 v138 := Tryz.zeroValue211
 t139 := Tryz.underlying212
 a139 := Tryz.isAgg212
 z139 := Tryz.sizeOf212
 v139 := Tryz.zeroValue212
 t146 := Tryz.underlying213
 a146 := Tryz.isAgg213
 z146 := Tryz.sizeOf213
 v146 := Tryz.zeroValue213
 g1 := by kernel_rfl
 g3 := by kernel_rfl
 g4 := by kernel_rfl }
open Go.RowKit Go.Lib in
theorem Tryz.strings_Split (s sep : ByteArray) (m : Int) (w : World) (hs : s.size < 4294967281) (hm : w.cell? ⟨2, 0, none⟩ = some (.int .i64 m)) (h1 : 1 ≤ sep.size) :
  Calls Tryz.prog 117 #[.string s, .string sep] w fun e w' =>
   e = .returned (.slice (some ⟨w.heap.size, 0, none⟩) (Lib.countB s sep + 1) (Lib.countB s sep + 1)) ∧ w' = w.alloc (.cells ((Lib.splitB sep 0 (Lib.countB s sep) s).map Value.string).toArray 9) := Any.strings_Split Tryz.lays146 (by kernel_rfl) s sep m w hs hm h1
end Go.Proofs
end
section
namespace Go.Proofs
open Go.Shelf
def Tryz.sortS_ren : Go.Shelf.Ren := ⟨fun | 6 => 143 | 15 => 161 | 14 => 160 | 28 => 182 | 29 => 183 | 20 => 174 | 21 => 175 | 22 => 176 | 23 => 177 | 24 => 178 | 25 => 179 | 26 => 180 | 27 => 181 | 46 => 200 | 47 => 201 | 48 => 202 | 49 => 203 | 50 => 204 | 57 => 214 | n => n, fun | 22 => 41 | 24 => 26 | 25 => 67 | 3 => 3 | 39 => 50 | 0 => 0 | 53 => 178 | 55 => 24 | 4 => 4 | 46 => 171 | 45 => 170 | 50 => 175 | 5 => 5 | 9 => 9 | 66 => 196 | 70 => 200 | 76 => 206 | 77 => 134 | n => n, fun | n => n⟩
theorem Tryz.sortS : Go.Proofs.SlLaysF0.n6 Tryz.prog Tryz.sortS_ren := {
 mixed := by kernel_rfl
 f6 := ⟨Tryz.f143.name, by decide, Tryz.func143.trans (congrArg some (by kernel_rfl))⟩
 f14 := ⟨Tryz.f160.name, by decide, Tryz.func160.trans (congrArg some (by kernel_rfl))⟩
 f15 := Tryz.func161.trans (congrArg some (by kernel_rfl))
 f20 := ⟨Tryz.f174.name, by decide, Tryz.func174.trans (congrArg some (by kernel_rfl))⟩
 f21 := ⟨Tryz.f175.name, by decide, Tryz.func175.trans (congrArg some (by kernel_rfl))⟩
 f22 := ⟨Tryz.f176.name, by decide, Tryz.func176.trans (congrArg some (by kernel_rfl))⟩
 f23 := ⟨Tryz.f177.name, by decide, Tryz.func177.trans (congrArg some (by kernel_rfl))⟩
 f24 := ⟨Tryz.f178.name, by decide, Tryz.func178.trans (congrArg some (by kernel_rfl))⟩
 f25 := ⟨Tryz.f179.name, by decide, Tryz.func179.trans (congrArg some (by kernel_rfl))⟩
 f26 := ⟨Tryz.f180.name, by decide, Tryz.func180.trans (congrArg some (by kernel_rfl))⟩
 f27 := ⟨Tryz.f181.name, by decide, Tryz.func181.trans (congrArg some (by kernel_rfl))⟩
 f28 := Tryz.func182.trans (congrArg some (by kernel_rfl))
 f29 := Tryz.func183.trans (congrArg some (by kernel_rfl))
 f46 := ⟨Tryz.f200.name, by decide, Tryz.func200.trans (congrArg some (by kernel_rfl))⟩
 f47 := Tryz.func201.trans (congrArg some (by kernel_rfl))
 f48 := Tryz.func202.trans (congrArg some (by kernel_rfl))
 f49 := ⟨Tryz.f203.name, by decide, Tryz.func203.trans (congrArg some (by kernel_rfl))⟩
 f50 := ⟨Tryz.f204.name, by decide, Tryz.func204.trans (congrArg some (by kernel_rfl))⟩
 f57 := ⟨Tryz.f214.name, by decide, Tryz.func214.trans (congrArg some (by kernel_rfl))⟩
 t0 := Tryz.underlying0
 a0 := Tryz.isAgg0
 z0 := Tryz.sizeOf0
 v0 := Tryz.zeroValue0
 t3 := Tryz.underlying3
 a3 := Tryz.isAgg3
 z3 := Tryz.sizeOf3
 v3 := Tryz.zeroValue3
 t4 := Tryz.underlying4
 a4 := Tryz.isAgg4
 z4 := Tryz.sizeOf4
 v4 := Tryz.zeroValue4
 t5 := Tryz.underlying5
 a5 := Tryz.isAgg5
 z5 := Tryz.sizeOf5
 v5 := Tryz.zeroValue5
 t9 := Tryz.underlying9
 a9 := Tryz.isAgg9
 z9 := Tryz.sizeOf9
 v9 := Tryz.zeroValue9
 t22 := Tryz.underlying41
 a22 := Tryz.isAgg41
 z22 := Tryz.sizeOf41
 v22 := Tryz.zeroValue41
 t25 := Tryz.underlying67
 a25 := Tryz.isAgg67
 z25 := Tryz.sizeOf67
 v25 := Tryz.zeroValue67
 t39 := Tryz.underlying50
 a39 := Tryz.isAgg50
 z39 := Tryz.sizeOf50
 v39 := Tryz.zeroValue50
 t45 := Tryz.underlying170
 a45 := Tryz.isAgg170
 z45 := Tryz.sizeOf170
 v45 := Tryz.zeroValue170
 t46 := Tryz.underlying171
 a46 := Tryz.isAgg171
 z46 := Tryz.sizeOf171
 v46 := Tryz.zeroValue171
 t50 := Tryz.underlying175
 a50 := Tryz.isAgg175
 z50 := Tryz.sizeOf175
 v50 := Tryz.zeroValue175
 t53 := Tryz.underlying178
 a53 := Tryz.isAgg178
 z53 := Tryz.sizeOf178
 v53 := Tryz.zeroValue178
 t55 := Tryz.underlying24
 a55 := Tryz.isAgg24
 z55 := Tryz.sizeOf24
 v55 := Tryz.zeroValue24
 t66 := Tryz.underlying196
 a66 := Tryz.isAgg196
 z66 := Tryz.sizeOf196
 v66 := Tryz.zeroValue196
 t70 := Tryz.underlying200
 a70 := Tryz.isAgg200
 z70 := Tryz.sizeOf200
 v70 := Tryz.zeroValue200
 t76 := Tryz.underlying206
 a76 := Tryz.isAgg206
 z76 := Tryz.sizeOf206
 v76 := Tryz.zeroValue206
 t77 := Tryz.underlying134
 a77 := Tryz.isAgg134
 z77 := Tryz.sizeOf134
 v77 := Tryz.zeroValue134 }
end Go.Proofs
end
section
namespace Go.Proofs.YtkfimbonmnoglaaGreatDoor
open Go.RowKit Go.Rel Go.Draw
set_option maxRecDepth 100000
theorem gb_drew {w w' : World} {r : Option Nat} (h : w.grownBy w' r) : w.grownBy w'.drew r := ⟨h.os, h.tape, h.output, h.size, h.block⟩
theorem gb_set {w w' : World} {g : Nat} (h : w.grownBy w' (some g)) (p : Addr) (hp : p.block = g) (v : Value) : w.grownBy (w'.setCell p v) (some g) :=
 h.trans ⟨rfl, rfl, rfl, by simp [World.setCell], fun k _ hk => Below.heap_setCell _ _ _ k (fun e => hk (by rw [e, hp]))⟩
theorem gb_row {w w' : World} {g : Nat} (h : w.grownBy w' (some g)) (cs : Array Value) : w.grownBy (w'.setRow g cs) (some g) :=
 h.trans ⟨rfl, rfl, rfl, Nat.le_of_eq (setRow_size _ _ _).symm, fun k _ hk => setRow_other _ _ _ _ (fun e => hk (by rw [e]))⟩
theorem gb_below {w w' w2 : World} {r : Option Nat} (h : w.grownBy w' r) (hb : Below w'.heap.size w' w2) : w.grownBy w2 r :=
 h.trans ⟨hb.os, hb.tape, hb.output, hb.size, fun k hk _ => hb.block k hk⟩
theorem gb_refl (w : World) (r : Option Nat) : w.grownBy w r := ⟨rfl, rfl, rfl, Nat.le_refl _, fun _ _ _ => rfl⟩
/-- of it, what is above a world -/
theorem gb_bel {w0 w w' : World} {r : Nat} (h0 : Below w0.heap.size w0 w) (h : w.grownBy w' (some r)) (hr : w0.heap.size ≤ r) : Below w0.heap.size w0 w' := h0.grown h h0.size (fun k hk => by cases hk; exact hr)
theorem Blk.gb {w w' : World} {b : Nat} {c : Array Value} {t : TypeId} {r : Option Nat} (h : Blk w b c t) (hg : w.grownBy w' r) (hne : some b ≠ r) : Blk w' b c t := (hg.block b h.lt hne).trans h
/-- eight words by their numbers -/
abbrev mixA (f : Nat → Int) : Array Value := #[.int .u64 (f 0), .int .u64 (f 1), .int .u64 (f 2), .int .u64 (f 3), .int .u64 (f 4), .int .u64 (f 5), .int .u64 (f 6), .int .u64 (f 7)]
theorem mixA_get (f : Nat → Int) {k : Nat} (hk : k < 8) : (mixA f)[k]? = some (.int .u64 (f k)) := by
 obtain rfl | rfl | rfl | rfl | rfl | rfl | rfl | rfl : k = 0 ∨ k = 1 ∨ k = 2 ∨ k = 3 ∨ k = 4 ∨ k = 5 ∨ k = 6 ∨ k = 7 := by omega
 all_goals rfl
theorem mixA_set (f : Nat → Int) {k : Nat} (hk : k < 8) (v : Int) : (mixA f).setIfInBounds k (.int .u64 v) = mixA fun i => if i = k then v else f i := by
 obtain rfl | rfl | rfl | rfl | rfl | rfl | rfl | rfl : k = 0 ∨ k = 1 ∨ k = 2 ∨ k = 3 ∨ k = 4 ∨ k = 5 ∨ k = 6 ∨ k = 7 := by omega
 all_goals rfl
theorem mixA_eq {f g : Nat → Int} (h : ∀ i, i < 8 → f i = g i) : mixA f = mixA g := by
 simp only [mixA, h 0 (by omega), h 1 (by omega), h 2 (by omega), h 3 (by omega), h 4 (by omega), h 5 (by omega), h 6 (by omega), h 7 (by omega)]
/-- the first z words of b, the others of a -/
def mixZ (a b : Sol) (z : Nat) : Array Value := mixA fun i => if i < z then pl b i else pl a i
theorem mixZ_get (a b : Sol) {z : Nat} (hz : z < 8) : (mixZ a b z)[z]? = some (.int .u64 (pl a z)) := by unfold mixZ; rw [mixA_get _ hz]; simp
theorem mixZ_set (a b : Sol) {z : Nat} (hz : z < 8) : (mixZ a b z).setIfInBounds z (.int .u64 (pl b z)) = mixZ a b (z + 1) := by
 unfold mixZ
 rw [mixA_set _ hz]
 refine mixA_eq fun i _ => ?_
 by_cases e : i = z
 ·subst e; simp
 ·simp only [e, if_false]
  by_cases h : i < z
  ·rw [if_pos h, if_pos (by omega)]
  ·rw [if_neg h, if_neg (by omega)]
theorem mixZ_start (a b : Sol) : mixZ a b 0 = #[.int .u64 (pl a 0), .int .u64 (pl a 1), .int .u64 (pl a 2), .int .u64 (pl a 3), .int .u64 (pl a 4), .int .u64 (pl a 5), .int .u64 (pl a 6), .int .u64 (pl a 7)] := rfl
theorem mixZ_end (a b : Sol) : mixZ a b 8 = #[.int .u64 (pl b 0), .int .u64 (pl b 1), .int .u64 (pl b 2), .int .u64 (pl b 3), .int .u64 (pl b 4), .int .u64 (pl b 5), .int .u64 (pl b 6), .int .u64 (pl b 7)] := by unfold mixZ; exact mixA_eq (g := fun i => pl b i) (fun i hi => by simp [hi])
def AnyV (_ : Value) (_ : World) : Prop := True
theorem getS (s : Sol) {Z : Nat} (hZ : Z < 8) (h : Z < ([.int .u64 (pl s 0), .int .u64 (pl s 1), .int .u64 (pl s 2), .int .u64 (pl s 3), .int .u64 (pl s 4), .int .u64 (pl s 5), .int .u64 (pl s 6), .int .u64 (pl s 7)] : List Value).length) : ([.int .u64 (pl s 0), .int .u64 (pl s 1), .int .u64 (pl s 2), .int .u64 (pl s 3), .int .u64 (pl s 4), .int .u64 (pl s 5), .int .u64 (pl s 6), .int .u64 (pl s 7)] : List Value)[Z]'h = .int .u64 (pl s Z) := by
 obtain rfl | rfl | rfl | rfl | rfl | rfl | rfl | rfl : Z = 0 ∨ Z = 1 ∨ Z = 2 ∨ Z = 3 ∨ Z = 4 ∨ Z = 5 ∨ Z = 6 ∨ Z = 7 := by omega
 all_goals rfl
end Go.Proofs.YtkfimbonmnoglaaGreatDoor
end
section
namespace Go.Proofs.YtkfimbonmnoglaaGreatDoor
open Go.RowKit Go.Rel Go.Draw Go.Solid
set_option maxRecDepth 100000
abbrev clV (c : Cl) : Value := .agg #[.int .i64 c.1, .int .i64 c.2.1, .int .i64 c.2.2]
theorem in_spec (n a b : Int) (w : World) : Calls Tryz.prog 122 #[.int .i64 n, .int .i64 a, .int .i64 b] w fun e w' => e = .returned (.bool (decide (a ≤ n) && decide (n ≤ b))) ∧ w' = w := by
 go_enter Tryz.func122, Tryz.ntmps122
 go_wp2_with fail
 all_goals (go_ret; exact ⟨ret_bool (by simp [*] <;> omega), rfl⟩)
theorem in7_spec (n : Int) (w : World) : Calls Tryz.prog 122 #[.int .i64 n, .int .i64 0, .int .i64 7] w fun e w' => e = .returned (.bool (in7 n)) ∧ w' = w := in_spec n 0 7 w
set_option maxHeartbeats 4000000 in
theorem inside_spec (c : Cl) (w : World) : Calls Tryz.prog 124 #[clV c] w fun e w' => e = .returned (.bool (inG c)) ∧ Below w.heap.size w w' := by
 obtain ⟨x, y, z⟩ := c
 have hg : inG (x, y, z) = (in7 x && in7 y && in7 z) := rfl
 rw [hg]
 have HX := Lib.hid fun W => in7_spec x W
 have HY := Lib.hid fun W => in7_spec y W
 have HZ := Lib.hid fun W => in7_spec z W
 clear hg
 cases hx : in7 x with
 | false =>
  rw [hx] at HX
  clear hx
  go_enter Tryz.func124, Tryz.ntmps124
  go_wp2_with fail
  refine (HX.out _).mono ?_
  rintro e w1 ⟨rfl, rfl⟩
  go_wp2_with fail
  go_ret
  exact ⟨rfl, (by repeat (first | with_reducible exact bel_refl _ | with_reducible assumption | with_reducible refine bel_drewN ?_ _ | with_reducible refine bel_drew ?_ | with_reducible refine bel_alloc ?_ _ | with_reducible refine bel_row ?_ ?_ _ | with_reducible refine bel_set ?_ ?_ _ | refine bel_trans ?_ (by with_reducible assumption) | (simp; done) | (simp; omega)))⟩
 | true =>
  rw [hx] at HX
  clear hx
  cases hy : in7 y with
  | false =>
   rw [hy] at HY
   clear hy
   go_enter Tryz.func124, Tryz.ntmps124
   go_wp2_with fail
   refine (HX.out _).mono ?_
   rintro e w1 ⟨rfl, rfl⟩
   go_wp2_with fail
   refine (HY.out _).mono ?_
   rintro e w1 ⟨rfl, rfl⟩
   go_wp2_with fail
   go_ret
   exact ⟨rfl, (by repeat (first | with_reducible exact bel_refl _ | with_reducible assumption | with_reducible refine bel_drewN ?_ _ | with_reducible refine bel_drew ?_ | with_reducible refine bel_alloc ?_ _ | with_reducible refine bel_row ?_ ?_ _ | with_reducible refine bel_set ?_ ?_ _ | refine bel_trans ?_ (by with_reducible assumption) | (simp; done) | (simp; omega)))⟩
  | true =>
   rw [hy] at HY
   clear hy
   obtain ⟨b, hb⟩ : ∃ b, b = in7 z := ⟨_, rfl⟩
   rw [← hb] at HZ ⊢
   clear hb
   go_enter Tryz.func124, Tryz.ntmps124
   go_wp2_with fail
   refine (HX.out _).mono ?_
   rintro e w1 ⟨rfl, rfl⟩
   go_wp2_with fail
   refine (HY.out _).mono ?_
   rintro e w1 ⟨rfl, rfl⟩
   go_wp2_with fail
   refine (HZ.out _).mono ?_
   rintro e w1 ⟨rfl, rfl⟩
   go_wp2_with fail
   go_ret
   exact ⟨ret_bool (by simp), (by repeat (first | with_reducible exact bel_refl _ | with_reducible assumption | with_reducible refine bel_drewN ?_ _ | with_reducible refine bel_drew ?_ | with_reducible refine bel_alloc ?_ _ | with_reducible refine bel_row ?_ ?_ _ | with_reducible refine bel_set ?_ ?_ _ | refine bel_trans ?_ (by with_reducible assumption) | (simp; done) | (simp; omega)))⟩
/-- the bit of a cell, in its plane -/
def bitP (c : Cl) : U := 1#64 <<< (8 * c.2.1 + c.1).toNat
theorem bitP_val {n : Nat} (h : n < 64) : IntKind.u64.wrap (2 ^ n : Int) = uI (1#64 <<< n) := by
 have := shl_u 1#64 n
 rw [show uI 1#64 = 1 from uI_one, Int.one_mul] at this
 rw [← this]
 congr 1
set_option maxHeartbeats 4000000 in
theorem bit_spec {c : Cl} (h : inG c = true) (w : World) : Calls Tryz.prog 125 #[clV c] w fun e w' => e = .returned (.int .u64 (uI (bitP c))) ∧ Below w.heap.size w w' := by
 obtain ⟨x, y, z⟩ := c
 have hG := inG_iff.1 h
 simp only at hG
 obtain ⟨X, rfl⟩ : ∃ X : Nat, x = X := ⟨x.toNat, by omega⟩
 obtain ⟨Y, rfl⟩ : ∃ X : Nat, y = X := ⟨y.toNat, by omega⟩
 have hn : 8 * Y + X < 64 := by omega
 go_enter Tryz.func125, Tryz.ntmps125
 go_wp2_with fail
 go_ret
 refine ⟨?_, (by repeat (first | with_reducible exact bel_refl _ | with_reducible assumption | with_reducible refine bel_drewN ?_ _ | with_reducible refine bel_drew ?_ | with_reducible refine bel_alloc ?_ _ | with_reducible refine bel_row ?_ ?_ _ | with_reducible refine bel_set ?_ ?_ _ | refine bel_trans ?_ (by with_reducible assumption) | (simp; done) | (simp; omega)))⟩
 rw [bitP_val hn]
 unfold bitP
 rw [show (8 * (Y : Int) + (X : Int)).toNat = 8 * Y + X by omega]
 rfl
end Go.Proofs.YtkfimbonmnoglaaGreatDoor
end
section
namespace Go.Proofs.YtkfimbonmnoglaaGreatDoor
open Go.RowKit Go.Rel Go.Draw Go.Solid
set_option maxRecDepth 100000
attribute [local go_sem] Oper.semAt_some
theorem idxS0 (a0 a1 a2 a3 a4 a5 a6 a7 : Int) (w : World) : (Instr.index 26 (.agg #[.int .u64 a0, .int .u64 a1, .int .u64 a2, .int .u64 a3, .int .u64 a4, .int .u64 a5, .int .u64 a6, .int .u64 a7]) (.int .i64 0)).run Tryz.prog w = .ok (.int .u64 a0) w := by kernel_rfl
theorem idxS1 (a0 a1 a2 a3 a4 a5 a6 a7 : Int) (w : World) : (Instr.index 26 (.agg #[.int .u64 a0, .int .u64 a1, .int .u64 a2, .int .u64 a3, .int .u64 a4, .int .u64 a5, .int .u64 a6, .int .u64 a7]) (.int .i64 1)).run Tryz.prog w = .ok (.int .u64 a1) w := by kernel_rfl
theorem idxS2 (a0 a1 a2 a3 a4 a5 a6 a7 : Int) (w : World) : (Instr.index 26 (.agg #[.int .u64 a0, .int .u64 a1, .int .u64 a2, .int .u64 a3, .int .u64 a4, .int .u64 a5, .int .u64 a6, .int .u64 a7]) (.int .i64 2)).run Tryz.prog w = .ok (.int .u64 a2) w := by kernel_rfl
theorem idxS3 (a0 a1 a2 a3 a4 a5 a6 a7 : Int) (w : World) : (Instr.index 26 (.agg #[.int .u64 a0, .int .u64 a1, .int .u64 a2, .int .u64 a3, .int .u64 a4, .int .u64 a5, .int .u64 a6, .int .u64 a7]) (.int .i64 3)).run Tryz.prog w = .ok (.int .u64 a3) w := by kernel_rfl
theorem idxS4 (a0 a1 a2 a3 a4 a5 a6 a7 : Int) (w : World) : (Instr.index 26 (.agg #[.int .u64 a0, .int .u64 a1, .int .u64 a2, .int .u64 a3, .int .u64 a4, .int .u64 a5, .int .u64 a6, .int .u64 a7]) (.int .i64 4)).run Tryz.prog w = .ok (.int .u64 a4) w := by kernel_rfl
theorem idxS5 (a0 a1 a2 a3 a4 a5 a6 a7 : Int) (w : World) : (Instr.index 26 (.agg #[.int .u64 a0, .int .u64 a1, .int .u64 a2, .int .u64 a3, .int .u64 a4, .int .u64 a5, .int .u64 a6, .int .u64 a7]) (.int .i64 5)).run Tryz.prog w = .ok (.int .u64 a5) w := by kernel_rfl
theorem idxS6 (a0 a1 a2 a3 a4 a5 a6 a7 : Int) (w : World) : (Instr.index 26 (.agg #[.int .u64 a0, .int .u64 a1, .int .u64 a2, .int .u64 a3, .int .u64 a4, .int .u64 a5, .int .u64 a6, .int .u64 a7]) (.int .i64 6)).run Tryz.prog w = .ok (.int .u64 a6) w := by kernel_rfl
theorem idxS7 (a0 a1 a2 a3 a4 a5 a6 a7 : Int) (w : World) : (Instr.index 26 (.agg #[.int .u64 a0, .int .u64 a1, .int .u64 a2, .int .u64 a3, .int .u64 a4, .int .u64 a5, .int .u64 a6, .int .u64 a7]) (.int .i64 7)).run Tryz.prog w = .ok (.int .u64 a7) w := by kernel_rfl
theorem idxS (s : Sol) {k : Nat} (h : k < 8) (w : World) : (Instr.index 26 (.agg #[.int .u64 (pl s 0), .int .u64 (pl s 1), .int .u64 (pl s 2), .int .u64 (pl s 3), .int .u64 (pl s 4), .int .u64 (pl s 5), .int .u64 (pl s 6), .int .u64 (pl s 7)]) (.int .i64 (k : Int))).run Tryz.prog w = .ok (.int .u64 (uI (plv s k))) w := by
 rw [← pl_uI]
 obtain rfl | rfl | rfl | rfl | rfl | rfl | rfl | rfl : k = 0 ∨ k = 1 ∨ k = 2 ∨ k = 3 ∨ k = 4 ∨ k = 5 ∨ k = 6 ∨ k = 7 := by omega
 ·exact idxS0 _ _ _ _ _ _ _ _ w
 ·exact idxS1 _ _ _ _ _ _ _ _ w
 ·exact idxS2 _ _ _ _ _ _ _ _ w
 ·exact idxS3 _ _ _ _ _ _ _ _ w
 ·exact idxS4 _ _ _ _ _ _ _ _ w
 ·exact idxS5 _ _ _ _ _ _ _ _ w
 ·exact idxS6 _ _ _ _ _ _ _ _ w
 ·exact idxS7 _ _ _ _ _ _ _ _ w
theorem sub1_u (p : U) : IntKind.u64.wrap (uI p - 1) = uI (p - 1) := by
 have h : IntKind.u64.wrap (uI p - 1) = (uI p - 1) % 18446744073709551616 := by
  unfold IntKind.wrap
  rw [if_neg (by simp [IntKind.signed])]
  rfl
 rw [h]
 unfold uI
 rw [BitVec.toNat_sub]
 have := p.isLt
 show _ = (((2 ^ 64 - 1 + p.toNat) % 2 ^ 64 : Nat) : Int)
 omega
theorem drop_u (p : U) : bits .and .u64 (uI p) (IntKind.u64.wrap (uI p - 1)) = uI (p &&& (p - 1)) := by rw [sub1_u, bits_and_u]
theorem Tab.keep {w w' : World} {Wr : Nat → Prop} (h : Tab w) (hk : KeepsBut Wr w w') (hn : ¬ Wr 0) : Tab w' := fun k hk2 => by
 have e := hk.2 _ h.lt hn
 have := h k hk2
 unfold World.cell? at this ⊢
 rw [e]; exact this
theorem cellsS_from (s : Sol) : cellsS s = (cellsFrom s 8).map cellN := by
 unfold cellsS bitsS
 rw [cells_filter]
theorem cellN_low (z : Nat) {q : U} (h : q ≠ 0) : clV (cellN (64 * z + lowU q)) = .agg #[.int .i64 ((lowU q : Int) % 8), .int .i64 ((lowU q : Int) / 8), .int .i64 (z : Int)] := by
 have hk := (lowU_spec q h).1
 unfold clV cellN
 simp only
 rw [show (64 * z + lowU q) % 8 = lowU q % 8 by omega, show (64 * z + lowU q) / 8 % 8 = lowU q / 8 by omega, show (64 * z + lowU q) / 64 = z by omega]
 rfl
theorem cellsS_len (s : Sol) : (cellsS s).length ≤ 512 := by
 unfold cellsS bitsS
 rw [List.length_map]
 have := List.length_filter_le (fun n => s.getLsbD n) (List.range 512)
 simpa using this
theorem cells_spec (w : World) (s : Sol) : Calls Tryz.prog 111 #[solV s] w fun e w' => e = .returned (.func (.func 147) #[] #[.pointer (some ⟨w.heap.size, 0, none⟩)]) ∧ w' = w.alloc (.cells #[.int .u64 (pl s 0), .int .u64 (pl s 1), .int .u64 (pl s 2), .int .u64 (pl s 3), .int .u64 (pl s 4), .int .u64 (pl s 5), .int .u64 (pl s 6), .int .u64 (pl s 7)] 26) := by
 have hmf' := hmf
 go_enter Tryz.func111, Tryz.ntmps111
 go_wp2_with fail
 go_ret
 exact ⟨rfl, rfl⟩
abbrev GCl := { c : Cl // inG c = true }
set_option maxHeartbeats 4000000 in
theorem cells1_in {n : Nat} (hn : 1 ≤ n) (lp : Nat) {Wr : Nat → Prop} {W : World} (s : Sol) {bs : Nat} (hbs : Blk W bs #[.int .u64 (pl s 0), .int .u64 (pl s 1), .int .u64 (pl s 2), .int .u64 (pl s 3), .int .u64 (pl s 4), .int .u64 (pl s 5), .int .u64 (pl s 6), .int .u64 (pl s 7)] 26) (hT : Tab W) (hnT : ¬ Wr 0)
  (J Jx : List GCl → World → Prop)
  (hY : ∀ pre y W1, J pre W1 → W.heap.size + 0 ≤ W1.heap.size → pre.length < (cellsS s).length → YieldAt Fence.wide (n - 1) Tryz.prog lp #[clV y.1] W1 fun e W' =>
   (e = .returned (.bool true) ∧ J (pre ++ [y]) W' ∧ KeepsBut Wr W1 W') ∨ (e = .returned (.bool false) ∧ Jx (pre ++ [y]) W')) (h0 : J [] W) :
  CallsIn Fence.wide n Tryz.prog 147 #[.func (.yield lp) #[] #[], .pointer (some ⟨bs, 0, none⟩)] W fun e W' => (∃ v, e = .returned v) ∧ ((∃ xs : List GCl, xs.map (·.1) = cellsS s ∧ J xs W') ∨ (∃ pre : List GCl, pre.map (·.1) <+: cellsS s ∧ Jx pre W')) := by
 refine callsIn_of_wp Tryz.func147 rfl trivial ?_ rfl
 simp only [Tryz.ntmps147, List.size_toArray, List.length_cons, List.length_nil, Nat.reduceAdd, Nat.reduceSub, Array.replicate_succ, Array.replicate_zero, List.push_toArray, List.append_toArray, List.nil_append, List.cons_append]
 have cp := hbs.cell
 have lp' := hbs.lt
 have r0 := hbs.row
 have HF := Lib.hid (And.intro hbs (And.intro hY (And.intro h0 hT))); clear hbs hY h0 hT
 gi_wp2_with fail
 clear cp lp' r0
 gi_loopw [7] (fun sv wx => ∃ (z : Nat) (pre : List GCl), z ≤ 8 ∧ sv = .int .i64 z ∧ Hid (pre.map (·.1) ++ (cellsFrom s (8 - z)).map cellN = cellsS s ∧ J pre wx ∧ Tab wx ∧ W.heap.size ≤ wx.heap.size)) (fun sv _ => 8 - (intOf sv).toNat)
 case atStart => exact ⟨0, [], by omega, rfl, Lib.hid ⟨by rw [cellsS_from]; rfl, HF.out.2.2.1, HF.out.2.2.2, Nat.le_refl _⟩⟩
 case round =>
  obtain ⟨z, pre, hz8, rfl, HI⟩ := hrel
  by_cases hlt : z < 8
  ·have hix := fun w => idxS s hlt w
   have hd8 : decide ((z : Int) < 8) = true := by simp; omega
   gi_wp2_with fail
   obtain ⟨wo, hwo⟩ : ∃ wo, wo = wr := ⟨_, rfl⟩
   subst hwo
   gi_loopw [4] (fun fv wx => ∃ (q : U) (pre : List GCl), fv = .int .u64 (uI q) ∧ Hid (pre.map (·.1) ++ ((planeL z q).map cellN ++ (cellsFrom s (8 - (z + 1))).map cellN) = cellsS s ∧ J pre wx ∧ Tab wx ∧ W.heap.size ≤ wx.heap.size)) (fun fv _ => cardU (BitVec.ofInt 64 (intOf fv)))
   case atStart => exact ⟨plv s z, pre, rfl, Lib.hid ⟨by rw [← HI.out.1, cellsFrom_succ s hlt, List.map_append], HI.out.2⟩⟩
   case round =>
    obtain ⟨q, pre2, rfl, HI2⟩ := hrel
    by_cases hq : q = 0
    ·have e0 : (uI q != 0) = false := by rw [bne_u0, hq]; rfl
     have HQ := Lib.hid hq; clear hq
     gi_wp2_with fail
     go_roundw
     case rel => exact ⟨z + 1, pre2, by omega, by go_num, Lib.hid ⟨by rw [← HI2.out.1, HQ.out, planeL_zero]; rfl, HI2.out.2⟩⟩
     case measure => simp [intOf]; omega
    ·have e0 : (uI q != 0) = true := by rw [bne_u0]; simpa using hq
     have ed := drop_u q
     have HQ := Lib.hid hq; clear hq
     have hlow := (lowU_spec q HQ.out).1
     gi_wp2_with fail
     refine ⟨trivial, (callsIn_wide.2 (tz64_spec q HQ.out _ HI2.out.2.2.1)).mono ?_⟩
     rintro e w1 ⟨rfl, hw1⟩
     have hw2 := hw1.symm
     subst hw2
     clear hw1
     have hg := cellN_in (n := 64 * z + lowU q) (by omega)
     have hpl : pre2.map (·.1) ++ (cellN (64 * z + lowU q) :: ((planeL z (q &&& (q - 1))).map cellN ++ (cellsFrom s (8 - (z + 1))).map cellN)) = cellsS s := by
      rw [← HI2.out.1, planeL_cons z HQ.out]; rfl
     obtain ⟨fn, tm, asg, bdy, hy, hR⟩ := HF.out.2.1 pre2 ⟨cellN (64 * z + lowU q), hg⟩ wr HI2.out.2.1 HI2.out.2.2.2 (by rw [← hpl, List.length_append, List.length_map]; simp)
     have HR := Lib.hid (And.intro hR hpl); clear hR hpl
     have hcl := cellN_low z HQ.out
     try dsimp only at hy
     rw [hcl] at hy
     have HC := Lib.hid hcl; clear hcl
     gi_wp2_with fail
     refine HR.out.1.mono ?_
     rintro e W4 (⟨rfl, hJ4, hk4⟩ | ⟨rfl, hJx4⟩)
     ·have hT4 : Tab W4 := HI2.out.2.2.1.keep hk4 hnT
      have HK4 := Lib.hid (And.intro hJ4 (And.intro hT4 (Nat.le_trans HI2.out.2.2.2 hk4.1))); clear hJ4 hk4 hT4 hy
      gi_wp2_with fail
      go_roundw
      case rel => exact ⟨q &&& (q - 1), pre2 ++ [⟨cellN (64 * z + lowU q), hg⟩], rfl, Lib.hid ⟨by rw [List.map_append, List.append_assoc]; exact HR.out.2, HK4.out⟩⟩
      case measure =>
       show cardU (BitVec.ofInt 64 (uI (q &&& (q - 1)))) < cardU (BitVec.ofInt 64 (uI q))
       rw [ofInt_uI, ofInt_uI]
       have := cardU_drop q HQ.out
       omega
     ·have HX := Lib.hid hJx4; clear hJx4
      gi_wp2_with fail
      refine bodyPost_ret (v := .tuple #[]) (by simp [results, Tryz.results147, go_sem]) rfl ⟨⟨_, rfl⟩, .inr ⟨pre2 ++ [⟨cellN (64 * z + lowU q), hg⟩], ?_, HX.out⟩⟩
      exact ⟨_, by rw [List.map_append, List.append_assoc]; exact HR.out.2⟩
  ·obtain rfl : z = 8 := by omega
   gi_wp2_with fail
   go_end0
   exact ⟨⟨_, rfl⟩, .inl ⟨pre, by simpa [cellsFrom] using HI.out.1, HI.out.2.1⟩⟩
theorem cells_seq {n : Nat} (hn : 1 ≤ n) {Wr : Nat → Prop} {W : World} (s : Sol) {bs : Nat} (hbs : Blk W bs #[.int .u64 (pl s 0), .int .u64 (pl s 1), .int .u64 (pl s 2), .int .u64 (pl s 3), .int .u64 (pl s 4), .int .u64 (pl s 5), .int .u64 (pl s 6), .int .u64 (pl s 7)] 26) (hT : Tab W) (hnT : ¬ Wr 0) :
  SeqC Fence.wide n Tryz.prog 147 #[.pointer (some ⟨bs, 0, none⟩)] (fun y : GCl => #[clV y.1]) Wr 0 (fun xs => xs.map (·.1) = cellsS s) (fun pre => pre.map (·.1) <+: cellsS s) (cellsS s).length W := by
 intro lp J Jx hJ hJx hwr hY h0
 exact cells1_in hn lp s hbs hT hnT J Jx hY h0
end Go.Proofs.YtkfimbonmnoglaaGreatDoor
end
section
namespace Go.Proofs.YtkfimbonmnoglaaGreatDoor
open Go.RowKit Go.Rel Go.Draw Go.Solid
set_option maxRecDepth 100000
set_option maxHeartbeats 2000000 in
theorem meet_spec (a b : Sol) (w : World) : Calls Tryz.prog 55 #[solV a, solV b] w fun e w' => e = .returned (solV (a &&& b)) ∧ Below w.heap.size w w' := by
 go_enter Tryz.func55, Tryz.ntmps55
 go_wp2_with fail
 obtain ⟨W0, hW0⟩ : ∃ W0, W0 = ((w.alloc (.cells #[.int .u64 (pl a 0), .int .u64 (pl a 1), .int .u64 (pl a 2), .int .u64 (pl a 3), .int .u64 (pl a 4), .int .u64 (pl a 5), .int .u64 (pl a 6), .int .u64 (pl a 7)] 26)).alloc (.cells #[.int .u64 (pl b 0), .int .u64 (pl b 1), .int .u64 (pl b 2), .int .u64 (pl b 3), .int .u64 (pl b 4), .int .u64 (pl b 5), .int .u64 (pl b 6), .int .u64 (pl b 7)] 26)).alloc (.cells #[.int .u64 0, .int .u64 0, .int .u64 0, .int .u64 0, .int .u64 0, .int .u64 0, .int .u64 0, .int .u64 0] 26) := ⟨_, rfl⟩
 have b1 : Blk W0 w.heap.size #[.int .u64 (pl a 0), .int .u64 (pl a 1), .int .u64 (pl a 2), .int .u64 (pl a 3), .int .u64 (pl a 4), .int .u64 (pl a 5), .int .u64 (pl a 6), .int .u64 (pl a 7)] 26 := by subst hW0; exact (by repeat (first | with_reducible assumption | (refine Blk.at _ _ ?_; (simp; done)) | with_reducible refine Blk.alloc ?_ _ | with_reducible refine Blk.drew ?_ | with_reducible refine Blk.rowS ?_ _ | with_reducible refine Blk.rowO ?_ _ (by simp)))
 have b2 : Blk W0 (w.heap.size + 1) #[.int .u64 (pl b 0), .int .u64 (pl b 1), .int .u64 (pl b 2), .int .u64 (pl b 3), .int .u64 (pl b 4), .int .u64 (pl b 5), .int .u64 (pl b 6), .int .u64 (pl b 7)] 26 := by subst hW0; exact (by repeat (first | with_reducible assumption | (refine Blk.at _ _ ?_; (simp; done)) | with_reducible refine Blk.alloc ?_ _ | with_reducible refine Blk.drew ?_ | with_reducible refine Blk.rowS ?_ _ | with_reducible refine Blk.rowO ?_ _ (by simp)))
 have b3 : Blk W0 (w.heap.size + 1 + 1) #[.int .u64 0, .int .u64 0, .int .u64 0, .int .u64 0, .int .u64 0, .int .u64 0, .int .u64 0, .int .u64 0] 26 := by subst hW0; exact Blk.at _ _ (by simp)
 have hbel : Below w.heap.size w W0 := by subst hW0; exact (by repeat (first | with_reducible exact bel_refl _ | with_reducible assumption | with_reducible refine bel_drewN ?_ _ | with_reducible refine bel_drew ?_ | with_reducible refine bel_alloc ?_ _ | with_reducible refine bel_row ?_ ?_ _ | with_reducible refine bel_set ?_ ?_ _ | refine bel_trans ?_ (by with_reducible assumption) | (simp; done) | (simp; omega)))
 rw [← hW0]
 clear hW0
 have HB := Lib.hid (And.intro b1 (And.intro b2 (And.intro b3 hbel))); clear b1 b2 b3 hbel
 go_loopw [6] (fun iv wx => ∃ z : Nat, z ≤ 8 ∧ iv = .int .i64 z ∧ Hid (Blk wx w.heap.size (mixZ a (a &&& b) z) 26 ∧ W0.grownBy wx (some w.heap.size))) (fun iv _ => 8 - (intOf iv).toNat)
 case atStart => exact ⟨0, by omega, rfl, Lib.hid ⟨HB.out.1, gb_refl _ _⟩⟩
 case round =>
  obtain ⟨z, hz, rfl, HM⟩ := hrel
  by_cases hz8 : z < 8
  ·obtain ⟨BX, hgx⟩ := HM.out
   have cz : wr.cell? ⟨w.heap.size, z, none⟩ = some (.int .u64 (pl a z)) := by rw [BX.cell, mixZ_get _ _ hz8]
   have B2 := HB.out.2.1.gb hgx (by simp)
   have sz : wr.cell? ⟨w.heap.size + 1, z, none⟩ = some (.int .u64 (pl b z)) := by rw [B2.cell]; exact mixA_get (fun i => pl b i) hz8
   have fz := BX.free z
   have lx := BX.lt
   have ls := B2.lt
   have eo := bits_and_pl a b z
   have BXH := Lib.hid (And.intro BX hgx); clear BX hgx HM B2
   go_wp2_with fail
   refine Go.Rel.region_still_tail 7 (by kernel_rfl) (by kernel_rfl) ?_
   simp only [List.take_succ_cons, List.take_zero, List.drop_succ_cons, List.drop_zero]
   repeat still_step
   refine wpStill_nil ?_
   go_wp2_with fail
   go_roundw
   case rel =>
    refine ⟨z + 1, by omega, by go_num, Lib.hid ⟨?_, gb_set (gb_drew BXH.out.2) _ rfl _⟩⟩
    rw [← mixZ_set _ _ hz8]
    exact (BXH.out.1.drew).set z _
   case measure => simp [intOf]; omega
  ·obtain rfl : z = 8 := by omega
   have BX := HM.out.1
   rw [mixZ_end] at BX
   have cX := BX.cell
   have lX := BX.lt
   have B3 := HB.out.2.2.1.gb HM.out.2 (by simp; omega)
   have r3 := B3.row
   have hb := gb_bel HB.out.2.2.2 HM.out.2 (Nat.le_refl _)
   clear HM HB BX
   have cF := (B3.rowS #[.int .u64 (pl (a &&& b) 0), .int .u64 (pl (a &&& b) 1), .int .u64 (pl (a &&& b) 2), .int .u64 (pl (a &&& b) 3), .int .u64 (pl (a &&& b) 4), .int .u64 (pl (a &&& b) 5), .int .u64 (pl (a &&& b) 6), .int .u64 (pl (a &&& b) 7)]).cell
   rw [← B3.rw]
   clear B3
   go_wp2_with fail
   exact bodyPost_ret (v := solV (a &&& b)) (by simp [results, Tryz.results55, go_sem, cF]) rfl ⟨rfl, bel_row hb (by omega) _⟩
end Go.Proofs.YtkfimbonmnoglaaGreatDoor
end
section
namespace Go.Proofs.YtkfimbonmnoglaaGreatDoor
open Go.RowKit Go.Rel Go.Draw Go.Solid
set_option maxRecDepth 100000
set_option maxHeartbeats 2000000 in
theorem sin_spec (a b : Sol) (w : World) : Calls Tryz.prog 59 #[solV a, solV b] w fun e w' => e = .returned (.bool ((a &&& b) == a)) ∧ Below w.heap.size w w' := by
 have HM := Lib.hid (fun W => meet_spec a b W)
 go_enter Tryz.func59, Tryz.ntmps59
 go_wp2_with fail
 refine wp_region_grow 5 [Is (solV a), Is (solV b), Is (solV (a &&& b)), Is (solV a), Is (.bool ((a &&& b) == a))] (by kernel_rfl) (by kernel_rfl) rfl ⟨fun _ _ _ h _ => h, fun _ _ _ h _ => h, fun _ _ _ h _ => h, fun _ _ _ h _ => h, fun _ _ _ h _ => h, trivial⟩ ?_
 simp only [List.take_succ_cons, List.take_zero, List.drop_succ_cons, List.drop_zero]
 iterate 2 (refine rel_cons ?_ (fun _ => ?_); · intro w1 hb hF; have hc := (Grows.cells hb).1; have hf := (Grows.cells hb).2; (try simp [facts, Is] at hF); go_simp; exact Grows.refl _)
 refine rel_cons ?_ (fun v2 => ?_)
 ·intro w1 hb hF; have hc := (Grows.cells hb).1; have hf := (Grows.cells hb).2; try simp [facts, Is] at hF
  go_simp
  refine (HM.out _).mono ?_
  rintro e w2 ⟨rfl, hb2⟩
  exact ⟨rfl, hb2⟩
 iterate 2 (refine rel_cons ?_ (fun _ => ?_); · intro w1 hb hF; have hc := (Grows.cells hb).1; have hf := (Grows.cells hb).2; (try simp [facts, Is] at hF); go_simp; exact Grows.refl _)
 refine rel_nil ?_
 intro w1 hb hF
 simp [Is, Nat.forall_lt_succ_right] at hF
 simp only [Act.put, List.setIfInBounds_toArray, List.set_cons_succ, List.set_cons_zero, hF]
 clear hF
 have hb1 := Below.trans (B := w.heap.size) ((by repeat (first | with_reducible exact bel_refl _ | with_reducible assumption | with_reducible refine bel_drewN ?_ _ | with_reducible refine bel_drew ?_ | with_reducible refine bel_alloc ?_ _ | with_reducible refine bel_row ?_ ?_ _ | with_reducible refine bel_set ?_ ?_ _ | refine bel_trans ?_ (by with_reducible assumption) | (simp; done) | (simp; omega))) : Below w.heap.size w ((w.alloc (.cells #[.int .u64 (pl a 0), .int .u64 (pl a 1), .int .u64 (pl a 2), .int .u64 (pl a 3), .int .u64 (pl a 4), .int .u64 (pl a 5), .int .u64 (pl a 6), .int .u64 (pl a 7)] 26)).alloc (.cells #[.int .u64 (pl b 0), .int .u64 (pl b 1), .int .u64 (pl b 2), .int .u64 (pl b 3), .int .u64 (pl b 4), .int .u64 (pl b 5), .int .u64 (pl b 6), .int .u64 (pl b 7)] 26))) ((show Below _ _ w1 from hb).mono (by simp; omega))
 clear hb
 go_wp2_with fail
 go_ret
 exact ⟨rfl, (by repeat (first | with_reducible exact bel_refl _ | with_reducible assumption | with_reducible refine bel_drewN ?_ _ | with_reducible refine bel_drew ?_ | with_reducible refine bel_alloc ?_ _ | with_reducible refine bel_row ?_ ?_ _ | with_reducible refine bel_set ?_ ?_ _ | refine bel_trans ?_ (by with_reducible assumption) | (simp; done) | (simp; omega)))⟩
end Go.Proofs.YtkfimbonmnoglaaGreatDoor
end
