import Derived.Test.YtkfimbonmnoglaaGreatDoorB27
import Derived.Shelf.Strings.OnBuilder
import Derived.Test.YtkfimbonmnoglaaGreatDoorProg
import Derived.Shelf.Strconv.Itoa0
import Derived.Shelf.LaysM
import Derived.Shelf.Strconv.Clone
import Derived.Shelf.Strconv.SyntaxError
import Derived.Shelf.LaysC
import Derived.Shelf.Strconv.ToError
import Derived.Shelf.Strconv.Lower
import Derived.Shelf.Strconv.RangeError
import Derived.Shelf.Strconv.ToErrorRange
import Derived.Test.YtkfimbonmnoglaaGreatDoorCards
import Derived.Test.YtkfimbonmnoglaaGreatDoorTie
import Derived.Deep.DeepHandedRow
import Derived.Lib.LaidTab
import Derived.LaidSub
import Derived.Carry
import Derived.ProofKit
import Derived.Deep.Cut
import Derived.Laws.Strings
/-
  Given contracts of functions of the program, and laws for them, one behind the other.
-/
set_option linter.unusedVariables false
set_option linter.unusedSimpArgs false
set_option linter.unusedSectionVars false
section
namespace Go.Solid
open Go.Draw
set_option maxRecDepth 100000
def rcF (s : Sol) (z y x : Int) : List Cl := ((rngI x 7).map fun x => ((x, y, z) : Cl)).filter (hasS s)
def rcG (s : Sol) (z y : Int) : List Cl := (rngI y 7).flatMap fun y => rcF s z y 0
def rcH (s : Sol) (z : Int) : List Cl := (rngI z 7).flatMap fun z => rcG s z 0
def rcY (s : Sol) (z y : Int) : List Cl := rcG s z y ++ rcH s (z + 1)
def rcX (s : Sol) (z y x : Int) : List Cl := rcF s z y x ++ rcY s z (y + 1)
end Go.Solid
end
section
namespace Go.Proofs
open Go.Shelf
def Tryz.lays156_ren : Go.Shelf.Ren := ⟨fun | 156 => 115 | 165 => 150 | 166 => 151 | 169 => 152 | 240 => 166 | 241 => 167 | 276 => 188 | 277 => 189 | n => n, fun | 31 => 102 | 9 => 9 | 3 => 3 | 4 => 4 | 0 => 0 | 20 => 20 | 72 => 139 | 76 => 143 | 70 => 136 | 37 => 137 | 75 => 142 | 127 => 164 | 164 => 183 | 5 => 5 | 80 => 145 | n => n, fun | n => n⟩
theorem Tryz.lays156 : Go.Proofs.Lays.n156 Tryz.prog Tryz.lays156_ren := {
 mixed := by kernel_rfl
 f156 := Tryz.func115.trans (congrArg some (by kernel_rfl))
 f165 := Tryz.func150.trans (congrArg some (by kernel_rfl))
 f166 := Tryz.func151.trans (congrArg some (by kernel_rfl))
 f169 := Tryz.func152.trans (congrArg some (by kernel_rfl))
 f240 := Tryz.func166.trans (congrArg some (by kernel_rfl))
 f241 := Tryz.func167.trans (congrArg some (by kernel_rfl))
 f276 := Tryz.func188.trans (congrArg some (by kernel_rfl))
 f277 := Tryz.func189.trans (congrArg some (by kernel_rfl))
 t0 := Tryz.underlying0
 a0 := Tryz.isAgg0
 z0 := Tryz.sizeOf0
 v0 := Tryz.zeroValue0
 t3 := Tryz.underlying3
 a3 := Tryz.isAgg3
 z3 := Tryz.sizeOf3
 v3 := Tryz.zeroValue3
 t4 := Tryz.underlying4
 a4 := Tryz.isAgg4
 z4 := Tryz.sizeOf4
 v4 := Tryz.zeroValue4
 t9 := Tryz.underlying9
 a9 := Tryz.isAgg9
 z9 := Tryz.sizeOf9
 v9 := Tryz.zeroValue9
 t20 := Tryz.underlying20
 a20 := Tryz.isAgg20
 z20 := Tryz.sizeOf20
 v20 := Tryz.zeroValue20
 t31 := Tryz.underlying102
 a31 := Tryz.isAgg102
 z31 := Tryz.sizeOf102
 v31 := Tryz.zeroValue102
 t37 := Tryz.underlying137
 a37 := Tryz.isAgg137
 z37 := Tryz.sizeOf137
 v37 := Tryz.zeroValue137
 t70 := Tryz.underlying136
 a70 := Tryz.isAgg136
 z70 := Tryz.sizeOf136
 v70 := Tryz.zeroValue136
 t72 := Tryz.underlying139
 a72 := Tryz.isAgg139
 z72 := Tryz.sizeOf139
 v72 := Tryz.zeroValue139
 t75 := Tryz.underlying142
 a75 := Tryz.isAgg142
 z75 := Tryz.sizeOf142
 v75 := Tryz.zeroValue142
 t76 := Tryz.underlying143
 a76 := Tryz.isAgg143
 z76 := Tryz.sizeOf143
 v76 := Tryz.zeroValue143
 t127 := Tryz.underlying164
 a127 := Tryz.isAgg164
 z127 := Tryz.sizeOf164
 v127 := Tryz.zeroValue164
 t164 := Tryz.underlying183
 a164 := Tryz.isAgg183
 z164 := Tryz.sizeOf183
 v164 := Tryz.zeroValue183 }
theorem Tryz.Builder_Extra_156 : Builder.Extra Tryz.prog Tryz.lays156_ren := {
 sizeBuilder := by kernel_rfl
 liesBuilder := by kernel_rfl
 t5 := Tryz.underlying5
 a5 := Tryz.isAgg5
 z5 := Tryz.sizeOf5
 v5 := Tryz.zeroValue5
 infoByte := by kernel_rfl
 cellsByte := by kernel_rfl
 sizeByte := by kernel_rfl
 neB5 := by decide }
open Go.RowKit in
open Go.RowKit in
theorem Tryz.strings_Join (bk o c : Nat) (xs : List ByteArray) (sep : ByteArray) (w : World) (hcells : ∀ (j : Nat) x, xs[j]? = some x → w.cell? ⟨bk, o + j, none⟩ = some (.string x)) (hbk : bk < w.heap.size) (hN : xs.length ≤ 140737488355328) (hcap : xs.length ≤ c) (hlen : (Lib.join (xs.map (·.data.toList)) sep.data.toList).length ≤ 140737488355328) :
  Calls Tryz.prog 115 #[.slice (some ⟨bk, o, none⟩) xs.length c, .string sep] w fun e w' => e = .returned (.string ⟨(Lib.join (xs.map (·.data.toList)) sep.data.toList).toArray⟩) ∧ Below w.heap.size w w' := Any.strings_Join Tryz.lays156 Tryz.Builder_Extra_156 bk o c xs sep w hcells hbk hN hcap hlen
end Go.Proofs
end
section
namespace Go.Proofs
open Go.Shelf
def Tryz.laysC245_ren : Go.Shelf.Ren := ⟨fun | 245 => 172 | 279 => 196 | 280 => 197 | 281 => 198 | 282 => 199 | 316 => 211 | 171 => 213 | 205 => 212 | 243 => 217 | 246 => 218 | 283 => 162 | 284 => 163 | 285 => 164 | 286 => 165 | 129 => 183 | 317 => 184 | 318 => 185 | 319 => 186 | 320 => 187 | 337 => 205 | 338 => 148 | n => n, fun | 9 => 9 | 3 => 3 | 75 => 142 | 167 => 190 | 4 => 4 | 168 => 193 | 210 => 204 | 37 => 137 | 0 => 0 | 127 => 164 | 145 => 217 | 143 => 215 | 2 => 2 | 171 => 160 | 53 => 24 | 5 => 5 | 173 => 162 | 212 => 181 | 51 => 178 | 20 => 20 | 213 => 182 | 46 => 50 | 232 => 208 | 233 => 158 | 80 => 145 | n => n, fun | 15 => 3 | 16 => 4 | 17 => 1 | 18 => 5 | 19 => 0 | n => n⟩
theorem Tryz.laysC245 : Go.Proofs.LaysC.n245 Tryz.prog Tryz.laysC245_ren := {
 mixed := by kernel_rfl
 f129 := Tryz.func183.trans (congrArg some (by kernel_rfl))
 f171 := Tryz.func213.trans (congrArg some (by kernel_rfl))
 f205 := Tryz.func212.trans (congrArg some (by kernel_rfl))
 f243 := Tryz.func217.trans (congrArg some (by kernel_rfl))
 f245 := Tryz.func172.trans (congrArg some (by kernel_rfl))
 f246 := Tryz.func218.trans (congrArg some (by kernel_rfl))
 f279 := Tryz.func196.trans (congrArg some (by kernel_rfl))
 f280 := Tryz.func197.trans (congrArg some (by kernel_rfl))
 f281 := Tryz.func198.trans (congrArg some (by kernel_rfl))
 f282 := Tryz.func199.trans (congrArg some (by kernel_rfl))
 f283 := Tryz.func162.trans (congrArg some (by kernel_rfl))
 f284 := Tryz.func163.trans (congrArg some (by kernel_rfl))
 f285 := Tryz.func164.trans (congrArg some (by kernel_rfl))
 f286 := Tryz.func165.trans (congrArg some (by kernel_rfl))
 f316 := Tryz.func211.trans (congrArg some (by kernel_rfl))
 f317 := Tryz.func184.trans (congrArg some (by kernel_rfl))
 f318 := Tryz.func185.trans (congrArg some (by kernel_rfl))
 f319 := Tryz.func186.trans (congrArg some (by kernel_rfl))
 f320 := Tryz.func187.trans (congrArg some (by kernel_rfl))
 f337 := Tryz.func205.trans (congrArg some (by kernel_rfl))
 f338 := Tryz.func148.trans (congrArg some (by kernel_rfl))
 t0 := Tryz.underlying0
 a0 := Tryz.isAgg0
 z0 := Tryz.sizeOf0
 v0 := Tryz.zeroValue0
 t2 := Tryz.underlying2
 a2 := Tryz.isAgg2
 z2 := Tryz.sizeOf2
 v2 := Tryz.zeroValue2
 t3 := Tryz.underlying3
 a3 := Tryz.isAgg3
 z3 := Tryz.sizeOf3
 v3 := Tryz.zeroValue3
 t4 := Tryz.underlying4
 a4 := Tryz.isAgg4
 z4 := Tryz.sizeOf4
 v4 := Tryz.zeroValue4
 t5 := Tryz.underlying5
 a5 := Tryz.isAgg5
 z5 := Tryz.sizeOf5
 v5 := Tryz.zeroValue5
 t9 := Tryz.underlying9
 a9 := Tryz.isAgg9
 z9 := Tryz.sizeOf9
 v9 := Tryz.zeroValue9
 t20 := Tryz.underlying20
 a20 := Tryz.isAgg20
 z20 := Tryz.sizeOf20
 v20 := Tryz.zeroValue20
 t37 := Tryz.underlying137
 a37 := Tryz.isAgg137
 z37 := Tryz.sizeOf137
 v37 := Tryz.zeroValue137
 t46 := Tryz.underlying50
 a46 := Tryz.isAgg50
 z46 := Tryz.sizeOf50
 v46 := Tryz.zeroValue50
 t51 := Tryz.underlying178
 a51 := Tryz.isAgg178
 z51 := Tryz.sizeOf178
 v51 := Tryz.zeroValue178
 t53 := Tryz.underlying24
 a53 := Tryz.isAgg24
 z53 := Tryz.sizeOf24
 v53 := Tryz.zeroValue24
 t75 := Tryz.underlying142
 a75 := Tryz.isAgg142
 z75 := Tryz.sizeOf142
 v75 := Tryz.zeroValue142
 t127 := Tryz.underlying164
 a127 := Tryz.isAgg164
 z127 := Tryz.sizeOf164
 v127 := Tryz.zeroValue164
 t143 := Tryz.underlying215
 a143 := Tryz.isAgg215
 z143 := Tryz.sizeOf215
 v143 := Tryz.zeroValue215
 t145 := Tryz.underlying217
 a145 := Tryz.isAgg217
 z145 := Tryz.sizeOf217
 v145 := Tryz.zeroValue217
 t167 := Tryz.underlying190
 a167 := Tryz.isAgg190
 z167 := Tryz.sizeOf190
 v167 := Tryz.zeroValue190
 t168 := Tryz.underlying193
 a168 := Tryz.isAgg193
 z168 := Tryz.sizeOf193
 v168 := Tryz.zeroValue193
 t171 := Tryz.underlying160
 a171 := Tryz.isAgg160
 z171 := Tryz.sizeOf160
 v171 := Tryz.zeroValue160
 t173 := Tryz.underlying162
 a173 := Tryz.isAgg162
 z173 := Tryz.sizeOf162
 v173 := Tryz.zeroValue162
 t210 := Tryz.underlying204
 a210 := Tryz.isAgg204
 z210 := Tryz.sizeOf204
 v210 := Tryz.zeroValue204
 t212 := Tryz.underlying181
 a212 := Tryz.isAgg181
 z212 := Tryz.sizeOf181
 v212 := Tryz.zeroValue181
 t213 := Tryz.underlying182
 a213 := Tryz.isAgg182
 z213 := Tryz.sizeOf182
 t232 := Tryz.underlying208
 a232 := Tryz.isAgg208
 z232 := Tryz.sizeOf208
 v232 := Tryz.zeroValue208
 t233 := Tryz.underlying158
 a233 := Tryz.isAgg158
 z233 := Tryz.sizeOf158
 v233 := Tryz.zeroValue158
 g15 := by kernel_rfl
 g16 := by kernel_rfl
 g17 := by kernel_rfl
 g18 := by kernel_rfl
 g19 := by kernel_rfl
 t80 := Tryz.underlying145
 a80 := Tryz.isAgg145
 z80 := Tryz.sizeOf145
 v80 := Tryz.zeroValue145
 i0 := by kernel_rfl
 i2 := by kernel_rfl
 i3 := by kernel_rfl
 i4 := by kernel_rfl
 i5 := by kernel_rfl
 i9 := by kernel_rfl
 i20 := by kernel_rfl
 i37 := by kernel_rfl
 i46 := by kernel_rfl
 i51 := by kernel_rfl
 i53 := by kernel_rfl
 i75 := by kernel_rfl
 i80 := by kernel_rfl
 i127 := by kernel_rfl
 i143 := by kernel_rfl
 i145 := by kernel_rfl
 i167 := by kernel_rfl
 i168 := by kernel_rfl
 i171 := by kernel_rfl
 i173 := by kernel_rfl
 i210 := by kernel_rfl
 i212 := by kernel_rfl
 i232 := by kernel_rfl
 i233 := by kernel_rfl
 m15 := by kernel_rfl
 m16 := by kernel_rfl
 m17 := by kernel_rfl
 m18 := by kernel_rfl
 m19 := by kernel_rfl
 c0 := by kernel_rfl
 c2 := by kernel_rfl
 c3 := by kernel_rfl
 c4 := by kernel_rfl
 c5 := by kernel_rfl
 c9 := by kernel_rfl
 c20 := by kernel_rfl
 c37 := by kernel_rfl
 c46 := by kernel_rfl
 c51 := by kernel_rfl
 c53 := by kernel_rfl
 c75 := by kernel_rfl
 c80 := by kernel_rfl
 c127 := by kernel_rfl
 c143 := by kernel_rfl
 c145 := by kernel_rfl
 c167 := by kernel_rfl
 c168 := by kernel_rfl
 c171 := by kernel_rfl
 c173 := by kernel_rfl
 c210 := by kernel_rfl
 c212 := by kernel_rfl
 c213 := by kernel_rfl
 c232 := by kernel_rfl
 c233 := by kernel_rfl }
open Go.RowKit in
theorem Tryz.strconv_toError_syntax (fn s : ByteArray) (base bits : Int) (ev : Value) (w : World) (hlim : s.size ≤ 281474976710656) (hv : w.cell? ⟨3, 0, none⟩ = some ev) (hev : ev = .nilIface ∨ ∃ te pe, ev = .iface te pe) :
  Calls Tryz.prog 172 #[.string fn, .string s, .int .i64 base, .int .i64 bits, .iface 190 (.int .i64 2)] w fun e w' => ∃ N, e = .returned (.iface 193 (.pointer (some ⟨N, 0, none⟩))) ∧ w.heap.size ≤ N ∧ w'.heap[N]? = some (.cells #[.string fn, .string s, ev] 204 (0, 0)) ∧ Below w.heap.size w w' := Any.strconv_toError_syntax Tryz.laysC245 fn s base bits ev w hlim hv hev
def Tryz.lays321_ren : Go.Shelf.Ren := ⟨fun | 321 => 194 | n => n, fun | 5 => 5 | n => n, fun | n => n⟩
theorem Tryz.lays321 : Go.Proofs.Lays.n321 Tryz.prog Tryz.lays321_ren := {
 mixed := by kernel_rfl
 f321 := Tryz.func194.trans (congrArg some (by kernel_rfl))
 t5 := Tryz.underlying5
 a5 := Tryz.isAgg5
 z5 := Tryz.sizeOf5
 v5 := Tryz.zeroValue5 }
open Go.RowKit in
theorem Tryz.internal_strconv_lower (c : Int) (w : World) :
  Calls Tryz.prog 194 #[.int .u8 c] w fun e w' => e = .returned (.int .u8 (bits .or .u8 c 32)) ∧ w' = w := Any.internal_strconv_lower Tryz.lays321 c w
open Go.RowKit in
theorem Tryz.strconv_toError_range (fn s : ByteArray) (base bits : Int) (ev : Value) (w : World) (hlim : s.size ≤ 281474976710656) (hv : w.cell? ⟨4, 0, none⟩ = some ev) (hev : ev = .nilIface ∨ ∃ te pe, ev = .iface te pe) :
  Calls Tryz.prog 172 #[.string fn, .string s, .int .i64 base, .int .i64 bits, .iface 190 (.int .i64 1)] w fun e w' => ∃ N, e = .returned (.iface 193 (.pointer (some ⟨N, 0, none⟩))) ∧ w.heap.size ≤ N ∧ w'.heap[N]? = some (.cells #[.string fn, .string s, ev] 204 (0, 0)) ∧ Below w.heap.size w w' := Any.strconv_toError_range Tryz.laysC245 fn s base bits ev w hlim hv hev
end Go.Proofs
end
section
namespace Go.Proofs.YtkfimbonmnoglaaGreatDoor
open Go.ChangeShapes Go.WideShapes Go.ChangeAt Go.RowKit Go.Draw
set_option maxRecDepth 100000
theorem ownK : ownKnob Tryz.prog.godebug = none := by kernel_rfl
theorem laidO : laidOutB Tryz.prog = true := by kernel_rfl
theorem and_t {a b : Bool} (h : a = true) (k : b = true) : (a && b) = true := by rw [h, k]; rfl
theorem gMaps : mapsRowed Tryz.prog = true := by kernel_rfl
theorem gStops : (Tryz.prog.stops == []) = true := by kernel_rfl
theorem gKnobs : (Tryz.prog.stopKnobs == []) = true := by kernel_rfl
theorem gHeard : Tryz.prog.stopsHeard = true := by kernel_rfl
theorem gEnter : Tryz.prog.mayEnter = true := by kernel_rfl
theorem cMain : Tryz.pinned.checked.prog.mainIs = some (true, ("2d2b98d2e7a6d467bd98fd00f57c4e37e19420a44b0c74c4b8b93e866a403526" : String).toList) := by kernel_rfl
end Go.Proofs.YtkfimbonmnoglaaGreatDoor
end
section
namespace Go.Proofs.YtkfimbonmnoglaaGreatDoor
open Go.RowKit Go.Rel Go.Draw Go.Solid
set_option maxRecDepth 100000
attribute [local go_sem] Oper.semAt_some
/-- a list of solids in memory, opened -/
def SlO (W : World) (a : Option Addr) (l : List Sol) : Prop := l = [] ∨ ∃ b off, a = some ⟨b, off, none⟩ ∧ Cells W b off 8 (l.map solL)
theorem SlO.mono {W W' : World} {a : Option Addr} {l : List Sol} (h : SlO W a l) (hb : Below W.heap.size W W') : SlO W' a l := by
 rcases h with h | ⟨b, off, h1, h2⟩
 ·exact .inl h
 ·exact .inr ⟨b, off, h1, h2.mono hb h2.1⟩
theorem SlO.at {W : World} {a : Option Addr} {l : List Sol} (h : SlO W a l) {k : Nat} {x : Sol} (hx : l[k]? = some x) : ∃ b off, a = some ⟨b, off, none⟩ ∧ Cells W b off 8 (l.map solL) := by
 rcases h with rfl | h
 ·cases hx
 ·exact h
theorem SlS.opened {W : World} {v : Value} {l : List Sol} (h : SlS W v l) : ∃ a c, v = .slice a l.length c ∧ SlO W a l := by
 obtain ⟨a, c, hv, _, _, hc⟩ := h
 refine ⟨a, c, by rw [hv, List.length_map], ?_⟩
 rcases hc with hc | hc
 ·exact .inl (List.map_eq_nil_iff.1 hc)
 ·exact .inr hc
theorem Cells.row {W : World} {b off k : Nat} {xs : List (List Value)} (h : Cells W b off k xs) {g : Nat} (hne : b ≠ g) (cs : Array Value) : Cells (W.setRow g cs) b off k xs :=
 ⟨by rw [setRow_size]; exact h.1, fun i j u hu => (cell_row_other _ _ _ _ _ hne).trans (h.2 i j u hu)⟩
end Go.Proofs.YtkfimbonmnoglaaGreatDoor
end
section
namespace Go.Proofs.YtkfimbonmnoglaaGreatDoor
open Go.RowKit Go.Rel Go.Draw Go.Solid
set_option maxRecDepth 100000
def withS (s : Sol) (c : Cl) : Sol := s ||| Go.Solid.one (bitN c)
end Go.Proofs.YtkfimbonmnoglaaGreatDoor
end
section
namespace Go.Proofs.YtkfimbonmnoglaaGreatDoor
open Go.RowKit Go.Rel Go.Draw Go.Solid
set_option maxRecDepth 100000
/-- a list of cells in memory, opened -/
def ClO (base : Nat) (W : World) (a : Option Addr) (l : List Cl) : Prop := l = [] ∨ ∃ b off, a = some ⟨b, off, none⟩ ∧ Cells W b off 3 (l.map clL) ∧ base ≤ b
theorem Cells.rowC {W : World} {b off k : Nat} {xs : List (List Value)} (h : Cells W b off k xs) {g : Nat} (hne : b ≠ g) (cs : Array Value) : Cells (W.setRow g cs) b off k xs :=
 ⟨by rw [setRow_size]; exact h.1, fun i j u hu => (cell_row_other _ _ _ _ _ hne).trans (h.2 i j u hu)⟩
theorem ClO.mono {base : Nat} {W W' : World} {a : Option Addr} {l : List Cl} (h : ClO base W a l) (hb : Below W.heap.size W W') : ClO base W' a l := by
 rcases h with h | ⟨b, off, h1, h2, h3⟩
 ·exact .inl h
 ·exact .inr ⟨b, off, h1, h2.mono hb h2.1, h3⟩
theorem ClO.row {base : Nat} {W : World} {a : Option Addr} {l : List Cl} (h : ClO base W a l) {g : Nat} (hg : g < base) (cs : Array Value) : ClO base (W.setRow g cs) a l := by
 rcases h with h | ⟨b, off, h1, h2, h3⟩
 ·exact .inl h
 ·exact .inr ⟨b, off, h1, h2.rowC (by omega) cs, h3⟩
theorem ClO.at {base : Nat} {W : World} {a : Option Addr} {l : List Cl} (h : ClO base W a l) {k : Nat} {x : Cl} (hx : l[k]? = some x) : ∃ b off, a = some ⟨b, off, none⟩ ∧ Cells W b off 3 (l.map clL) ∧ base ≤ b := by
 rcases h with rfl | h
 ·cases hx
 ·exact h
theorem OwnCl.opened {W : World} {base : Nat} {v : Value} {l : List Cl} (h : OwnCl W base v l) : ∃ a c, v = .slice a l.length c ∧ ClO base W a l := by
 obtain ⟨a, c, hv, _, _, hc⟩ := h.sl
 rw [List.length_map] at hv
 refine ⟨a, c, hv, ?_⟩
 rcases hc with hc | ⟨b, off, ha, hc⟩
 ·exact .inl (List.map_eq_nil_iff.1 hc)
 ·refine .inr ⟨b, off, ha, hc, (h.lt b ?_).1⟩
  rw [hv, ha]; rfl
/-- what some cells, mapped, make -/
def accP (f : Cl → Cl) (L : List Cl) (i : Nat) : Sol := (L.take i).foldl (fun a c => withS a (f c)) 0
theorem zero_sols : (#[.int .u64 (pl (0 : Sol) 0), .int .u64 (pl (0 : Sol) 1), .int .u64 (pl (0 : Sol) 2), .int .u64 (pl (0 : Sol) 3), .int .u64 (pl (0 : Sol) 4), .int .u64 (pl (0 : Sol) 5), .int .u64 (pl (0 : Sol) 6), .int .u64 (pl (0 : Sol) 7)] : Array Value) = #[.int .u64 0, .int .u64 0, .int .u64 0, .int .u64 0, .int .u64 0, .int .u64 0, .int .u64 0, .int .u64 0] := by
 have h : ∀ i, i < 8 → pl (0 : Sol) i = 0 := fun i hi => by
  obtain rfl | rfl | rfl | rfl | rfl | rfl | rfl | rfl : i = 0 ∨ i = 1 ∨ i = 2 ∨ i = 3 ∨ i = 4 ∨ i = 5 ∨ i = 6 ∨ i = 7 := by omega
  all_goals decide +kernel
 rw [h 0 (by decide), h 1 (by decide), h 2 (by decide), h 3 (by decide), h 4 (by decide), h 5 (by decide), h 6 (by decide), h 7 (by decide)]
theorem zero_solV : solV (0 : Sol) = .agg #[.int .u64 0, .int .u64 0, .int .u64 0, .int .u64 0, .int .u64 0, .int .u64 0, .int .u64 0, .int .u64 0] := congrArg Value.agg zero_sols
attribute [local irreducible] accP turnC
end Go.Proofs.YtkfimbonmnoglaaGreatDoor
end
section
namespace Go.Proofs.YtkfimbonmnoglaaGreatDoor
open Go.RowKit Go.Rel Go.Draw Go.Solid
set_option maxRecDepth 100000
abbrev hexT : ByteArray := ⟨#[48, 49, 50, 51, 52, 53, 54, 55, 56, 57, 97, 98, 99, 100, 101, 102]⟩
theorem hex_cut (u : Nat) : hexT.extract (u % 16) (u % 16 + 1) = ⟨#[hexD (u % 16)]⟩ := by
 have h : ∀ r : Fin 16, hexT.extract r.val (r.val + 1) = ⟨#[hexD r.val]⟩ := by decide +kernel
 exact h ⟨u % 16, Nat.mod_lt _ (by decide)⟩
theorem bytes_app (l m : List UInt8) : (⟨l.toArray⟩ : ByteArray) ++ ⟨m.toArray⟩ = ⟨(l ++ m).toArray⟩ := by
 apply ByteArray.ext
 simp
set_option maxHeartbeats 4000000 in
theorem refHex_small {u : Nat} (h : u < 16) (w : World) : Calls Tryz.prog 120 #[.int .u64 u] w fun e w' => e = .returned (.string ⟨(hexS u).toArray⟩) ∧ Below w.heap.size w w' := by
 rw [hexS_small h]
 have hc := hex_cut u
 have HC : Hid (hexT.extract (u % 16) (u % 16 + 1) = ⟨[hexD u].toArray⟩) := Lib.hid (by rw [hc, Nat.mod_eq_of_lt h])
 clear hc
 go_enter Tryz.func120, Tryz.ntmps120
 go_wp2_with fail
 go_ret
 exact ⟨by rw [← HC.out]; rfl, Below.refl _ _⟩
set_option maxHeartbeats 4000000 in
theorem refHex_n : ∀ (n u : Nat), u < 16 ^ (n + 1) → u < 18446744073709551616 → ∀ w : World, Calls Tryz.prog 120 #[.int .u64 u] w fun e w' => e = .returned (.string ⟨(hexS u).toArray⟩) ∧ Below w.heap.size w w' := by
 intro n
 induction n with
 | zero => intro u h _ w; exact refHex_small (by simpa using h) w
 | succ n ih =>
  intro u h h64 w
  by_cases hs : u < 16
  ·exact refHex_small hs w
  ·have h1 : u / 16 < 16 ^ (n + 1) := by rw [Nat.pow_succ] at h; omega
   have H := Lib.hid (ih (u / 16) h1 (by omega) w)
   have hq : ((u / 16 : Nat) : Int) = (u : Int) / 16 := by omega
   rw [hq] at H
   rw [hexS_step (by omega) h64]
   have hc := hex_cut u
   obtain ⟨B, hB⟩ : ∃ B : ByteArray, B = ⟨(hexS (u / 16)).toArray⟩ := ⟨_, rfl⟩
   rw [← hB] at H
   have HC : Hid (B ++ hexT.extract (u % 16) (u % 16 + 1) = ⟨(hexS (u / 16) ++ [hexD (u % 16)]).toArray⟩) := Lib.hid (by rw [hc, hB]; exact bytes_app _ _)
   have hu : ¬ (u : Int) < 16 := by omega
   have hw : IntKind.u64.wrap ((u : Int) / 16) = (u : Int) / 16 := IntWalk.u64_in _ ⟨by omega, by omega⟩
   have hbs : B.size ≤ 17 := by rw [hB]; exact hexN_len 16 (u / 16)
   have hsz : ¬ 9223372036854775807 < B.size + (min (u % 16 + 1) 16 - u % 16) := by omega
   clear hc hq hB h1 h h64 hs ih hbs
   go_enter Tryz.func120, Tryz.ntmps120
   go_wp2_with fail
   refine H.out.mono ?_
   rintro e w1 ⟨rfl, hb⟩
   have HB := Lib.hid hb
   clear hb
   go_wp2_with fail
   go_ret
   exact ⟨by rw [← HC.out]; rfl, HB.out⟩
theorem refHex_spec {u : Nat} (h : u < 18446744073709551616) (w : World) : Calls Tryz.prog 120 #[.int .u64 u] w fun e w' => e = .returned (.string ⟨(hexS u).toArray⟩) ∧ Below w.heap.size w w' := refHex_n 15 u (by omega) h w
end Go.Proofs.YtkfimbonmnoglaaGreatDoor
end
section
namespace Go.Proofs.YtkfimbonmnoglaaGreatDoor
open Go.RowKit Go.Rel Go.Draw Go.Solid
set_option maxRecDepth 100000
def lastP (s : Sol) : Nat → Nat
 | 0 => 0
 | k + 1 => if plN s k = 0 then lastP s k else k
theorem lastP_lt (s : Sol) : ∀ k, lastP s k ≤ k
 | 0 => Nat.le_refl _
 | k + 1 => by
  have := lastP_lt s k
  unfold lastP
  split <;> omega
theorem lastP_seven (s : Sol) : lastP s 8 ≤ 7 := by
 have := lastP_lt s 7
 unfold lastP
 split <;> omega
/-- the text of the planes up to one -/
def wrP (s : Sol) : Nat → List UInt8
 | 0 => hexS (plN s 0)
 | k + 1 => wrP s k ++ 46 :: hexS (plN s (k + 1))
theorem wrP_len (s : Sol) : ∀ k, (wrP s k).length ≤ 18 * (k + 1)
 | 0 => by have := hexN_len 16 (plN s 0); show (hexN 16 (plN s 0)).length ≤ _; omega
 | k + 1 => by
  have ih := wrP_len s k
  have := hexN_len 16 (plN s (k + 1))
  unfold wrP
  rw [List.length_append, List.length_cons]
  show _ + ((hexN 16 (plN s (k + 1))).length + 1) ≤ _
  omega
def wrS (s : Sol) : List UInt8 := wrP s (lastP s 8)
theorem bytes_dot (l m : List UInt8) : ((⟨l.toArray⟩ : ByteArray) ++ ⟨#[46]⟩) ++ ⟨m.toArray⟩ = ⟨(l ++ 46 :: m).toArray⟩ := by
 have e : (⟨#[46]⟩ : ByteArray) = ⟨[(46 : UInt8)].toArray⟩ := rfl
 rw [e, bytes_app, bytes_app, List.append_assoc]
 rfl
theorem hexS_len (u : Nat) : (hexS u).length ≤ 17 := hexN_len 16 u
attribute [local irreducible] wrP lastP hexS plN
set_option maxHeartbeats 8000000 in
theorem refWrite_spec (s : Sol) (w : World) : Calls Tryz.prog 50 #[solV s] w fun e w' => e = .returned (.string ⟨(wrS s).toArray⟩) ∧ Below w.heap.size w w' := by
 have HHx := Lib.hid fun k W => refHex_spec (plN_lt s k) W
 have HS : Hid (∀ k, lastP s (k + 1) = if plN s k = 0 then lastP s k else k) := Lib.hid fun k => by conv => lhs; unfold lastP
 have HP : Hid (∀ k, wrP s (k + 1) = wrP s k ++ 46 :: hexS (plN s (k + 1))) := Lib.hid fun k => by conv => lhs; unfold wrP
 have HP0 : Hid (wrP s 0 = hexS (plN s 0)) := Lib.hid (by unfold wrP; rfl)
 have HL0 : Hid (lastP s 0 = 0) := Lib.hid (by unfold lastP; rfl)
 have HL7 := Lib.hid (lastP_seven s)
 have HLN := Lib.hid fun k => wrP_len s k
 obtain ⟨R, hR⟩ : ∃ R, R = wrS s := ⟨_, rfl⟩
 rw [← hR]
 have HR : Hid (R = wrP s (lastP s 8)) := Lib.hid (by rw [hR]; rfl)
 clear hR
 go_enter Tryz.func50, Tryz.ntmps50
 go_wp2_with fail
 obtain ⟨W0, hW0⟩ : ∃ W0, W0 = w.alloc (.cells #[.int .u64 (pl s 0), .int .u64 (pl s 1), .int .u64 (pl s 2), .int .u64 (pl s 3), .int .u64 (pl s 4), .int .u64 (pl s 5), .int .u64 (pl s 6), .int .u64 (pl s 7)] 26) := ⟨_, rfl⟩
 have HB : Hid (Blk W0 w.heap.size #[.int .u64 (pl s 0), .int .u64 (pl s 1), .int .u64 (pl s 2), .int .u64 (pl s 3), .int .u64 (pl s 4), .int .u64 (pl s 5), .int .u64 (pl s 6), .int .u64 (pl s 7)] 26 ∧ Below w.heap.size w W0) := Lib.hid (by rw [hW0]; exact ⟨Blk.new _ _ _, (by repeat (first | with_reducible exact bel_refl _ | with_reducible assumption | with_reducible refine bel_drewN ?_ _ | with_reducible refine bel_drew ?_ | with_reducible refine bel_alloc ?_ _ | with_reducible refine bel_row ?_ ?_ _ | with_reducible refine bel_set ?_ ?_ _ | refine bel_trans ?_ (by with_reducible assumption) | (simp; done) | (simp; omega)))⟩)
 rw [← hW0]
 clear hW0
 go_loopw [3, 4] (fun lv zv wx => ∃ k : Nat, k ≤ 8 ∧ zv = .int .i64 k ∧ lv = .int .i64 (lastP s k : Nat) ∧ Hid (Blk wx w.heap.size #[.int .u64 (pl s 0), .int .u64 (pl s 1), .int .u64 (pl s 2), .int .u64 (pl s 3), .int .u64 (pl s 4), .int .u64 (pl s 5), .int .u64 (pl s 6), .int .u64 (pl s 7)] 26 ∧ Below w.heap.size w wx)) (fun _ zv _ => 8 - (intOf zv).toNat)
 case atStart => exact ⟨0, by omega, rfl, by rw [HL0.out]; rfl, HB⟩
 case round =>
  clear HB
  obtain ⟨k, hk, rfl, rfl, HM⟩ := hrel
  by_cases hk8 : k < 8
  ·have cz : wr.cell? ⟨w.heap.size, k, none⟩ = some (.int .u64 ((plN s k : Nat) : Int)) := by rw [HM.out.1.cell, ← pl_plN]; exact getZ s hk8
   have lz := HM.out.1.lt
   have hkI : (k : Int) < 8 := by omega
   have hst := HS.out k
   obtain ⟨u, hu⟩ : ∃ u, u = plN s k := ⟨_, rfl⟩
   rw [← hu] at cz hst
   have HST := Lib.hid hst
   clear hst hu
   by_cases h0 : u = 0
   ·have HV : Hid (lastP s (k + 1) = lastP s k) := Lib.hid (by rw [HST.out, if_pos h0])
    have h0i : (u : Int) = 0 := by omega
    go_wp2_with fail
    go_roundw
    case rel => exact ⟨k + 1, by omega, by go_num, by rw [HV.out], HM⟩
    case measure => simp [intOf]; omega
   ·have HV : Hid (lastP s (k + 1) = k) := Lib.hid (by rw [HST.out, if_neg h0])
    have h0i : ¬ (u : Int) = 0 := by omega
    go_wp2_with fail
    go_roundw
    case rel => exact ⟨k + 1, by omega, by go_num, by rw [HV.out], HM⟩
    case measure => simp [intOf]; omega
  ·obtain rfl : k = 8 := by omega
   have c0 : wr.cell? ⟨w.heap.size, 0, none⟩ = some (.int .u64 ((plN s 0 : Nat) : Int)) := by rw [HM.out.1.cell, ← pl_plN]; exact getZ s (by omega)
   have lz := HM.out.1.lt
   have HH0 := Lib.hid fun W => HHx.out 0 W
   obtain ⟨n, hn⟩ : ∃ n, n = lastP s 8 := ⟨_, rfl⟩
   rw [← hn] at HR HL7 ⊢
   clear hn
   go_wp2_with fail
   clear c0 lz
   refine (HH0.out _).mono ?_
   rintro e w2 ⟨rfl, hb⟩
   have HM2 := Lib.hid (And.intro (HM.out.1.grow hb) (bel_trans HM.out.2 hb))
   clear hb HM
   have hl7 := HL7.out
   go_wp2_with fail
   go_loopw [5, 6] (fun ov zv wx => ∃ k : Nat, k ≤ n ∧ zv = .int .i64 ((k : Int) + 1) ∧ ov = .string ⟨(wrP s k).toArray⟩ ∧ Hid (Blk wx w.heap.size #[.int .u64 (pl s 0), .int .u64 (pl s 1), .int .u64 (pl s 2), .int .u64 (pl s 3), .int .u64 (pl s 4), .int .u64 (pl s 5), .int .u64 (pl s 6), .int .u64 (pl s 7)] 26 ∧ Below w.heap.size w wx)) (fun _ zv _ => 9 - (intOf zv).toNat)
   case atStart => exact ⟨0, by omega, rfl, by rw [HP0.out], HM2⟩
   case round =>
    clear HM2
    obtain ⟨k, hk, rfl, rfl, HM⟩ := hrel
    by_cases hkn : k + 1 ≤ n
    ·have cz : wr.cell? ⟨w.heap.size, k + 1, none⟩ = some (.int .u64 ((plN s (k + 1) : Nat) : Int)) := by rw [HM.out.1.cell, ← pl_plN]; exact getZ s (by omega)
     have lz := HM.out.1.lt
     have hkI : (k : Int) + 1 ≤ (n : Int) := by omega
     have hk8 : (k : Int) + 1 < 8 := by omega
     have hk0 : (0 : Int) ≤ (k : Int) + 1 := by omega
     have hkt : ((k : Int) + 1).toNat = k + 1 := by omega
     have HHk := Lib.hid fun W => HHx.out (k + 1) W
     have hln := HLN.out k
     have hlx := hexS_len (plN s (k + 1))
     have HPk := Lib.hid (HP.out k)
     obtain ⟨A, hA⟩ : ∃ A : ByteArray, A = ⟨(wrP s k).toArray⟩ := ⟨_, rfl⟩
     obtain ⟨C, hC⟩ : ∃ C : ByteArray, C = ⟨(hexS (plN s (k + 1))).toArray⟩ := ⟨_, rfl⟩
     have has : A.size ≤ 144 := by rw [hA]; show (wrP s k).length ≤ 144; omega
     have hcs : C.size ≤ 17 := by rw [hC]; exact hlx
     have HAC : Hid (A ++ ⟨#[46]⟩ ++ C = ⟨(wrP s (k + 1)).toArray⟩) := Lib.hid (by rw [hA, hC, bytes_dot, HPk.out])
     rw [← hC] at HHk
     rw [← hA]
     clear hln hlx hA hC
     go_wp2_with fail
     clear cz lz
     refine (HHk.out _).mono ?_
     rintro e w4 ⟨rfl, hb⟩
     have HM4 := Lib.hid (And.intro (HM.out.1.grow hb) (bel_trans HM.out.2 hb))
     have hwz : wrap64 ((k : Int) + 1 + 1) = (k : Int) + 1 + 1 := IntWalk.wrap64_in _ ⟨by omega, by omega⟩
     clear hb HM
     go_wp2_with fail
     go_roundw
     case rel => exact ⟨k + 1, by omega, by first | rfl | go_num | (simp; done), by rw [← HAC.out], HM4⟩
     case measure => simp [intOf]; omega
    ·obtain rfl : k = n := by omega
     have hkI : ¬ (k : Int) + 1 ≤ (k : Int) := by omega
     go_wp2_with fail
     go_ret
     exact ⟨by rw [HR.out]; rfl, HM.out.2⟩
end Go.Proofs.YtkfimbonmnoglaaGreatDoor
end
section
namespace Go.Proofs.YtkfimbonmnoglaaGreatDoor
open Go.RowKit Go.Rel Go.Draw Go.Solid
set_option maxRecDepth 100000
theorem joinTail_snoc (sep : List UInt8) (r : List (List UInt8)) (y : List UInt8) : Lib.joinTail sep (r ++ [y]) = Lib.joinTail sep r ++ (sep ++ y) := by
 unfold Lib.joinTail
 rw [List.map_append, List.flatten_append]
 simp
theorem join_wrP (s : Sol) : ∀ k, Lib.join ((List.range (k + 1)).map fun j => hexS (plN s j)) [46] = wrP s k
 | 0 => by rw [show List.range (0 + 1) = [0] from rfl, List.map_singleton, Lib.join_one]; rfl
 | k + 1 => by
  have ih := join_wrP s k
  have e : wrP s (k + 1) = wrP s k ++ 46 :: hexS (plN s (k + 1)) := rfl
  rw [e, ← ih, List.range_succ, List.map_append, List.map_singleton]
  cases hr : (List.range (k + 1)).map fun j => hexS (plN s j) with
  | nil => simp at hr
  | cons x r => rw [List.cons_append, Lib.join_cons, Lib.join_cons, joinTail_snoc, List.append_assoc]; rfl
theorem hex_zero {u : Nat} (h : u ≠ 0) (hu : u < 18446744073709551616) : ((⟨(hexS u).toArray⟩ : ByteArray).toList == [48]) = false := by
 rw [beq_eq_false_iff_ne, ByteArray.toList_eq]
 intro e2
 replace e2 : hexS u = [48] := e2
 by_cases hs : u < 16
 ·rw [hexS_small hs] at e2
  have h3 : ∀ r : Fin 16, r.val ≠ 0 → hexD r.val ≠ 48 := by decide +kernel
  exact h3 ⟨u, hs⟩ h (List.cons.inj e2).1
 ·rw [hexS_step (by omega) hu] at e2
  have h4 := congrArg List.length e2
  have h5 : 0 < (hexS (u / 16)).length := by
   by_cases h6 : u / 16 < 16
   ·rw [hexS_small h6]; simp
   ·rw [hexS_step (by omega) (by omega)]; simp
  simp only [List.length_append, List.length_cons, List.length_nil] at h4
  omega
theorem join_planes (s : Sol) {g cap m : Nat} {W : World} (h1 : m + 1 ≤ cap) (h2 : m < 8) (h3 : g < W.heap.size) (h4 : ∀ j, j < 8 → W.cell? ⟨g, j, none⟩ = some (hexV s j)) :
  Calls Tryz.prog 115 #[.slice (some ⟨g, 0, none⟩) (m + 1) cap, .string ⟨#[46]⟩] W fun e w' => e = .returned (.string ⟨(wrP s m).toArray⟩) ∧ Below W.heap.size W w' := by
 obtain ⟨xs, hxs⟩ : ∃ xs : List ByteArray, xs = (List.range (m + 1)).map fun j => (⟨(hexS (plN s j)).toArray⟩ : ByteArray) := ⟨_, rfl⟩
 have hlen : xs.length = m + 1 := by rw [hxs]; simp
 have hmap : xs.map (·.data.toList) = (List.range (m + 1)).map fun j => hexS (plN s j) := by
  rw [hxs, List.map_map]
  exact List.map_congr_left fun j _ => by simp
 have hj : Lib.join (xs.map (·.data.toList)) (⟨#[46]⟩ : ByteArray).data.toList = wrP s m := by rw [hmap]; exact join_wrP s m
 have H := Tryz.strings_Join g 0 cap xs ⟨#[46]⟩ W (fun j x hx => by
  rw [hxs, List.getElem?_map] at hx
  have hjm : j < m + 1 := by
   refine Nat.lt_of_not_le fun hle => ?_
   rw [List.getElem?_eq_none (by simpa using hle)] at hx
   cases hx
  rw [List.getElem?_range hjm] at hx
  cases hx
  rw [Nat.zero_add]
  exact h4 j (by omega)) h3 (by omega) (by omega) (by rw [hj]; have := wrP_len s m; omega)
 rw [hj, hlen] at H
 exact H
theorem hexS_zero : hexS 0 = [48] := rfl
attribute [local irreducible] wrP lastP hexS plN
set_option maxHeartbeats 8000000 in
theorem solidWrite_n (s : Sol) (w : World) (hT : w.cell? ⟨0, 15, none⟩ = some (.int .u8 4)) :
  Calls Tryz.prog 47 #[.agg #[.int .u64 (pl s 0), .int .u64 (pl s 1), .int .u64 (pl s 2), .int .u64 (pl s 3), .int .u64 (pl s 4), .int .u64 (pl s 5), .int .u64 (pl s 6), .int .u64 (pl s 7)]] w fun e w' => e = .returned (.string ⟨(wrS s).toArray⟩) ∧ Below w.heap.size w w' := by
 have l5 := block_lt_of_cell hT
 have HF : Hid (∀ k W, Below w.heap.size w W → Calls Tryz.prog 114 #[.int .u64 (pl s k), .int .i64 16] W fun e w' => e = .returned (hexV s k) ∧ Below W.heap.size W w') := Lib.hid fun k W hb => by
  rw [pl_plN]; exact FormatUint16 _ (plN_lt s k) W ((hb.cell (p := ⟨0, 15, none⟩) l5).trans hT)
 have HIX : Hid (∀ k : Nat, k < 8 → ∀ W, (Instr.index 26 (.agg #[.int .u64 (pl s 0), .int .u64 (pl s 1), .int .u64 (pl s 2), .int .u64 (pl s 3), .int .u64 (pl s 4), .int .u64 (pl s 5), .int .u64 (pl s 6), .int .u64 (pl s 7)]) (.int .i64 (k : Int))).run Tryz.prog W = .ok (.int .u64 (pl s k)) W) := Lib.hid (fun k hk W => (idxS s hk W).trans (by rw [pl_uI s k]))
 obtain ⟨i9, hi, hz0, hz1, hz2⟩ := info_parts infoStr
 have HI9 := Lib.hid (And.intro hi (And.intro hz0 (And.intro hz1 hz2))); clear hi hz0 hz1 hz2
 have HZ : Hid (∀ k, plN s k = 0 → hexV s k = .string ⟨#[48]⟩) := Lib.hid fun k h1 => by unfold hexV; rw [h1, hexS_zero]
 have HZN : Hid (∀ k, plN s k ≠ 0 → ∃ b : ByteArray, hexV s k = .string b ∧ (b.toList == [48]) = false) := Lib.hid fun k h1 => ⟨_, rfl, hex_zero h1 (plN_lt s k)⟩
 have HSP : Hid (∀ k, lastP s (k + 1) = if plN s k = 0 then lastP s k else k) := Lib.hid fun k => by conv => lhs; unfold lastP
 have HR : Hid (wrS s = wrP s (lastP s 8)) := Lib.hid rfl
 have HJN : Hid (∀ (g cap m : Nat) (W : World), m + 1 ≤ cap → m < 8 → g < W.heap.size → (∀ j, j < 8 → W.cell? ⟨g, j, none⟩ = some (hexV s j)) → Calls Tryz.prog 115 #[.slice (some ⟨g, 0, none⟩) (m + 1) cap, .string ⟨#[46]⟩] W fun e w' => e = .returned (.string ⟨(wrP s m).toArray⟩) ∧ Below W.heap.size W w') := Lib.hid fun g cap m W h1 h2 h3 h4 => join_planes s h1 h2 h3 h4
 have hv : ∀ k, ∃ b, hexV s k = .string b := fun k => ⟨_, rfl⟩
 have HVV := Lib.hid hv
 clear hT l5 hv
 obtain ⟨hx, hhx⟩ : ∃ hx, hx = hexV s := ⟨_, rfl⟩
 rw [← hhx] at HF HZ HZN HVV HJN
 clear hhx
 go_enter Tryz.func47, Tryz.ntmps47
 go_wp2_with fail
 go_loopw [3, 7] (fun u y wr => ∃ k : Nat, k ≤ 8 ∧ y = .int .i64 k ∧ Hid (wr.ownsRow w.heap.size 9 1 u k ((List.range k).map hx)) ∧ Below w.heap.size w wr) (fun _ y _ => 8 - (intOf y).toNat)
 case atStart => exact ⟨0, by omega, rfl, Lib.hid (World.ownsRow_nil _ _ _ _), (by repeat (first | with_reducible exact bel_refl _ | with_reducible assumption | with_reducible refine bel_drewN ?_ _ | with_reducible refine bel_drew ?_ | with_reducible refine bel_alloc ?_ _ | with_reducible refine bel_row ?_ ?_ _ | with_reducible refine bel_set ?_ ?_ _ | refine bel_trans ?_ (by with_reducible assumption) | (simp; done) | (simp; omega)))⟩
 case round =>
  obtain ⟨k, hk, rfl, hO, hbel⟩ := hrel
  by_cases hlt : k < 8
  ·have hix := HIX.out k hlt
   go_wp2_with fail
   refine (HF.out k wr hbel).mono ?_
   rintro e w1 ⟨rfl, hb1⟩
   have hbel1 : Below w.heap.size w w1 := bel_trans hbel hb1
   have HO1 := Lib.hid (own_gb hO.out hb1)
   have hsz := hbel1.size
   clear hb1 hbel
   obtain ⟨bs, hbs⟩ := HVV.out k
   have HBS := Lib.hid hbs
   rw [hbs]
   clear hbs
   go_wp2_with (first
    | (at_builtin; refine wpList_append_own _ rfl _ _ 102 rfl w.heap.size 9 i9 (.string ⟨#[]⟩) 1 16 Tryz.underlying102 HI9.out.1 HI9.out.2.1 HI9.out.2.2.1 HI9.out.2.2.2 rfl (by decide) _ _ _ rfl (HO1.out.alloc _) ⟨w1.heap.size, 0, none⟩ 1 1 [.string bs] rfl rfl (cell_one_new _ _ _) (fun x hx => by simp at hx; subst hx; rfl) (by unfold maxLen; omega) (by omega) (by simp; omega) ?_; intro v' w3 hown' hgrow3 hnil3))
   have hB3 : Below w.heap.size w w3 := (bel_alloc hbel1 _).grown hgrow3 (by simp; omega) (fun j hj => by have := (HO1.out.lt j hj).1; omega)
   have HO3 := Lib.hid (And.intro hown' hB3); clear hown' hgrow3 hnil3 hB3
   go_wp2_with fail
   go_roundw
   case rel => exact ⟨k + 1, by omega, by go_num, Lib.hid (by rw [range_snoc, HBS.out]; exact HO3.out.1), HO3.out.2⟩
   case measure => simp [intOf]; omega
  ·have hk8 : k = 8 := by omega
   subst hk8
   have ho := hO.out
   refine Veil.out ?_
   obtain ⟨g, cap, cur, rfl, hcap, hcm, hcell⟩ : ∃ g cap cur, u3 = .slice (some ⟨g, 0, none⟩) 8 cap ∧ 8 ≤ cap ∧ cap ≤ 9223372036854775807 ∧ (Blk wr g cur 9 ∧ ∀ j, j < 8 → wr.cell? ⟨g, j, none⟩ = some (hx j)) := by
    rcases ho.2 with ⟨_, h0⟩ | ⟨g, cap, cur, e, hb, hg, hnc, hcm, hcs, ht⟩
    ·omega
    ·refine ⟨g, cap, cur, e, hnc, by unfold maxLen at hcm; omega, hg, fun j hj => ?_⟩
     rw [Blk.cell hg]
     have h1 : ((List.range 8).map hx)[j]? = some (hx j) := by simp [hj]
     rw [← ht, List.getElem?_take, if_pos (by omega)] at h1
     simpa using h1
   refine Veil.on ?_
   have lg := hcell.1.lt
   have HC := Lib.hid hcell.2
   have HB := Lib.hid hbel
   clear ho hO hcell hbel hlt hk
   go_wp2_with fail
   have HCP := Lib.hid hcap
   go_loopw [3] (fun u wr => ∃ m : Nat, 1 ≤ m ∧ m ≤ 8 ∧ u = .slice (some ⟨g, 0, none⟩) m cap ∧ lastP s m = lastP s 8 ∧ Below w.heap.size w wr ∧ g < wr.heap.size ∧ Hid (∀ j, j < 8 → wr.cell? ⟨g, j, none⟩ = some (hx j))) (fun u _ => sliceLen u)
   case atStart => exact ⟨8, by omega, by omega, rfl, rfl, HB.out, lg, HC⟩
   case round =>
    obtain ⟨m, h1, h8, rfl, hlast, hbel, lg, hC⟩ := hrel
    have HLS := Lib.hid hlast
    clear hlast
    obtain ⟨m', rfl⟩ : ∃ m', m = m' + 1 := ⟨m - 1, by omega⟩
    have hcp := HCP.out
    by_cases hm : m' = 0
    ·subst hm
     have HJ := Lib.hid (HJN.out g cap 0 wr (by omega) (by omega) lg hC.out)
     have HW : Hid (wrS s = wrP s 0) := Lib.hid (by
      rw [HR.out, ← HLS.out, HSP.out 0]
      split
      ·unfold lastP; rfl
      ·rfl)
     have HBB := Lib.hid hbel
     clear hbel
     go_wp2_with fail
     refine HJ.out.mono ?_
     rintro e w3 ⟨rfl, hb3⟩
     have HB3 := Lib.hid (bel_trans HBB.out hb3)
     clear hb3
     go_wp2_with fail
     go_ret
     exact ⟨by rw [HW.out]; rfl, HB3.out⟩
    ·obtain ⟨k, rfl⟩ : ∃ k, m' = k + 1 := ⟨m' - 1, by omega⟩
     have hst := HSP.out (k + 1)
     by_cases h0 : plN s (k + 1) = 0
     ·have c0 := hC.out (k + 1) (by omega)
      rw [HZ.out (k + 1) h0] at c0
      rw [if_pos h0] at hst
      have HL2 := Lib.hid (hst.symm.trans HLS.out)
      have HBB := Lib.hid hbel
      clear hbel hm h0 hst
      go_wp2_with fail
      go_roundw
      case rel => ((repeat apply Exists.intro); exact ⟨⟨k + 1, by omega, by omega, rfl, HL2.out, HBB.out, lg, hC⟩, rfl⟩)
      case measure => simp [sliceLen]
     ·have c0 := hC.out (k + 1) (by omega)
      obtain ⟨b, hb, hb2⟩ := HZN.out (k + 1) h0
      rw [hb] at c0
      rw [if_neg h0] at hst
      have HW : Hid (wrS s = wrP s (k + 1)) := Lib.hid (by rw [HR.out, ← HLS.out, hst])
      have HJ := Lib.hid (HJN.out g cap (k + 1) wr (by omega) (by omega) lg hC.out)
      have HBB := Lib.hid hbel
      clear hbel hm h0 hst hb
      go_wp2_with fail
      refine HJ.out.mono ?_
      rintro e w3 ⟨rfl, hb3⟩
      have HB3 := Lib.hid (bel_trans HBB.out hb3)
      clear hb3
      go_wp2_with fail
      go_ret
      exact ⟨by rw [HW.out]; rfl, HB3.out⟩
end Go.Proofs.YtkfimbonmnoglaaGreatDoor
end
