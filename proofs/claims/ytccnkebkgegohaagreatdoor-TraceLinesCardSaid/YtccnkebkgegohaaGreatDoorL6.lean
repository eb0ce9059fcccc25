import Derived.Test.YtccnkebkgegohaaGreatDoorL1
import Derived.Test.YtccnkebkgegohaaGreatDoorCards
import Derived.Test.YtccnkebkgegohaaGreatDoorTie
import Derived.Deep.DeepHandedRow
import Derived.Lib.LaidTab
import Derived.LaidSub
import Derived.Carry
import Derived.ProofKit
import Derived.Shelf.Vars
import Derived.Stop.LaidErr
import Derived.LaidMore
import Derived.LaidLaws
import Derived.OpenShut
import Derived.ChangeMaps5
import Derived.Deep.Slices
/-
  Given contracts of functions of the program, and laws for them, one behind the other.
-/
set_option linter.unusedVariables false
set_option linter.unusedSimpArgs false
set_option linter.unusedSectionVars false
section
namespace Go.Proofs.YtccnkebkgegohaaGreatDoor.Ln
open Go.ChangeShapes Go.WideShapes Go.ChangeAt Go.RowKit Go.Draw
set_option maxRecDepth 100000
/-! what the row wants of the world; a text opened -/
theorem gTab : Tryz.prog.globalNamed "math/bits.deBruijn64tab" = some 5 := by kernel_rfl
theorem gTabType : (Tryz.prog.globals[5]?).map (·.type) = some 290 := by kernel_rfl
theorem cellsOfTab : Tryz.prog.cellsOf 290 = 64 := by kernel_rfl
theorem cellsOfU8 : Tryz.prog.cellsOf 5 = 1 := by kernel_rfl
abbrev LAID : List (String × DataW Unit) := [("math/bits.deBruijn32tab", Rows.laid_math_bits_deBruijn32tab), ("math/bits.deBruijn64tab", Rows.laid_math_bits_deBruijn64tab)]
/-- what the rows' list gives: the table of the lowest bits -/
theorem table {W : World} (h : laidMetH Tryz.prog LAID W) : Tab W := by
 have h1 := h.filter (fun x => x.1 == "math/bits.deBruijn64tab")
 have h2 : Lib.TabIs Tryz.prog W "math/bits.deBruijn64tab" .u8 [0, 1, 56, 2, 57, 49, 28, 3, 61, 58, 42, 50, 38, 29, 17, 4, 62, 47, 59, 36, 45, 43, 51, 22, 53, 39, 33, 30, 24, 18, 12, 5, 63, 55, 48, 27, 60, 41, 37, 16, 46, 35, 44, 21, 52, 32, 23, 11, 54, 26, 40, 15, 34, 20, 31, 10, 25, 14, 19, 9, 13, 8, 7, 6] := Lib.tabIs_of_head (rest := []) gTab gTabType Tryz.underlying290 Tryz.underlying5 cellsOfU8 cellsOfTab h1
 intro k hk
 have h3 := h2.cell gTab k (by simpa using hk)
 rw [h3]
 have key : ∀ k, k < 64 → ([0, 1, 56, 2, 57, 49, 28, 3, 61, 58, 42, 50, 38, 29, 17, 4, 62, 47, 59, 36, 45, 43, 51, 22, 53, 39, 33, 30, 24, 18, 12, 5, 63, 55, 48, 27, 60, 41, 37, 16, 46, 35, 44, 21, 52, 32, 23, 11, 54, 26, 40, 15, 34, 20, 31, 10, 25, 14, 19, 9, 13, 8, 7, 6] : List Int).getD k 0 = ((tzTab.getD k 0 : Nat) : Int) := by decide +kernel
 rw [key k hk]
theorem star_es : "*" ++ "errors.errorString" = "*errors.errorString" := by decide
theorem row_es (u : TypeId) (h : Tryz.prog.typeName? 3 u = some "*errors.errorString") : u = 286 :=
 typeName_ptr_named (nm := "errors.errorString") (by rw [star_es]; kernel_rfl) (by kernel_rfl) (by decide) u (by rw [star_es]; exact h)
theorem cells_es : Tryz.prog.cellsOf 288 = 1 := by kernel_rfl
theorem cells_str : Tryz.prog.cellsOf 9 = 1 := by kernel_rfl
theorem gSy : Tryz.prog.globalNamed "strconv.ErrSyntax" = some 1 := by kernel_rfl
theorem gRg : Tryz.prog.globalNamed "strconv.ErrRange" = some 2 := by kernel_rfl
theorem gSyT : (Tryz.prog.globals[1]?).map (·.type) = some 166 := by kernel_rfl
theorem gRgT : (Tryz.prog.globals[2]?).map (·.type) = some 166 := by kernel_rfl
theorem maxLen_cell {W : World} (h : W.ShapedOpen Tryz.prog) : ∃ m, W.cell? ⟨0, 0, none⟩ = some (.int .i64 m) :=
 Go.Proofs.cell_of_shapedOpen_int (zero := #[.int .i64 0]) (t := 3) h (of_decide_eq_true (by kernel_rfl)) (by kernel_rfl) rfl (by kernel_rfl) (by kernel_rfl) Tryz.underlying3
abbrev LAID7 : List (String × DataW Unit) := Rows.traceLinesRow.laid
def Env (W : World) : Prop := (∃ m, W.cell? ⟨0, 0, none⟩ = some (.int .i64 m)) ∧ (∃ t v, W.cell? ⟨1, 0, none⟩ = some (.iface t v)) ∧ (∃ t v, W.cell? ⟨2, 0, none⟩ = some (.iface t v))
theorem env_of {W : World} (hL : laidMetH Tryz.prog Rows.traceLinesRow.laid W) (hS : W.ShapedOpen Tryz.prog) : Env W := by
 refine ⟨maxLen_cell hS, ?_, ?_⟩
 ·have h1 := hL.filter (fun x => x.1 == "strconv.ErrSyntax")
  have h2 : laidMet Tryz.prog [("strconv.ErrSyntax", Rows.laid_strconv_ErrSyntax)] W := h1
  obtain ⟨a, s, hv, _⟩ := laid_sentinel h2 gSy gSyT Tryz.underlying166 row_es Tryz.underlying286 Tryz.underlying288 rfl rfl Tryz.underlying9 cells_es cells_str
  exact ⟨_, _, by simpa using World.var?_cell gSy hv 0⟩
 ·have h1 := hL.filter (fun x => x.1 == "strconv.ErrRange")
  have h2 : laidMet Tryz.prog [("strconv.ErrRange", Rows.laid_strconv_ErrRange)] W := h1
  obtain ⟨a, s, hv, _⟩ := laid_sentinel h2 gRg gRgT Tryz.underlying166 row_es Tryz.underlying286 Tryz.underlying288 rfl rfl Tryz.underlying9 cells_es cells_str
  exact ⟨_, _, by simpa using World.var?_cell gRg hv 0⟩
theorem table7 {W : World} (h : laidMetH Tryz.prog Rows.traceLinesRow.laid W) : Tab W := by
 have h1 : laidMetH Tryz.prog LAID W := h.filter (fun x => x.1 == "math/bits.deBruijn32tab" || x.1 == "math/bits.deBruijn64tab")
 exact table h1
def litCells : DataW Unit → Array Value
 | .agg parts => (parts.map fun
  | .lit (.int k n) => Value.int k n
  | _ => undef).toArray
 | _ => #[]
noncomputable def laidWorld7 (os : Os) : World :=
 let w0 := World.doorLaid Tryz.prog 72 os
 { w0 with heap := w0.heap.modify 6 fun
   | .cells _ t frozen => .cells (litCells Go.Pinned.utf8First) t frozen
   | o => o }
theorem laid_met7 (os : Os) (args : Array Value) : laidMetH Tryz.prog Rows.traceLinesRow.laid ((laidWorld7 os).forCall (fun _ _ => 0) ⟨#[], args, []⟩).memory :=
 (show laidMet Tryz.prog Rows.traceLinesRow.laid _ from laidMet_of_run' 80 (by kernel_rfl) (by kernel_rfl))
theorem open_text {H : Type} {enc : TypeId × Value → H} {W : World} {base b0 : Nat} {r : Reach} {sp : Nat → Bool} {held : Bool} {v : Value} {d : DataW H} {p : List MemPlace} (hv : Value.okWide Tryz.prog W r b0 9 v) (h : DataW.Trod enc Tryz.prog W base sp held 9 v d p) : ∃ s : ByteArray, v = .string s := by
 obtain ⟨b, rfl, _⟩ := Go.ChangeMaps.open_string Tryz.underlying9 hv h
 exact ⟨b, rfl⟩
theorem envX_of {W : World} (hL : laidMetH Tryz.prog Rows.traceLinesRow.laid W) (hS : W.ShapedOpen Tryz.prog) : EnvX W := env_of hL hS
end Go.Proofs.YtccnkebkgegohaaGreatDoor.Ln
end
