import Derived.Test.YtlbhjikkpbknnaaGreatDoorHQ10
import Derived.Shelf.LaysM
import Derived.Shelf.LaysC
import Derived.Shelf.Strconv.Itoa0
import Derived.Shelf.Strconv.Itoa1
import Derived.Shelf.Strconv.Itoa2
import Derived.Shelf.Strconv.Itoa3
import Derived.Shelf.Strconv.AtoiAll
import Derived.Shelf.Strings.Split
import Derived.Shelf.Slices.Turned
import Derived.Test.YtlbhjikkpbknnaaGreatDoorProg
/-
  Given contracts of functions of the program, and laws for them, one behind the other.
-/
set_option linter.unusedVariables false
set_option linter.unusedSimpArgs false
set_option linter.unusedSectionVars false
section
namespace Go.Proofs.YtlbhjikkpbknnaaGreatDoor
open Go.RowKit Go.Rel Go.Draw
set_option maxRecDepth 100000
/-! the first move with which a piece can go -/
theorem mvs_X {w : World} {v : Value} {l : List Mo} (h : SlM w v l) : SlX w v (l.map intMv) := by
 have : (l.map intMv).map mvIL = l.map mvL := by rw [List.map_map]; rfl
 show Sl w 3 v ((l.map intMv).map mvIL)
 rw [this]; exact h
theorem ways_open {w : World} {mv nv : Value} {m : List Sol} (h : WaysR w mv nv m) {p : Nat} (hp : p < m.length) : ∃ bm om cm bn on cn Um Vm, mv = .slice (some ⟨bm, om, none⟩) m.length cm ∧ nv = .slice (some ⟨bn, on, none⟩) m.length cn ∧ m.length ≤ 9223372036854775807 ∧ bm < w.heap.size ∧ w.cell? ⟨bm, om + p, none⟩ = some Um ∧ bn < w.heap.size ∧ w.cell? ⟨bn, on + p, none⟩ = some Vm ∧ SlM w Um ((wayR m p).map (·.1)) ∧ SlLL w Vm ((wayR m p).map fun y => intsL y.2) := by
 obtain ⟨⟨us, h1, h2, h3⟩, vs, k1, k2, k3⟩ := h
 obtain ⟨b, cc, rfl, hl, hc⟩ := vals_open h1
 obtain ⟨b', cc', rfl, _, hc'⟩ := vals_open k1
 obtain ⟨U, hU⟩ : ∃ U, us[p]? = some U := ⟨_, List.getElem?_eq_getElem (by omega)⟩
 obtain ⟨V, hV⟩ : ∃ V, vs[p]? = some V := ⟨_, List.getElem?_eq_getElem (by omega)⟩
 obtain ⟨ib, io, rfl, lib, hcu⟩ := hc p U hU
 obtain ⟨jb, jo, rfl, ljb, hcv⟩ := hc' p V hV
 rw [h2] at hl ⊢
 rw [k2]
 exact ⟨ib, io, cc, jb, jo, cc', U, V, rfl, rfl, hl, lib, hcu, ljb, hcv, h3 p U hU, k3 p V hV⟩
theorem all_intsL (l g : List Nat) : ((intsL l).all fun x => (intsL g).contains x) = l.all fun i => g.contains i := by
 unfold intsL
 rw [List.all_map]
 congr 1
 funext i
 exact intsL_contains g i
def fstV : Option Mv → Value
 | some x => .tuple #[mvV x, .bool true]
 | none => .tuple #[.agg #[.int .i64 0, .int .i64 0, .int .i64 0], .bool false]
theorem find_at2 {α : Type} (f : α → Bool) {l : List α} {k : Nat} {x : α} (hx : l[k]? = some x) (h0 : ∀ y ∈ l.take k, f y = false) (h1 : f x = true) : l.find? f = some x := by
 have hp : l.take k ++ [x] <+: l := by
  rw [show l.take k ++ [x] = l.take (k + 1) by rw [List.take_add_one, hx]; rfl]
  exact List.take_prefix _ _
 exact find_at f hp h0 h1
theorem mv_store {w : World} {b : Nat} {a0 a1 a2 : Value} {t : TypeId} (h : Blk w b #[a0, a1, a2] t) (x0 x1 x2 : Value) : Blk (((w.setCell ⟨b, 0, none⟩ x0).setCell ⟨b, 1, none⟩ x1).setCell ⟨b, 2, none⟩ x2) b #[x0, x1, x2] t := ((h.set 0 x0).set 1 x1).set 2 x2
theorem mv_store_bel {w w0 : World} {b : Nat} (hb : Below w0.heap.size w0 w) (h : w0.heap.size ≤ b) (x0 x1 x2 : Value) : Below w0.heap.size w0 (((w.setCell ⟨b, 0, none⟩ x0).setCell ⟨b, 1, none⟩ x1).setCell ⟨b, 2, none⟩ x2) := bel_set (bel_set (bel_set hb h _) h _) h _
set_option maxHeartbeats 8000000 in
theorem firstR_spec {w : World} {mv nv gv : Value} {m : List Sol} {g : List Nat} {p : Nat} (HW : WaysR w mv nv m) (HG : SlI w gv (intsL g)) (hp : p < m.length) : Calls Tryz.prog 92 #[.agg #[mv, nv], gv, .int .i64 (p : Int)] w fun e w' => e = .returned (fstV (firstR m g p)) ∧ Below w.heap.size w w' := by
 obtain ⟨bm, om, cm, bn, on, cn, Um, Vm, rfl, rfl, hml, lbm, hcm, lbn, hcn, hSM, hSL⟩ := ways_open HW hp
 obtain ⟨bu, cu, rfl, hul, hcu⟩ := mvs_open (mvs_X hSM)
 obtain ⟨bv, cv, rfl, hvl, hcv⟩ := sll_cell hSL
 simp only [List.length_map] at hul hvl hcu hcv
 obtain ⟨W0, hW0⟩ : ∃ W0, W0 = wayR m p := ⟨_, rfl⟩
 obtain ⟨R, hR⟩ : ∃ R, R = firstR m g p := ⟨_, rfl⟩
 rw [← hR]
 unfold firstR at hR
 rw [← hW0] at hul hvl hcu hcv hR
 have hpI : (p : Int) < (m.length : Int) := by omega
 obtain ⟨n, hn⟩ : ∃ n, n = m.length := ⟨_, rfl⟩
 rw [← hn] at hpI hml
 rw [← hn]
 simp only [List.length_map, ← hW0] at hcm hcn
 have HH := Lib.hid (And.intro HG (And.intro hcu (And.intro hcv hR)))
 clear HW HG hSM hSL hcu hcv hR hW0 hn hp
 obtain ⟨K, hK⟩ : ∃ K, K = W0.length := ⟨_, rfl⟩
 rw [← hK] at hul hvl hcm hcn
 have HK := Lib.hid hK
 clear hK
 go_enter Tryz.func92, Tryz.ntmps92
 go_wp2_with fail
 obtain ⟨wb, hwb⟩ : ∃ wb, wb = (w.alloc (.cells #[.slice (some ⟨bm, om, none⟩) n cm, .slice (some ⟨bn, on, none⟩) n cn] 111)).alloc (.cells #[.int .i64 0, .int .i64 0, .int .i64 0] 25) := ⟨_, rfl⟩
 have hb : Below w.heap.size w wb := by subst hwb; exact (by repeat (first | with_reducible exact bel_refl _ | with_reducible assumption | with_reducible refine bel_drewN ?_ _ | with_reducible refine bel_drew ?_ | with_reducible refine bel_alloc ?_ _ | with_reducible refine bel_row ?_ ?_ _ | with_reducible refine bel_set ?_ ?_ _ | refine bel_trans ?_ (by with_reducible assumption) | (simp; done) | (simp; omega)))
 have B3 : Blk wb w.heap.size #[.slice (some ⟨bm, om, none⟩) n cm, .slice (some ⟨bn, on, none⟩) n cn] 111 := by subst hwb; exact (Blk.new _ _ _).alloc _
 have B6 : Blk wb (w.heap.size + 1) #[.int .i64 0, .int .i64 0, .int .i64 0] 25 := by subst hwb; exact Blk.at _ _ (by simp)
 rw [← hwb]
 clear hwb
 have c0 := B3.cell 0; have c1 := B3.cell 1; have l3 := B3.lt
 have d0 := B6.cell 0; have d1 := B6.cell 1; have d2 := B6.cell 2; have l6 := B6.lt
 simp only [List.getElem?_toArray, List.getElem?_cons_zero, List.getElem?_cons_succ] at c0 c1 d0 d1 d2
 have cm' := ((Grows.cells hb).1 bm _ lbm).trans hcm
 have cn' := ((Grows.cells hb).1 bn _ lbn).trans hcn
 have lbm' : bm < wb.heap.size := Nat.lt_of_lt_of_le lbm hb.size
 have lbn' : bn < wb.heap.size := Nat.lt_of_lt_of_le lbn hb.size
 have HB := Lib.hid (And.intro hb (And.intro B6 (And.intro lbm lbn)))
 obtain ⟨N0, hN0⟩ : ∃ N0, N0 = w.heap.size := ⟨_, rfl⟩
 rw [← hN0] at c0 c1 l3 d0 d1 d2 l6 ⊢
 have HN0 := Lib.hid hN0
 clear B3 B6 hcm hcn lbm lbn hb hN0
 go_loopw [8] (fun iv wx => ∃ (k : Nat), k ≤ K ∧ iv = .int .i64 k ∧ Hid (∀ y ∈ W0.take k, (y.2.all fun i => g.contains i) = false) ∧ wx = wb) (fun iv _ => K - (intOf iv).toNat)
 case atStart => exact ⟨0, Nat.zero_le _, rfl, Lib.hid (fun y hy => by simp at hy), rfl⟩
 case round =>
  obtain ⟨k, hk, rfl, HI, hwr⟩ := hrel
  subst hwr
  by_cases hlt : k < K
  ·obtain ⟨y, hy⟩ : ∃ y, W0[k]? = some y := ⟨_, List.getElem?_eq_getElem (by rw [← HK.out]; exact hlt)⟩
   obtain ⟨x, L⟩ := y
   obtain ⟨ib, io, rfl, lib, e0, e1, e2⟩ := HH.out.2.1 k (intMv x) (by simp [hy])
   obtain ⟨jb, jo, u, rfl, ljb, eu, hsu⟩ := HH.out.2.2.1 k (intsL L) (by simp [hy])
   have e0' := ((Grows.cells HB.out.1).1 ib _ lib).trans e0
   have e1' := ((Grows.cells HB.out.1).1 ib _ lib).trans e1
   have e2' := ((Grows.cells HB.out.1).1 ib _ lib).trans e2
   have eu' := ((Grows.cells HB.out.1).1 jb _ ljb).trans eu
   have lib' := Nat.lt_of_lt_of_le lib HB.out.1.size
   have ljb' := Nat.lt_of_lt_of_le ljb HB.out.1.size
   obtain ⟨pu, cuu, rfl, _, _⟩ := ints_open hsu
   have HPT := Lib.hid (part_spec (hsu.mono HB.out.1) (HH.out.1.mono HB.out.1))
   have HY := Lib.hid hy
   clear hy hsu e0 e1 e2 eu lib ljb
   go_wp2_with fail
   refine HPT.out.mono ?_
   rintro e w2 ⟨rfl, hw2⟩
   have hw3 := hw2.symm
   subst hw3
   clear hw2 HPT
   rw [all_intsL]
   cases ha : (L.all fun i => g.contains i)
   ·have HA := Lib.hid ha; clear ha
    go_wp2_with fail
    refine ⟨⟨k + 1, by omega, by simp, Lib.hid ?_, trivial⟩, by simp [intOf]; omega⟩
    intro z hz
    rw [List.take_add_one, HY.out] at hz
    rcases List.mem_append.1 hz with h | h
    ·exact HI.out z h
    ·simp at h; rw [h]; exact HA.out
   ·have HA := Lib.hid (show R = some x by rw [HH.out.2.2.2, find_at2 _ HY.out HI.out ha]; rfl)
    clear ha
    have f0 : wr.frozen? ⟨N0 + 1, 0, none⟩ = false := by rw [HN0.out]; exact HB.out.2.1.free 0
    have f1 : wr.frozen? ⟨N0 + 1, 1, none⟩ = false := by rw [HN0.out]; exact HB.out.2.1.free 1
    have f2 : wr.frozen? ⟨N0 + 1, 2, none⟩ = false := by rw [HN0.out]; exact HB.out.2.1.free 2
    go_wp2_with fail
    have BS := mv_store (HN0.out ▸ HB.out.2.1) (.int .i64 ((intMv x).fst)) (.int .i64 ((intMv x).snd.fst)) (.int .i64 ((intMv x).snd.snd))
    have s0 := BS.cell 0; have s1 := BS.cell 1; have s2 := BS.cell 2
    simp only [List.getElem?_toArray, List.getElem?_cons_zero, List.getElem?_cons_succ] at s0 s1 s2
    refine bodyPost_ret (v := .tuple #[.agg #[.int .i64 ((intMv x).fst), .int .i64 ((intMv x).snd.fst), .int .i64 ((intMv x).snd.snd)], .bool true]) (by simp [results, Tryz.results92, go_sem, s0, s1, s2]) rfl ⟨?_, mv_store_bel HB.out.1 (by rw [HN0.out]; omega) _ _ _⟩
    rw [HA.out]; rfl
  ·have HKK := Lib.hid (show R = none by
    rw [HH.out.2.2.2, find_no _ (fun y hy => HI.out y (by rw [List.take_of_length_le (by rw [← HK.out]; omega)]; exact hy))]; rfl)
   have hdk : decide ((k : Int) < (K : Int)) = false := decide_eq_false (by omega)
   have f0 : wr.frozen? ⟨N0 + 1, 0, none⟩ = false := by rw [HN0.out]; exact HB.out.2.1.free 0
   have f1 : wr.frozen? ⟨N0 + 1, 1, none⟩ = false := by rw [HN0.out]; exact HB.out.2.1.free 1
   have f2 : wr.frozen? ⟨N0 + 1, 2, none⟩ = false := by rw [HN0.out]; exact HB.out.2.1.free 2
   go_wp2_with fail
   have BS := mv_store (HN0.out ▸ HB.out.2.1) (.int .i64 (0)) (.int .i64 (0)) (.int .i64 (0))
   have s0 := BS.cell 0; have s1 := BS.cell 1; have s2 := BS.cell 2
   simp only [List.getElem?_toArray, List.getElem?_cons_zero, List.getElem?_cons_succ] at s0 s1 s2
   refine bodyPost_ret (v := .tuple #[.agg #[.int .i64 (0), .int .i64 (0), .int .i64 (0)], .bool false]) (by simp [results, Tryz.results92, go_sem, s0, s1, s2]) rfl ⟨?_, mv_store_bel HB.out.1 (by rw [HN0.out]; omega) _ _ _⟩
   rw [HKK.out]; rfl
end Go.Proofs.YtlbhjikkpbknnaaGreatDoor
end
section
/-! contracts of the library, laid at this program -/
namespace Go.Proofs
open Go.Shelf
def Tryz.lays171_ren : Go.Shelf.Ren := ⟨fun | 171 => 111 | 243 => 141 | 246 => 158 | 283 => 182 | 284 => 183 | 285 => 184 | 286 => 185 | 129 => 181 | 317 => 198 | 318 => 199 | 319 => 200 | 320 => 120 | 337 => 145 | 338 => 124 | n => n, fun | 3 => 3 | 9 => 9 | 2 => 2 | 4 => 4 | 171 => 212 | 0 => 0 | 53 => 62 | 37 => 180 | 5 => 5 | 173 => 214 | 212 => 235 | 51 => 184 | 20 => 20 | 213 => 236 | 46 => 81 | 232 => 201 | 233 => 187 | n => n, fun | 17 => 4 | 18 => 1 | 19 => 0 | n => n⟩
theorem Tryz.lays171 : Go.Proofs.Lays.n171 Tryz.prog Tryz.lays171_ren := {
 mixed := by kernel_rfl
 f129 := Tryz.func181.trans (congrArg some (by kernel_rfl))
 f171 := Tryz.func111.trans (congrArg some (by kernel_rfl))
 f243 := Tryz.func141.trans (congrArg some (by kernel_rfl))
 f246 := Tryz.func158.trans (congrArg some (by kernel_rfl))
 f283 := Tryz.func182.trans (congrArg some (by kernel_rfl))
 f284 := Tryz.func183.trans (congrArg some (by kernel_rfl))
 f285 := Tryz.func184.trans (congrArg some (by kernel_rfl))
 f286 := Tryz.func185.trans (congrArg some (by kernel_rfl))
 f317 := Tryz.func198.trans (congrArg some (by kernel_rfl))
 f318 := Tryz.func199.trans (congrArg some (by kernel_rfl))
 f319 := Tryz.func200.trans (congrArg some (by kernel_rfl))
 f320 := Tryz.func120.trans (congrArg some (by kernel_rfl))
 f337 := Tryz.func145.trans (congrArg some (by kernel_rfl))
 f338 := Tryz.func124.trans (congrArg some (by kernel_rfl))
 t0 := Tryz.underlying0
 a0 := Tryz.isAgg0
 z0 := Tryz.sizeOf0
 v0 := Tryz.zeroValue0
 t2 := Tryz.underlying2
 a2 := Tryz.isAgg2
 z2 := Tryz.sizeOf2
 v2 := Tryz.zeroValue2
 t3 := Tryz.underlying3
 a3 := Tryz.isAgg3
 z3 := Tryz.sizeOf3
 v3 := Tryz.zeroValue3
 t4 := Tryz.underlying4
 a4 := Tryz.isAgg4
 z4 := Tryz.sizeOf4
 v4 := Tryz.zeroValue4
 t5 := Tryz.underlying5
 a5 := Tryz.isAgg5
 z5 := Tryz.sizeOf5
 v5 := Tryz.zeroValue5
 t9 := Tryz.underlying9
 a9 := Tryz.isAgg9
 z9 := Tryz.sizeOf9
 v9 := Tryz.zeroValue9
 t20 := Tryz.underlying20
 a20 := Tryz.isAgg20
 z20 := Tryz.sizeOf20
 v20 := Tryz.zeroValue20
 t37 := Tryz.underlying180
 a37 := Tryz.isAgg180
 z37 := Tryz.sizeOf180
 v37 := Tryz.zeroValue180
 t46 := Tryz.underlying81
 a46 := Tryz.isAgg81
 z46 := Tryz.sizeOf81
 v46 := Tryz.zeroValue81
 t51 := Tryz.underlying184
 a51 := Tryz.isAgg184
 z51 := Tryz.sizeOf184
 v51 := Tryz.zeroValue184
 t53 := Tryz.underlying62
 a53 := Tryz.isAgg62
 z53 := Tryz.sizeOf62
 v53 := Tryz.zeroValue62
 t171 := Tryz.underlying212
 a171 := Tryz.isAgg212
 z171 := Tryz.sizeOf212
 v171 := Tryz.zeroValue212
 t173 := Tryz.underlying214
 a173 := Tryz.isAgg214
 z173 := Tryz.sizeOf214
 v173 := Tryz.zeroValue214
 t212 := Tryz.underlying235
 a212 := Tryz.isAgg235
 z212 := Tryz.sizeOf235
 v212 := Tryz.zeroValue235
 t213 := Tryz.underlying236
 a213 := Tryz.isAgg236
 z213 := Tryz.sizeOf236
 t232 := Tryz.underlying201
 a232 := Tryz.isAgg201
 z232 := Tryz.sizeOf201
 v232 := Tryz.zeroValue201
 t233 := Tryz.underlying187
 a233 := Tryz.isAgg187
 z233 := Tryz.sizeOf187
 v233 := Tryz.zeroValue187
 g17 := by kernel_rfl
 g18 := by kernel_rfl
 g19 := by kernel_rfl }
open Go.RowKit Go.Sort Go.Lib in
theorem Tryz.strconv_Itoa_small (i : Nat) (hi : i < 100) (w : World) :
  Calls Tryz.prog 111 #[.int .i64 i] w fun e w' => e = .returned (.string ⟨(Lib.decDigits i).toArray⟩) ∧ w' = w := Any.strconv_Itoa_small Tryz.lays171 i hi w
def Tryz.laysC172_ren : Go.Shelf.Ren := ⟨fun | 172 => 116 | 244 => 143 | 245 => 144 | 247 => 162 | 279 => 163 | 280 => 164 | 281 => 165 | 282 => 166 | 287 => 190 | 316 => 191 | 171 => 111 | 205 => 192 | 321 => 206 | 322 => 207 | 243 => 141 | 246 => 158 | 283 => 182 | 284 => 183 | 285 => 184 | 286 => 185 | 129 => 181 | 317 => 198 | 318 => 199 | 319 => 200 | 320 => 120 | 337 => 145 | 338 => 124 | n => n, fun | 9 => 9 | 3 => 3 | 75 => 151 | 76 => 152 | 4 => 4 | 5 => 5 | 167 => 195 | 37 => 180 | 0 => 0 | 85 => 196 | 2 => 2 | 168 => 198 | 53 => 62 | 175 => 220 | 46 => 81 | 210 => 224 | 127 => 239 | 145 => 242 | 143 => 240 | 21 => 21 | 171 => 212 | 173 => 214 | 212 => 235 | 51 => 184 | 20 => 20 | 213 => 236 | 232 => 201 | 233 => 187 | 80 => 252 | n => n, fun | 15 => 2 | 16 => 3 | 17 => 4 | 18 => 1 | 19 => 0 | n => n⟩
theorem Tryz.laysC172 : Go.Proofs.LaysC.n172 Tryz.prog Tryz.laysC172_ren := {
 mixed := by kernel_rfl
 f129 := Tryz.func181.trans (congrArg some (by kernel_rfl))
 f171 := Tryz.func111.trans (congrArg some (by kernel_rfl))
 f172 := Tryz.func116.trans (congrArg some (by kernel_rfl))
 f205 := Tryz.func192.trans (congrArg some (by kernel_rfl))
 f243 := Tryz.func141.trans (congrArg some (by kernel_rfl))
 f244 := Tryz.func143.trans (congrArg some (by kernel_rfl))
 f245 := Tryz.func144.trans (congrArg some (by kernel_rfl))
 f246 := Tryz.func158.trans (congrArg some (by kernel_rfl))
 f247 := Tryz.func162.trans (congrArg some (by kernel_rfl))
 f279 := Tryz.func163.trans (congrArg some (by kernel_rfl))
 f280 := Tryz.func164.trans (congrArg some (by kernel_rfl))
 f281 := Tryz.func165.trans (congrArg some (by kernel_rfl))
 f282 := Tryz.func166.trans (congrArg some (by kernel_rfl))
 f283 := Tryz.func182.trans (congrArg some (by kernel_rfl))
 f284 := Tryz.func183.trans (congrArg some (by kernel_rfl))
 f285 := Tryz.func184.trans (congrArg some (by kernel_rfl))
 f286 := Tryz.func185.trans (congrArg some (by kernel_rfl))
 f287 := Tryz.func190.trans (congrArg some (by kernel_rfl))
 f316 := Tryz.func191.trans (congrArg some (by kernel_rfl))
 f317 := Tryz.func198.trans (congrArg some (by kernel_rfl))
 f318 := Tryz.func199.trans (congrArg some (by kernel_rfl))
 f319 := Tryz.func200.trans (congrArg some (by kernel_rfl))
 f320 := Tryz.func120.trans (congrArg some (by kernel_rfl))
 f321 := Tryz.func206.trans (congrArg some (by kernel_rfl))
 f322 := Tryz.func207.trans (congrArg some (by kernel_rfl))
 f337 := Tryz.func145.trans (congrArg some (by kernel_rfl))
 f338 := Tryz.func124.trans (congrArg some (by kernel_rfl))
 t0 := Tryz.underlying0
 a0 := Tryz.isAgg0
 z0 := Tryz.sizeOf0
 v0 := Tryz.zeroValue0
 t2 := Tryz.underlying2
 a2 := Tryz.isAgg2
 z2 := Tryz.sizeOf2
 v2 := Tryz.zeroValue2
 t3 := Tryz.underlying3
 a3 := Tryz.isAgg3
 z3 := Tryz.sizeOf3
 v3 := Tryz.zeroValue3
 t4 := Tryz.underlying4
 a4 := Tryz.isAgg4
 z4 := Tryz.sizeOf4
 v4 := Tryz.zeroValue4
 t5 := Tryz.underlying5
 a5 := Tryz.isAgg5
 z5 := Tryz.sizeOf5
 v5 := Tryz.zeroValue5
 t9 := Tryz.underlying9
 a9 := Tryz.isAgg9
 z9 := Tryz.sizeOf9
 v9 := Tryz.zeroValue9
 t20 := Tryz.underlying20
 a20 := Tryz.isAgg20
 z20 := Tryz.sizeOf20
 v20 := Tryz.zeroValue20
 t21 := Tryz.underlying21
 a21 := Tryz.isAgg21
 z21 := Tryz.sizeOf21
 v21 := Tryz.zeroValue21
 t37 := Tryz.underlying180
 a37 := Tryz.isAgg180
 z37 := Tryz.sizeOf180
 v37 := Tryz.zeroValue180
 t46 := Tryz.underlying81
 a46 := Tryz.isAgg81
 z46 := Tryz.sizeOf81
 v46 := Tryz.zeroValue81
 t51 := Tryz.underlying184
 a51 := Tryz.isAgg184
 z51 := Tryz.sizeOf184
 v51 := Tryz.zeroValue184
 t53 := Tryz.underlying62
 a53 := Tryz.isAgg62
 z53 := Tryz.sizeOf62
 v53 := Tryz.zeroValue62
 t75 := Tryz.underlying151
 a75 := Tryz.isAgg151
 z75 := Tryz.sizeOf151
 v75 := Tryz.zeroValue151
 t76 := Tryz.underlying152
 a76 := Tryz.isAgg152
 z76 := Tryz.sizeOf152
 v76 := Tryz.zeroValue152
 t85 := Tryz.underlying196
 a85 := Tryz.isAgg196
 z85 := Tryz.sizeOf196
 v85 := Tryz.zeroValue196
 t127 := Tryz.underlying239
 a127 := Tryz.isAgg239
 z127 := Tryz.sizeOf239
 v127 := Tryz.zeroValue239
 t143 := Tryz.underlying240
 a143 := Tryz.isAgg240
 z143 := Tryz.sizeOf240
 v143 := Tryz.zeroValue240
 t145 := Tryz.underlying242
 a145 := Tryz.isAgg242
 z145 := Tryz.sizeOf242
 v145 := Tryz.zeroValue242
 t167 := Tryz.underlying195
 a167 := Tryz.isAgg195
 z167 := Tryz.sizeOf195
 v167 := Tryz.zeroValue195
 t168 := Tryz.underlying198
 a168 := Tryz.isAgg198
 z168 := Tryz.sizeOf198
 v168 := Tryz.zeroValue198
 t171 := Tryz.underlying212
 a171 := Tryz.isAgg212
 z171 := Tryz.sizeOf212
 v171 := Tryz.zeroValue212
 t173 := Tryz.underlying214
 a173 := Tryz.isAgg214
 z173 := Tryz.sizeOf214
 v173 := Tryz.zeroValue214
 t175 := Tryz.underlying220
 a175 := Tryz.isAgg220
 z175 := Tryz.sizeOf220
 v175 := Tryz.zeroValue220
 t210 := Tryz.underlying224
 a210 := Tryz.isAgg224
 z210 := Tryz.sizeOf224
 v210 := Tryz.zeroValue224
 t212 := Tryz.underlying235
 a212 := Tryz.isAgg235
 z212 := Tryz.sizeOf235
 v212 := Tryz.zeroValue235
 t213 := Tryz.underlying236
 a213 := Tryz.isAgg236
 z213 := Tryz.sizeOf236
 t232 := Tryz.underlying201
 a232 := Tryz.isAgg201
 z232 := Tryz.sizeOf201
 v232 := Tryz.zeroValue201
 t233 := Tryz.underlying187
 a233 := Tryz.isAgg187
 z233 := Tryz.sizeOf187
 v233 := Tryz.zeroValue187
 g15 := by kernel_rfl
 g16 := by kernel_rfl
 g17 := by kernel_rfl
 g18 := by kernel_rfl
 g19 := by kernel_rfl
 t80 := Tryz.underlying252
 a80 := Tryz.isAgg252
 z80 := Tryz.sizeOf252
 v80 := Tryz.zeroValue252
 i0 := by kernel_rfl
 i2 := by kernel_rfl
 i3 := by kernel_rfl
 i4 := by kernel_rfl
 i5 := by kernel_rfl
 i9 := by kernel_rfl
 i20 := by kernel_rfl
 i21 := by kernel_rfl
 i37 := by kernel_rfl
 i46 := by kernel_rfl
 i51 := by kernel_rfl
 i53 := by kernel_rfl
 i75 := by kernel_rfl
 i76 := by kernel_rfl
 i80 := by kernel_rfl
 i85 := by kernel_rfl
 i127 := by kernel_rfl
 i143 := by kernel_rfl
 i145 := by kernel_rfl
 i167 := by kernel_rfl
 i168 := by kernel_rfl
 i171 := by kernel_rfl
 i173 := by kernel_rfl
 i175 := by kernel_rfl
 i210 := by kernel_rfl
 i212 := by kernel_rfl
 i232 := by kernel_rfl
 i233 := by kernel_rfl
 m15 := by kernel_rfl
 m16 := by kernel_rfl
 m17 := by kernel_rfl
 m18 := by kernel_rfl
 m19 := by kernel_rfl
 c0 := by kernel_rfl
 c2 := by kernel_rfl
 c3 := by kernel_rfl
 c4 := by kernel_rfl
 c5 := by kernel_rfl
 c9 := by kernel_rfl
 c20 := by kernel_rfl
 c21 := by kernel_rfl
 c37 := by kernel_rfl
 c46 := by kernel_rfl
 c51 := by kernel_rfl
 c53 := by kernel_rfl
 c75 := by kernel_rfl
 c76 := by kernel_rfl
 c80 := by kernel_rfl
 c85 := by kernel_rfl
 c127 := by kernel_rfl
 c143 := by kernel_rfl
 c145 := by kernel_rfl
 c167 := by kernel_rfl
 c168 := by kernel_rfl
 c171 := by kernel_rfl
 c173 := by kernel_rfl
 c175 := by kernel_rfl
 c210 := by kernel_rfl
 c212 := by kernel_rfl
 c213 := by kernel_rfl
 c232 := by kernel_rfl
 c233 := by kernel_rfl }
open Go.RowKit in
theorem Tryz.strconv_Atoi_ok (s : ByteArray) (hmax : s.size ≤ 9223372036854775806) (v : Int) (h : Lib.atoiAll s.data.toList = .ok v) (w : World) :
  Calls Tryz.prog 116 #[.string s] w fun e w' => e = .returned (.tuple #[.int .i64 v, .nilIface]) ∧ (w' = w ∨ ∃ t, w' = Lib.bytesWorld w 5 t) := Any.strconv_Atoi_ok Tryz.laysC172 s hmax v h w
open Go.RowKit in
theorem Tryz.strconv_Atoi_syntax (s : ByteArray) (hlim : s.size ≤ 281474976710656) (h : Lib.atoiAll s.data.toList = Lib.atoiAll []) (ev : Value) (w : World) (hv : w.cell? ⟨2, 0, none⟩ = some ev) (hev : ev = .nilIface ∨ ∃ te pe, ev = .iface te pe) :
  Calls Tryz.prog 116 #[.string s] w fun e w' => ∃ N, e = .returned (.tuple #[.int .i64 (0), .iface 198 (.pointer (some ⟨N, 0, none⟩))]) ∧ w.heap.size ≤ N ∧ w'.heap[N]? = some (.cells #[.string ⟨#[65, 116, 111, 105]⟩, .string s, ev] 224 (0, 0)) ∧ Below w.heap.size w w' := Any.strconv_Atoi_syntax Tryz.laysC172 s hlim h ev w hv hev
open Go.RowKit in
theorem Tryz.strconv_Atoi_range (s : ByteArray) (hlim : s.size ≤ 281474976710656) (h : Lib.atoiAll s.data.toList = .range) (ev : Value) (w : World) (hv : w.cell? ⟨3, 0, none⟩ = some ev) (hev : ev = .nilIface ∨ ∃ te pe, ev = .iface te pe) :
  Calls Tryz.prog 116 #[.string s] w fun e w' => ∃ N, e = .returned (.tuple #[.int .i64 (Lib.atoiSat s.data.toList), .iface 198 (.pointer (some ⟨N, 0, none⟩))]) ∧ w.heap.size ≤ N ∧ w'.heap[N]? = some (.cells #[.string ⟨#[65, 116, 111, 105]⟩, .string s, ev] 224 (0, 0)) ∧ Below w.heap.size w w' := Any.strconv_Atoi_range Tryz.laysC172 s hlim h ev w hv hev
def Tryz.lays146_ren : Go.Shelf.Ren := ⟨fun | 146 => 115 | 221 => 142 | 268 => 159 | 138 => 160 | 143 => 161 | 195 => 186 | 197 => 187 | 218 => 188 | 219 => 189 | 260 => 201 | 217 => 202 | 225 => 203 | 224 => 204 | 267 => 205 | 266 => 209 | 314 => 210 | n => n, fun | 9 => 9 | 31 => 148 | 3 => 3 | 4 => 4 | 0 => 0 | 105 => 217 | 21 => 21 | 5 => 5 | 46 => 81 | 119 => 246 | 139 => 249 | 138 => 248 | 146 => 250 | 51 => 184 | n => n, fun | 1 => 5 | 3 => 6 | 4 => 7 | n => n⟩
theorem Tryz.lays146 : Go.Proofs.Lays.n146 Tryz.prog Tryz.lays146_ren := {
 mixed := by kernel_rfl
 f138 := Tryz.func160.trans (congrArg some (by kernel_rfl))
 f143 := Tryz.func161.trans (congrArg some (by kernel_rfl))
 f146 := Tryz.func115.trans (congrArg some (by kernel_rfl))
 f195 := Tryz.func186.trans (congrArg some (by kernel_rfl))
 f197 := Tryz.func187.trans (congrArg some (by kernel_rfl))
 f217 := Tryz.func202.trans (congrArg some (by kernel_rfl))
 f218 := Tryz.func188.trans (congrArg some (by kernel_rfl))
 f219 := Tryz.func189.trans (congrArg some (by kernel_rfl))
 f221 := Tryz.func142.trans (congrArg some (by kernel_rfl))
 f224 := Tryz.func204.trans (congrArg some (by kernel_rfl))
 f225 := Tryz.func203.trans (congrArg some (by kernel_rfl))
 f260 := Tryz.func201.trans (congrArg some (by kernel_rfl))
 f266 := Tryz.func209.trans (congrArg some (by kernel_rfl))
 f267 := Tryz.func205.trans (congrArg some (by kernel_rfl))
 f268 := Tryz.func159.trans (congrArg some (by kernel_rfl))
 f314 := Tryz.func210.trans (congrArg some (by kernel_rfl))
 t0 := Tryz.underlying0
 a0 := Tryz.isAgg0
 z0 := Tryz.sizeOf0
 v0 := Tryz.zeroValue0
 t3 := Tryz.underlying3
 a3 := Tryz.isAgg3
 z3 := Tryz.sizeOf3
 v3 := Tryz.zeroValue3
 t4 := Tryz.underlying4
 a4 := Tryz.isAgg4
 z4 := Tryz.sizeOf4
 v4 := Tryz.zeroValue4
 t5 := Tryz.underlying5
 a5 := Tryz.isAgg5
 z5 := Tryz.sizeOf5
 v5 := Tryz.zeroValue5
 t9 := Tryz.underlying9
 a9 := Tryz.isAgg9
 z9 := Tryz.sizeOf9
 v9 := Tryz.zeroValue9
 t21 := Tryz.underlying21
 a21 := Tryz.isAgg21
 z21 := Tryz.sizeOf21
 v21 := Tryz.zeroValue21
 t31 := Tryz.underlying148
 a31 := Tryz.isAgg148
 z31 := Tryz.sizeOf148
 v31 := Tryz.zeroValue148
 t46 := Tryz.underlying81
 a46 := Tryz.isAgg81
 z46 := Tryz.sizeOf81
 v46 := Tryz.zeroValue81
 t51 := Tryz.underlying184
 a51 := Tryz.isAgg184
 z51 := Tryz.sizeOf184
 v51 := Tryz.zeroValue184
 t105 := Tryz.underlying217
 a105 := Tryz.isAgg217
 z105 := Tryz.sizeOf217
 v105 := Tryz.zeroValue217
 t119 := Tryz.underlying246
 a119 := Tryz.isAgg246
 z119 := Tryz.sizeOf246
 t138 := Tryz.underlying248
 a138 := Tryz.isAgg248
 z138 := Tryz.sizeOf248
 v138 := Tryz.zeroValue248
 t139 := Tryz.underlying249
 a139 := Tryz.isAgg249
 z139 := Tryz.sizeOf249
 v139 := Tryz.zeroValue249
 t146 := Tryz.underlying250
 a146 := Tryz.isAgg250
 z146 := Tryz.sizeOf250
 v146 := Tryz.zeroValue250
 g1 := by kernel_rfl
 g3 := by kernel_rfl
 g4 := by kernel_rfl }
open Go.RowKit Go.Lib in
theorem Tryz.strings_Split (s sep : ByteArray) (m : Int) (w : World) (hs : s.size < 4294967281) (hm : w.cell? ⟨5, 0, none⟩ = some (.int .i64 m)) (h1 : 1 ≤ sep.size) :
  Calls Tryz.prog 115 #[.string s, .string sep] w fun e w' =>
   e = .returned (.slice (some ⟨w.heap.size, 0, none⟩) (Lib.countB s sep + 1) (Lib.countB s sep + 1)) ∧ w' = w.alloc (.cells ((Lib.splitB sep 0 (Lib.countB s sep) s).map Value.string).toArray 9) := Any.strings_Split Tryz.lays146 (by kernel_rfl) s sep m w hs hm h1
def Tryz.lays109_ren : Go.Shelf.Ren := ⟨fun | 109 => 117 | n => n, fun | 31 => 148 | 9 => 9 | 3 => 3 | 0 => 0 | 4 => 4 | n => n, fun | n => n⟩
theorem Tryz.lays109 : Go.Proofs.Lays.n109 Tryz.prog Tryz.lays109_ren := {
 mixed := by kernel_rfl
 f109 := Tryz.func117.trans (congrArg some (by kernel_rfl))
 t0 := Tryz.underlying0
 a0 := Tryz.isAgg0
 z0 := Tryz.sizeOf0
 v0 := Tryz.zeroValue0
 t3 := Tryz.underlying3
 a3 := Tryz.isAgg3
 z3 := Tryz.sizeOf3
 v3 := Tryz.zeroValue3
 t4 := Tryz.underlying4
 a4 := Tryz.isAgg4
 z4 := Tryz.sizeOf4
 v4 := Tryz.zeroValue4
 t9 := Tryz.underlying9
 a9 := Tryz.isAgg9
 z9 := Tryz.sizeOf9
 v9 := Tryz.zeroValue9
 t31 := Tryz.underlying148
 a31 := Tryz.isAgg148
 z31 := Tryz.sizeOf148
 v31 := Tryz.zeroValue148 }
open Go.Lib in
theorem Tryz.slices_Index_string (b off n c : Nat) (zs : List ByteArray) (x : ByteArray) (w : World) (hz : n ≤ zs.length) (hbig : n ≤ 9223372036854775807) (hc : ∀ j, j < zs.length → w.cell? ⟨b, off + j, none⟩ = some (.string (zs.getD j ByteArray.empty))) :
  Calls Tryz.prog 117 #[.slice (some ⟨b, off, none⟩) n c, .string x] w fun e w' => e = .returned (.int .i64 (Lib.idxOfS (zs.take n) x)) ∧ w' = w := Any.slices_Index_string Tryz.lays109 b off n c zs x w hz hbig hc
end Go.Proofs
end
