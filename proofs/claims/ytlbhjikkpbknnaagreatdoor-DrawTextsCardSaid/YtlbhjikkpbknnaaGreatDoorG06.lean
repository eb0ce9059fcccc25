import Derived.Test.YtlbhjikkpbknnaaGreatDoorG05
import Derived.OwnWalk
import Derived.Maps.AppendAt
import Derived.Test.YtlbhjikkpbknnaaGreatDoorProg
import Derived.WalkKit
import Derived.WalkLawsBesides
import Derived.WalkSpells
import Derived.StillTailTactics
import Derived.Deep.QuietTactic
import Derived.BigQuiet
import Derived.Outline
import Derived.Recover
import Derived.Laws.BitsLemmas
import Derived.Lib.Hide
import Derived.Laws.EntriesVeiled
/-
  Given contracts of functions of the program, and laws for them, one behind the other.
-/
set_option linter.unusedVariables false
set_option linter.unusedSimpArgs false
set_option linter.unusedSectionVars false
section
namespace Go.Draw
set_option maxRecDepth 10000
/-! ### the moves of a piece, by their number -/
def mvAt (p i : Nat) : Mv := if i = 0 then (p, 0, 0) else (p, (i - 1) / 7 + 1, (i - 1) % 7 + 1)
def upM (p i : Nat) : List Mv := (List.range i).map (mvAt p)
theorem upM_succ (p i : Nat) : upM p (i + 1) = upM p i ++ [mvAt p i] := by unfold upM; rw [List.range_succ, List.map_append]; rfl
theorem upM_all (p : Nat) : upM p 29 = movesL p := by
 unfold upM movesL
 rw [List.range_succ_eq_map, List.map_cons, List.map_map]
 congr 1
theorem upM_prefix (p : Nat) {i : Nat} (h : i ≤ 29) : upM p i <+: movesL p := by
 rw [← upM_all]
 obtain ⟨d, hd⟩ : ∃ d, 29 = i + d := ⟨29 - i, by omega⟩
 rw [hd]
 unfold upM
 rw [List.range_add, List.map_append]
 exact List.prefix_append _ _
theorem upM_length (p i : Nat) : (upM p i).length = i := by unfold upM; simp
theorem mvAt_zero (p : Nat) : mvAt p 0 = (p, 0, 0) := rfl
theorem mvAt_in (p side far : Nat) (h1 : 1 ≤ side) (h2 : 1 ≤ far) (h3 : far ≤ 7) : mvAt p (1 + (side - 1) * 7 + (far - 1)) = (p, side, far) := by
 unfold mvAt
 rw [if_neg (by omega)]
 simp only [Prod.mk.injEq, true_and]
 omega
theorem mvAt_mem (p i : Nat) (h : i < 29) : mvAt p i ∈ movesL p := by
 rw [← upM_all]; exact List.mem_map.2 ⟨i, List.mem_range.2 h, rfl⟩
theorem movesL_len (p : Nat) : (movesL p).length = 29 := by rw [← upM_all, upM_length]
/-- the first of a list, when it is met -/
theorem find_at {α : Type} (f : α → Bool) {pre : List α} {x : α} {l : List α} (hp : pre ++ [x] <+: l) (h0 : ∀ y ∈ pre, f y = false) (h1 : f x = true) : l.find? f = some x := by
 obtain ⟨t, rfl⟩ := hp
 rw [List.append_assoc, List.find?_append]
 have : pre.find? f = none := List.find?_eq_none.2 fun y hy => by rw [h0 y hy]; simp
 rw [this]
 simp [h1]
theorem find_no {α : Type} (f : α → Bool) {l : List α} (h0 : ∀ y ∈ l, f y = false) : l.find? f = none := List.find?_eq_none.2 fun y hy => by rw [h0 y hy]; simp
end Go.Draw
end
section
namespace Go.Draw
set_option maxRecDepth 10000
theorem card_add {S G : U} {p : Nat} (hS : S.getLsbD p = true) (hG : G.getLsbD p = false) : cardU (S &&& ~~~(G ||| bit p)) < cardU (S &&& ~~~G) := by
 have hp : p < 64 := BitVec.lt_of_getLsbD hS
 unfold cardU listU
 refine filter_length_lt _ _ _ (fun i _ hi => ?_) p (List.mem_range.2 hp) ?_ ?_
 ·rw [andnot_bit, or_bit _ _ _ hp] at hi
  rw [andnot_bit]
  cases hs : S.getLsbD i <;> cases hg : G.getLsbD i <;> simp_all
 ·rw [andnot_bit, or_bit _ _ _ hp]; simp
 ·rw [andnot_bit, hG, hS]; rfl
theorem sub_add {S G : U} {p : Nat} (h : Sub G S) (hS : S.getLsbD p = true) : Sub (G ||| bit p) S :=
 or_sub.2 ⟨h, fun i hi => by
  rw [bit_bit _ _ (BitVec.lt_of_getLsbD hS)] at hi
  have : i = p := by simpa using hi
  rw [this]; exact hS⟩
theorem nextM_skip (m : List Sol) (G : U) {p : Nat} {l : List Nat} (h : goesM m p G = none) : nextM m G (p :: l) = nextM m G l := by rw [nextM, h]
theorem nextM_take (m : List Sol) (G : U) {p : Nat} {l : List Nat} {x : Mv} (h : goesM m p G = some x) : nextM m G (p :: l) = some (p, x) := by rw [nextM, h]
theorem orderF_end (m : List Sol) (S : U) (n : Nat) (out : List Mv) : orderF m S (n + 1) S out = some out := by rw [orderF, if_pos rfl]
theorem orderF_go {m : List Sol} {S G : U} {n : Nat} {out : List Mv} (h : G ≠ S) {p : Nat} {x : Mv} (hn : nextM m G (listU (S &&& ~~~G)) = some (p, x)) : orderF m S (n + 1) G out = orderF m S n (G ||| bit p) (out ++ [x]) := by rw [orderF, if_neg h, hn]
theorem orderF_stop {m : List Sol} {S G : U} {n : Nat} {out : List Mv} (h : G ≠ S) (hn : nextM m G (listU (S &&& ~~~G)) = none) : orderF m S (n + 1) G out = none := by rw [orderF, if_neg h, hn]
end Go.Draw
end
section
namespace Go.Draw
set_option maxRecDepth 100000
/-! ### the chapter's examples, worked out -/
theorem exA_order : orderM mA (allU 3) = some [(1, 0, 0), (0, 0, 0), (2, 3, 1)] := by decide +kernel
theorem exA_inWay : inWayM mA (2, 3, 1) = (0b11#64, false) := by decide +kernel
theorem exA_holds : holdsM mA 0 (2, 3, 6) = some (324, 0) := by decide +kernel
theorem exA_rounds : roundsM mA = ([[1], [0], [2]], 0) := by decide +kernel
theorem exA_paths : pathsM mA 2 = [7#64] := by decide +kernel
theorem exA_needs : listU (needsU mA 2) = [0, 1] := by decide +kernel
theorem exA_list : listU (0b11#64) = [0, 1] ∧ listU 7#64 = [0, 1, 2] := by decide +kernel
theorem exR_least : leastLockM mR = some 3#64 := by decide +kernel
theorem exR_order : orderM mR (allU 2) = none := by decide +kernel
theorem exA_last : lastM mA = [2] := by decide +kernel
theorem exA_orders : ordersM mA = 1 := by decide +kernel
theorem exA_good : goodM mA = true ∧ goodM mR = true := by decide +kernel
end Go.Draw
end
section
namespace Go.Draw
set_option maxRecDepth 100000
/-! ### whose the first cell is, cell by cell as the program looks -/
def cellG (m : List Sol) (own : Nat) (G : U) (k : Nat) : Option (Int × Int) := (atCell m own G k).map fun i => ((k : Int), i)
def planeL (z : Nat) (q : U) : List Nat := (listU q).map fun k => 64 * z + k
def cellsFrom (b : Sol) : Nat → List Nat
 | 0 => []
 | n + 1 => planeL (7 - n) (plv b (7 - n)) ++ cellsFrom b n
theorem planeL_eq (b : Sol) (z : Nat) : planeL z (plv b z) = ((List.range 64).map fun k => 64 * z + k).filter fun k => b.getLsbD k := by
 unfold planeL listU
 rw [List.filter_map]
 congr 1
 apply List.filter_congr
 intro k hk
 exact plv_bit b z k (List.mem_range.1 hk)
theorem range_512 : List.range 512 = ((List.range 64).map fun k => 64 * 0 + k) ++ (((List.range 64).map fun k => 64 * 1 + k) ++ (((List.range 64).map fun k => 64 * 2 + k) ++ (((List.range 64).map fun k => 64 * 3 + k) ++ (((List.range 64).map fun k => 64 * 4 + k) ++ (((List.range 64).map fun k => 64 * 5 + k) ++ (((List.range 64).map fun k => 64 * 6 + k) ++ (((List.range 64).map fun k => 64 * 7 + k) ++ []))))))) := by decide +kernel
theorem cells_filter (b : Sol) : (List.range 512).filter (fun k => b.getLsbD k) = cellsFrom b 8 := by
 rw [range_512]
 simp only [List.filter_append, ← planeL_eq, List.filter_nil]
 rfl
theorem findSome_filter {α β : Type} (c : α → Bool) (f : α → Option β) : ∀ l : List α, l.findSome? (fun k => if c k then f k else none) = (l.filter c).findSome? f
 | [] => rfl
 | a :: l => by
  rw [List.findSome?_cons, List.filter_cons]
  cases h : c a
  ·simp only [Bool.false_eq_true, if_false]; exact findSome_filter c f l
  ·simp only [if_true]
   rw [List.findSome?_cons, findSome_filter c f l]
theorem atM_cells (m : List Sol) (own : Nat) (G : U) (b : Sol) : atM m own G b = (cellsFrom b 8).findSome? (cellG m own G) := by
 rw [← cells_filter, ← findSome_filter]; rfl
theorem cellsFrom_succ (b : Sol) {z : Nat} (hz : z < 8) : cellsFrom b (8 - z) = planeL z (plv b z) ++ cellsFrom b (8 - (z + 1)) := by
 obtain ⟨n, hn⟩ : ∃ n, 8 - z = n + 1 := ⟨7 - z, by omega⟩
 rw [hn, show 8 - (z + 1) = n by omega, cellsFrom, show 7 - n = z by omega]
theorem planeL_zero (z : Nat) : planeL z 0 = [] := by unfold planeL; rw [listU_zero]; rfl
theorem planeL_cons (z : Nat) {q : U} (hq : q ≠ 0) : planeL z q = (64 * z + lowU q) :: planeL z (q &&& (q - 1)) := by
 unfold planeL; rw [listU_cons q hq]; rfl
/-- of the pieces from i on, the first that has a cell -/
def ownerF (m : List Sol) (own : Nat) (G : U) (k : Nat) (i : Nat) : Option Nat := ((List.range m.length).drop i).find? fun i => i != own && !G.getLsbD i && (m.getD i 0).getLsbD k
theorem ownerF_step {m : List Sol} {own : Nat} {G : U} {k i : Nat} (hi : i < m.length) : ownerF m own G k i = if i != own && !G.getLsbD i && (m.getD i 0).getLsbD k then some i else ownerF m own G k (i + 1) := by
 unfold ownerF
 have e : (List.range m.length).drop i = i :: (List.range m.length).drop (i + 1) := by
  rw [List.drop_eq_getElem_cons (by simpa using hi)]; simp
 rw [e, List.find?_cons]
 cases (i != own && !G.getLsbD i && (m.getD i 0).getLsbD k) <;> rfl
theorem ownerF_end (m : List Sol) (own : Nat) (G : U) (k : Nat) : ownerF m own G k m.length = none := by
 unfold ownerF; rw [List.drop_eq_nil_of_le (by simp)]; rfl
theorem atCell_own (m : List Sol) (own : Nat) (G : U) (k : Nat) : atCell m own G k = if (sandM m).getLsbD k then some (-1) else (ownerF m own G k 0).map Int.ofNat := rfl
end Go.Draw
end
section
namespace Go.Draw
set_option maxRecDepth 100000
/-! ### counting the bits of a small set, as the library does it -/
def popA (x : U) : U := ((x >>> 1) &&& 0x5555555555555555#64) + (x &&& 0x5555555555555555#64)
def popB (x : U) : U := ((x >>> 2) &&& 0x3333333333333333#64) + (x &&& 0x3333333333333333#64)
def popC (x : U) : U := ((x >>> 4) + x) &&& 0x0f0f0f0f0f0f0f0f#64
def popD (x : U) : U := x + (x >>> 8)
def popE (x : U) : U := x + (x >>> 16)
def popF (x : U) : U := x + (x >>> 32)
def popU (x : U) : U := popF (popE (popD (popC (popB (popA x))))) &&& 127#64
theorem pop_small : ∀ n, n < 4096 → popU (BitVec.ofNat 64 n) = BitVec.ofNat 64 (cardU (BitVec.ofNat 64 n)) := by decide +kernel
theorem sub_small {A : U} {n : Nat} (hn : n ≤ 12) (h : Sub A (allU n)) : A.toNat < 4096 := by
 refine Nat.lt_of_not_le fun hc => ?_
 obtain ⟨i, hi, hb⟩ := Nat.exists_ge_and_testBit_of_ge_two_pow (n := 12) (x := A.toNat) hc
 have h1 := h i (by rw [BitVec.getLsbD]; exact hb)
 rw [allU_bit _ _ (by omega)] at h1
 simp at h1; omega
theorem pop_card {A : U} {n : Nat} (hn : n ≤ 12) (h : Sub A (allU n)) : popU A = BitVec.ofNat 64 (cardU A) := by
 have := pop_small A.toNat (sub_small hn h)
 rwa [BitVec.ofNat_toNat, BitVec.setWidth_eq] at this
end Go.Draw
end
section
namespace Go.Rel
open Go
/-! An append to a list of one's own draws, and takes no draw back. -/
theorem append_drawn {P : Program} (w : World) (base : Nat) (t ty e : TypeId) (i : TypeInfo) (z : Value) (size bytes : Nat) (ht : P.underlying t = some (.slice e)) (hi : P.info? e = some i) (hz : i.zero = some z)
  (hsize : i.size = size) (hby : i.bytes = bytes) (v : Value) (n : Nat) (xs : List Value) (hown : w.ownsRow base e size v n xs)
  (a : Addr) (m c : Nat) (news : List Value) (hl : news.length = m * size) (hnews : ∀ j u, news[j]? = some u → w.cell? (a.add j) = some u) (h1 : ∀ u ∈ news, u.oneCell' = true)
  (h63 : n + m ≤ maxLen) (hbytes : (n + m) * bytes ≤ 140737488355328) (hm : 0 < m) {v' : Value} {w' : World}
  (hr : (Builtin.append_ #[t, t] ty #[v, .slice (some a) m c]).run P w = .ok v' w') : w.drawn ≤ w'.drawn := by
 subst hsize
 subst hby
 have hsmall : n + m ≤ 9223372036854775807 := by simp only [maxLen] at h63; omega
 rcases hown.2 with ⟨rfl, rfl⟩ | ⟨g, cap, cur, rfl, hbg, hg, hnc, hcm, hcs, htake⟩
 ·have h := run_append_nil (P := P) w t ty e i z ht hi hz a m c news hl hnews hm (by omega) (by simp only [Nat.zero_add] at hbytes; omega)
  rw [h] at hr
  injection hr with _ hw
  rw [← hw]
  exact Nat.le_succ _
 ·by_cases hroom : n + m ≤ cap
  ·have hfit : n * i.size + news.length ≤ cur.size := by rw [hl, hcs, ← Nat.add_mul]; exact Nat.mul_le_mul_right _ hroom
   have h := run_append_room (P := P) w t ty e i ht hi g n cap cur hg a m c news hl hnews h1 hroom hfit
   rw [h] at hr
   injection hr with _ hw
   rw [← hw]
   exact Nat.le_refl _
  ·have holds : ∀ j u, xs[j]? = some u → w.cell? ((⟨g, 0, none⟩ : Addr).add j) = some u := hown.cells (g := g) rfl
   have h := run_append_grow (P := P) w t ty e i z ht hi hz ⟨g, 0, none⟩ n cap xs hown.1 holds a m c news hl hnews (by omega) (by omega) (growslice_fits (by omega) hbytes)
   rw [h] at hr
   injection hr with _ hw
   rw [← hw]
   exact Nat.le_succ _
theorem wpList_append_ownD {P : Program} {w : World} {ops : Array Oper} {rest : List Oper} {o : Oper} {a : Act} {Q : Exit → Act → World → Prop} (hgd : o.guard = none) (s x : Operand) (t : TypeId)
  (ho : o.op = .call { callee := .builtin .append, args := #[s, x], argTypes := #[t, t] })
  (base : Nat) (e : TypeId) (i : TypeInfo) (z : Value) (size bytes : Nat) (ht : P.underlying t = some (.slice e)) (hi : P.info? e = some i) (hz : i.zero = some z)
  (hsize : i.size = size) (hby : i.bytes = bytes) (hzs : z.cells.size = size) (hsz : 0 < size)
  (v : Value) (n : Nat) (xs : List Value) (hs : a.eval s = v) (hown : w.ownsRow base e size v n xs)
  (ad : Addr) (m c : Nat) (news : List Value) (hx : a.eval x = .slice (some ad) m c) (hl : news.length = m * size) (hnews : ∀ j u, news[j]? = some u → w.cell? (ad.add j) = some u) (h1 : ∀ u ∈ news, u.oneCell' = true)
  (h63 : n + m ≤ maxLen) (hbytes : (n + m) * bytes ≤ 140737488355328) (hbase : base ≤ w.heap.size) (hm : 0 < m)
  (h : ∀ v' w', w'.ownsRow base e size v' (n + m) (xs ++ news) → w.grownBy w' v.ownBlock → w.drawn ≤ w'.drawn → wpList P ops Q rest (a.put o.dst v') w') : wpList P ops Q (o :: rest) a w := by
 obtain ⟨v', w', hr, h2, h3, _⟩ := run_append_own (P := P) w base t o.type e i z size bytes ht hi hz hsize hby hzs hsz v n xs hown ad m c news hl hnews h1 h63 hbytes hbase
 have hd := append_drawn (P := P) w base t o.type e i z size bytes ht hi hz hsize hby v n xs hown ad m c news hl hnews h1 h63 hbytes hm hr
 refine wpList_plain hgd fun _ hK => ?_
 unfold Oper.wp execOp
 simp only [ho, resolve, invoke, builtin, Sem.run_bind, Sem.run_pure, Result.andThen_ok, List.map_toArray, List.map_cons, List.map_nil, hs, hx, hr]
 exact hK _ _ (h v' w' h2 h3 hd)
end Go.Rel
end
section
namespace Go.Rel
open Go.RowKit
variable {P : Program}
theorem run_all (w : World) (g : Nat → Option Bool × Unit → Sem (ForInStep (Option Bool × Unit))) (b : Nat → Bool) (l : List Nat)
  (h : ∀ i ∈ l, (g i (none, ())).run P w = .ok (if b i then ForInStep.yield (none, ()) else ForInStep.done (some false, ())) w) :
  ((forIn l (none, ()) g : Sem (Option Bool × Unit)).run P w) = .ok (if l.all b then (none, ()) else (some false, ())) w := by
 induction l with
 | nil => rfl
 | cons i l ih =>
  simp only [List.forIn_cons, Sem.run_bind, h i (by simp), Result.andThen_ok, List.all_cons]
  rcases Bool.eq_false_or_eq_true (b i) with hb | hb
  ·simpa [hb] using ih (fun j hj => h j (by simp [hj]))
  ·simp [hb]
theorem run_equalIn_array (w : World) (d : Nat) (t e : TypeId) (len n : Nat) (xs ys : Array Value) (b : Nat → Bool) (ht : P.underlying t = some (.array len e)) (hn : (sizeOf e).run P w = .ok n w)
   (h : ∀ i, i < len → (do Op.equalIn d e (← part e xs (i * n)) (← part e ys (i * n)) : Sem Bool).run P w = .ok (b i) w) :
   (Op.equalIn (d+1) t (.agg xs) (.agg ys)).run P w = .ok ((List.range len).all b) w := by
  simp only [Op.equalIn, Sem.run_bind, run_underlying ht, Result.andThen_ok, hn]
  simp only [Std.Legacy.Range.forIn_eq_forIn_range', Std.Legacy.Range.size, Nat.sub_zero, Nat.add_sub_cancel, Nat.div_one, ← List.range_eq_range']
  rw [run_all w _ b (List.range len) (fun i hi => ?_)]
  · cases (List.range len).all b <;> rfl
  · have h1 := h i (List.mem_range.1 hi)
    simp only [Sem.run_bind] at h1 ⊢
    generalize (part e xs (i * n)).run P w = r1 at h1 ⊢
    cases r1 with
    | halt x w' => cases h1
    | ok x w1 =>
      simp only [Result.andThen_ok] at h1 ⊢
      generalize (part e ys (i * n)).run P w1 = r2 at h1 ⊢
      cases r2 with
      | halt x w' => cases h1
      | ok y w2 =>
        simp only [Result.andThen_ok] at h1 ⊢
        rw [h1]
        simp only [Result.andThen_ok]
        rcases Bool.eq_false_or_eq_true (b i) with hb | hb <;> simp [hb]
end Go.Rel

namespace Go.Proofs.YtlbhjikkpbknnaaGreatDoor
open Go.RowKit Go.Draw

/-! ### SOLIDS: 512 bits, eight planes -/
def pl (s : Sol) (k : Nat) : Int := ((plv s k).toNat : Int)
theorem pl_nonneg (s : Sol) (k : Nat) : 0 ≤ pl s k := by unfold pl; omega
theorem pl_lt (s : Sol) (k : Nat) : pl s k < 18446744073709551616 := by unfold pl; have := (plv s k).isLt; omega
theorem pl_eq {s t : Sol} {k : Nat} : pl s k = pl t k ↔ plv s k = plv t k := by
 unfold pl; rw [Int.ofNat_inj, BitVec.toNat_inj]
theorem plv_xor (a b : Sol) (k : Nat) : plv (a ^^^ b) k = plv a k ^^^ plv b k := by
 apply BitVec.eq_of_getLsbD_eq; intro i hi; simp [plv]
 cases decide (i < 64) <;> simp
theorem plv_andNot (a b : Sol) (k : Nat) (hk : k < 8) : plv (a &&& ~~~b) k = plv a k &&& ~~~(plv b k) := by
 apply BitVec.eq_of_getLsbD_eq; intro i hi; simp [plv, hi, show 64 * k + i < 512 by omega]
theorem pl_zero (k : Nat) : pl 0 k = 0 := by unfold pl; rw [plv_zero]; rfl

theorem ofInt_pl (s : Sol) (k : Nat) : BitVec.ofInt 64 (pl s k) = plv s k := by
 unfold pl; rw [BitVec.ofInt_natCast, BitVec.ofNat_toNat]; simp
theorem wrap_u64_toNat (x : BitVec 64) : IntKind.u64.wrap (x.toNat : Int) = (x.toNat : Int) := IntWalk.u64_in _ (by have := x.isLt; omega)
theorem bits_and_pl (a b : Sol) (k : Nat) : bits .and .u64 (pl a k) (pl b k) = pl (a &&& b) k := by
 show IntKind.u64.wrap ((BitVec.ofInt 64 (pl a k) &&& BitVec.ofInt 64 (pl b k)).toNat : Int) = _
 rw [ofInt_pl, ofInt_pl, wrap_u64_toNat, ← plv_and]; rfl
theorem bits_or_pl (a b : Sol) (k : Nat) : bits .or .u64 (pl a k) (pl b k) = pl (a ||| b) k := by
 show IntKind.u64.wrap ((BitVec.ofInt 64 (pl a k) ||| BitVec.ofInt 64 (pl b k)).toNat : Int) = _
 rw [ofInt_pl, ofInt_pl, wrap_u64_toNat, ← plv_or]; rfl
theorem bits_xor_pl (a b : Sol) (k : Nat) : bits .xor .u64 (pl a k) (pl b k) = pl (a ^^^ b) k := by
 show IntKind.u64.wrap ((BitVec.ofInt 64 (pl a k) ^^^ BitVec.ofInt 64 (pl b k)).toNat : Int) = _
 rw [ofInt_pl, ofInt_pl, wrap_u64_toNat, ← plv_xor]; rfl
theorem bits_andNot_pl (a b : Sol) (k : Nat) (hk : k < 8) : bits .andNot .u64 (pl a k) (pl b k) = pl (a &&& ~~~b) k := by
 show IntKind.u64.wrap ((BitVec.ofInt 64 (pl a k) &&& ~~~(BitVec.ofInt 64 (pl b k))).toNat : Int) = _
 rw [ofInt_pl, ofInt_pl, wrap_u64_toNat, ← plv_andNot _ _ _ hk]; rfl

attribute [irreducible] pl

/-- a solid as the value that the model has -/
abbrev solL (s : Sol) : List Value := [.int .u64 (pl s 0), .int .u64 (pl s 1), .int .u64 (pl s 2), .int .u64 (pl s 3), .int .u64 (pl s 4), .int .u64 (pl s 5), .int .u64 (pl s 6), .int .u64 (pl s 7)]
abbrev solV (s : Sol) : Value := .agg #[.int .u64 (pl s 0), .int .u64 (pl s 1), .int .u64 (pl s 2), .int .u64 (pl s 3), .int .u64 (pl s 4), .int .u64 (pl s 5), .int .u64 (pl s 6), .int .u64 (pl s 7)]

theorem sol_eq_iff (a b : Sol) : a = b ↔ (pl a 0 = pl b 0 ∧ pl a 1 = pl b 1 ∧ pl a 2 = pl b 2 ∧ pl a 3 = pl b 3 ∧ pl a 4 = pl b 4 ∧ pl a 5 = pl b 5 ∧ pl a 6 = pl b 6 ∧ pl a 7 = pl b 7) := by
 constructor
 ·rintro rfl; simp
 ·rintro ⟨h0, h1, h2, h3, h4, h5, h6, h7⟩
  refine sol_ext fun k hk => pl_eq.1 ?_
  obtain rfl | rfl | rfl | rfl | rfl | rfl | rfl | rfl : k = 0 ∨ k = 1 ∨ k = 2 ∨ k = 3 ∨ k = 4 ∨ k = 5 ∨ k = 6 ∨ k = 7 := by omega
  ·exact h0
  ·exact h1
  ·exact h2
  ·exact h3
  ·exact h4
  ·exact h5
  ·exact h6
  ·exact h7

theorem eqArr (ty : TypeId) (hty : Tryz.prog.underlying ty = some (.array 8 62)) (d : Nat) (a0 a1 a2 a3 a4 a5 a6 a7 b0 b1 b2 b3 b4 b5 b6 b7 : Int) (w : World) :
  (Op.equalIn (d+2) ty (.agg #[.int .u64 a0, .int .u64 a1, .int .u64 a2, .int .u64 a3, .int .u64 a4, .int .u64 a5, .int .u64 a6, .int .u64 a7]) (.agg #[.int .u64 b0, .int .u64 b1, .int .u64 b2, .int .u64 b3, .int .u64 b4, .int .u64 b5, .int .u64 b6, .int .u64 b7])).run Tryz.prog w = 
   .ok (a0 == b0 && (a1 == b1 && (a2 == b2 && (a3 == b3 && (a4 == b4 && (a5 == b5 && (a6 == b6 && a7 == b7))))))) w := by
  rw [Go.Rel.run_equalIn_array w (d+1) ty 62 8 1 _ _ (fun i => match i with | 0 => a0 == b0 | 1 => a1 == b1 | 2 => a2 == b2 | 3 => a3 == b3 | 4 => a4 == b4 | 5 => a5 == b5 | 6 => a6 == b6 | _ => a7 == b7) hty (by kernel_rfl)]
  · simp [List.range, List.range.loop]
  · intro i hi
    have e : ∀ x y : Int, (Op.equalIn (d+1) 62 (.int .u64 x) (.int .u64 y)).run Tryz.prog w = .ok (x == y) w := fun x y => run_equalIn_int w d 62 .u64 .u64 x y (by kernel_rfl)
    obtain rfl | rfl | rfl | rfl | rfl | rfl | rfl | rfl : i = 0 ∨ i = 1 ∨ i = 2 ∨ i = 3 ∨ i = 4 ∨ i = 5 ∨ i = 6 ∨ i = 7 := by omega
    · exact Eq.trans (b := (Op.equalIn (d+1) 62 (.int .u64 a0) (.int .u64 b0)).run Tryz.prog w) (by kernel_rfl) (e a0 b0)
    · exact Eq.trans (b := (Op.equalIn (d+1) 62 (.int .u64 a1) (.int .u64 b1)).run Tryz.prog w) (by kernel_rfl) (e a1 b1)
    · exact Eq.trans (b := (Op.equalIn (d+1) 62 (.int .u64 a2) (.int .u64 b2)).run Tryz.prog w) (by kernel_rfl) (e a2 b2)
    · exact Eq.trans (b := (Op.equalIn (d+1) 62 (.int .u64 a3) (.int .u64 b3)).run Tryz.prog w) (by kernel_rfl) (e a3 b3)
    · exact Eq.trans (b := (Op.equalIn (d+1) 62 (.int .u64 a4) (.int .u64 b4)).run Tryz.prog w) (by kernel_rfl) (e a4 b4)
    · exact Eq.trans (b := (Op.equalIn (d+1) 62 (.int .u64 a5) (.int .u64 b5)).run Tryz.prog w) (by kernel_rfl) (e a5 b5)
    · exact Eq.trans (b := (Op.equalIn (d+1) 62 (.int .u64 a6) (.int .u64 b6)).run Tryz.prog w) (by kernel_rfl) (e a6 b6)
    · exact Eq.trans (b := (Op.equalIn (d+1) 62 (.int .u64 a7) (.int .u64 b7)).run Tryz.prog w) (by kernel_rfl) (e a7 b7)
theorem beq_pl (a b : Sol) : (pl a 0 == pl b 0 && (pl a 1 == pl b 1 && (pl a 2 == pl b 2 && (pl a 3 == pl b 3 && (pl a 4 == pl b 4 && (pl a 5 == pl b 5 && (pl a 6 == pl b 6 && pl a 7 == pl b 7))))))) = (a == b) := by
 rw [Bool.eq_iff_iff]
 simp only [Bool.and_eq_true, beq_iff_eq, sol_eq_iff a b]
@[go_sem] theorem eqSol (d : Nat) (a b : Sol) (w : World) : (Op.equalIn (d+2) 64 (solV a) (solV b)).run Tryz.prog w = .ok (a == b) w := by
 rw [eqArr 64 (by kernel_rfl), beq_pl]
@[go_sem] theorem eqSol0 (d : Nat) (a : Sol) (w : World) : (Op.equalIn (d+2) 64 (solV a) (.agg #[.int .u64 0, .int .u64 0, .int .u64 0, .int .u64 0, .int .u64 0, .int .u64 0, .int .u64 0, .int .u64 0])).run Tryz.prog w = .ok (a == 0#512) w := by
 have := eqSol d a 0 w
 simp only [solV, pl_zero] at this
 exact this
@[go_sem] theorem eqBody (d : Nat) (a b : Sol) (w : World) : (Op.equalIn (d+2) 93 (solV a) (solV b)).run Tryz.prog w = .ok (a == b) w := by
 rw [eqArr 93 (by kernel_rfl), beq_pl]
@[go_sem] theorem eqBody0 (d : Nat) (a : Sol) (w : World) : (Op.equalIn (d+2) 93 (solV a) (.agg #[.int .u64 0, .int .u64 0, .int .u64 0, .int .u64 0, .int .u64 0, .int .u64 0, .int .u64 0, .int .u64 0])).run Tryz.prog w = .ok (a == 0#512) w := by
 have := eqBody d a 0 w
 simp only [solV, pl_zero] at this
 exact this
end Go.Proofs.YtlbhjikkpbknnaaGreatDoor
namespace Go.Proofs.YtlbhjikkpbknnaaGreatDoor
open Go.RowKit Go.Draw
/-! ### WORLDS THAT HAVE GROWN -/
theorem bel_refl (w : World) : Below w.heap.size w w := Below.refl _ _
theorem bel_alloc {w0 w : World} (h : Below w0.heap.size w0 w) (o : Obj) : Below w0.heap.size w0 (w.alloc o) := h.alloc h.size o
theorem bel_drew {w0 w : World} (h : Below w0.heap.size w0 w) : Below w0.heap.size w0 w.drew := h.drew
theorem bel_drewN {w0 w : World} (h : Below w0.heap.size w0 w) (n : Nat) : Below w0.heap.size w0 (w.drewN n) := below_drewN h n
theorem bel_trans {a b c : World} (h : Below a.heap.size a b) (k : Below b.heap.size b c) : Below a.heap.size a c := h.trans (k.mono h.size)
theorem bcell {W w1 : World} (hb : Below W.heap.size W w1) : (∀ b o, b < W.heap.size → w1.cell? ⟨b, o, none⟩ = W.cell? ⟨b, o, none⟩) ∧ (∀ b o, b < W.heap.size → w1.frozen? ⟨b, o, none⟩ = W.frozen? ⟨b, o, none⟩) :=
 ⟨fun b o h => hb.cell (p := ⟨b, o, none⟩) h, fun b o h => hb.frozen (p := ⟨b, o, none⟩) h⟩
end Go.Proofs.YtlbhjikkpbknnaaGreatDoor
namespace Go.Rel
open Go.RowKit
variable {P : Program} {ops : Array Oper} {R : World → World → Prop} {w0 : World} {Q : Act → World → Prop}
/-- the value is this one -/
abbrev Is (c : Value) : Value → World → Prop := fun v _ => v = c
theorem rel_cons {o : Oper} {rest : List Oper} {φ : Value → World → Prop} {φs : List (Value → World → Prop)} {k : Nat} {a : Act} {F : Nat → World → Prop}
  (h1 : ∀ w, R w0 w → facts F o w → step P ops R o a φ w) (h2 : ∀ v, wpRel P ops R w0 Q rest φs (k + 1) (a.put o.dst v) (fun j w => if j = k then φ v w else F j w)) :
  wpRel P ops R w0 Q (o :: rest) (φ :: φs) k a F := ⟨h1, h2⟩
theorem rel_nil {φs : List (Value → World → Prop)} {k : Nat} {a : Act} {F : Nat → World → Prop} (h : ∀ w, R w0 w → (∀ j, j < k → F j w) → Q a w) : wpRel P ops R w0 Q [] φs k a F := h
theorem upon_value {w w' : World} {φ : Value → World → Prop} {v : Value} : upon P R w φ (.ok (.value v) w') = (R w w' ∧ φ v w') := rfl
theorem upon_skip {w w' : World} {φ : Value → World → Prop} : upon P R w φ (.ok .skip w') = (R w w' ∧ φ undef w') := rfl
theorem upon_enter {w w' : World} {φ : Value → World → Prop} {f : FuncId} {args : Array Value} : upon P R w φ (.ok (.enter f args) w') = Calls P f args w' (fun e w'' => ∃ v, e = .returned v ∧ R w w'' ∧ φ v w'') := rfl
attribute [go_sem] step upon_value upon_skip upon_enter
def stable (R : World → World → Prop) : List (Value → World → Prop) → Prop
 | [] => True
 | φ :: φs => (∀ v w w', φ v w → R w w' → φ v w') ∧ stable R φs
theorem stable_mem : ∀ {Vs : List (Value → World → Prop)}, stable R Vs → ∀ φ ∈ Vs, ∀ v w w', φ v w → R w w' → φ v w'
 | [], _, φ, hφ => by cases hφ
 | ψ :: Vs, h, φ, hφ => by
  rcases List.mem_cons.1 hφ with rfl | h'
  ·exact h.1
  ·exact stable_mem h.2 φ h'
/-- nothing that lay there is turned -/
def Grows (w w' : World) : Prop := Below w.heap.size w w'
theorem Grows.refl (w : World) : Grows w w := Below.refl _ _
theorem Grows.trans {a b c : World} (h : Grows a b) (k : Grows b c) : Grows a c := Below.trans h (Below.mono k h.size)
theorem Grows.cells {W w1 : World} (hb : Grows W w1) : (∀ b o, b < W.heap.size → w1.cell? ⟨b, o, none⟩ = W.cell? ⟨b, o, none⟩) ∧ (∀ b o, b < W.heap.size → w1.frozen? ⟨b, o, none⟩ = W.frozen? ⟨b, o, none⟩) :=
 ⟨fun b o h => Below.cell (p := ⟨b, o, none⟩) hb h, fun b o h => Below.frozen (p := ⟨b, o, none⟩) hb h⟩
/-- the law, where the operations before the tail only make memory (nothing that lay there is turned) -/
theorem wp_region_grow {id : Nat} {Q : Exit → Act → World → Prop} {a : Act} {w : World} {l : List Oper} (n : Nat) (Vs : List (Value → World → Prop))
  (hm : P.follows .mixedOrders = true) (hB : relB l.toArray n = true) (hlen : Vs.length = n) (hst : stable Grows Vs)
  (h : wpRel P l.toArray Grows w (fun a' w' => wpList P l.toArray Q (l.drop n) a' w') (l.take n) Vs 0 a (fun _ _ => True)) : (Code.region id l.toArray true).wp P Q a w :=
 wp_region_rel n Grows Vs hm hB hlen Grows.refl (fun _ _ _ => Grows.trans) (stable_mem hst) w (Below.drew (Below.refl _ w)) h
end Go.Rel
namespace Go.Proofs.YtlbhjikkpbknnaaGreatDoor
open Go.RowKit Go.Draw
/-! ### SLICES THAT READ AS A LIST -/
/-- from ⟨b, off⟩ on lie the cells of the rows xs, k cells each -/
def Cells (w : World) (b off k : Nat) (xs : List (List Value)) : Prop :=
 b < w.heap.size ∧ ∀ (i j : Nat) (u : Value), (xs[i]?).bind (·[j]?) = some u → w.cell? ⟨b, off + i * k + j, none⟩ = some u
def Sl (w : World) (k : Nat) (v : Value) (xs : List (List Value)) : Prop :=
 ∃ a c, v = .slice a xs.length c ∧ xs.length ≤ c ∧ c ≤ 9223372036854775807 ∧ (xs = [] ∨ ∃ b off, a = some ⟨b, off, none⟩ ∧ Cells w b off k xs)
theorem Cells.mono {w w' : World} {b off k : Nat} {xs : List (List Value)} (h : Cells w b off k xs) {B : Nat} (hb : Below B w w') (hB : b < B) : Cells w' b off k xs :=
 ⟨Nat.lt_of_lt_of_le h.1 hb.size, fun i j u hu => (hb.cell (p := ⟨b, _, none⟩) hB).trans (h.2 i j u hu)⟩
theorem Sl.mono {w w' : World} {k : Nat} {v : Value} {xs : List (List Value)} (h : Sl w k v xs) (hb : Below w.heap.size w w') : Sl w' k v xs := by
 obtain ⟨a, c, hv, hc, hm, h | ⟨b, off, ha, hcs⟩⟩ := h
 ·exact ⟨a, c, hv, hc, hm, .inl h⟩
 ·exact ⟨a, c, hv, hc, hm, .inr ⟨b, off, ha, hcs.mono hb hcs.1⟩⟩
theorem Sl.cases {w : World} {k : Nat} {v : Value} {xs : List (List Value)} (h : Sl w k v xs) :
  (xs = [] ∧ ∃ a c, v = .slice a 0 c ∧ c ≤ 9223372036854775807) ∨ (∃ b off c, v = .slice (some ⟨b, off, none⟩) xs.length c ∧ xs.length ≤ c ∧ c ≤ 9223372036854775807 ∧ 0 < xs.length ∧ Cells w b off k xs) := by
 obtain ⟨a, c, hv, hc, hm, h | ⟨b, off, ha, hcs⟩⟩ := h
 ·subst h; exact .inl ⟨rfl, a, c, hv, hm⟩
 ·by_cases hx : xs = []
  ·subst hx; exact .inl ⟨rfl, a, c, hv, hm⟩
  ·subst ha
   exact .inr ⟨b, off, c, hv, hc, hm, List.length_pos_iff.2 hx, hcs⟩
abbrev SlS (w : World) (v : Value) (l : List Sol) : Prop := Sl w 8 v (l.map solL)
theorem sol_cells {w : World} {b off : Nat} {l : List Sol} (h : Cells w b off 8 (l.map solL)) {k : Nat} {x : Sol} (hx : l[k]? = some x) :
  w.cell? ⟨b, off + k * 8, none⟩ = some (.int .u64 (pl x 0)) ∧ w.cell? ⟨b, off + k * 8 + 1, none⟩ = some (.int .u64 (pl x 1)) ∧ w.cell? ⟨b, off + k * 8 + 2, none⟩ = some (.int .u64 (pl x 2)) ∧
  w.cell? ⟨b, off + k * 8 + 3, none⟩ = some (.int .u64 (pl x 3)) ∧ w.cell? ⟨b, off + k * 8 + 4, none⟩ = some (.int .u64 (pl x 4)) ∧ w.cell? ⟨b, off + k * 8 + 5, none⟩ = some (.int .u64 (pl x 5)) ∧
  w.cell? ⟨b, off + k * 8 + 6, none⟩ = some (.int .u64 (pl x 6)) ∧ w.cell? ⟨b, off + k * 8 + 7, none⟩ = some (.int .u64 (pl x 7)) :=
 ⟨h.2 k 0 _ (by simp [hx]), h.2 k 1 _ (by simp [hx]), h.2 k 2 _ (by simp [hx]), h.2 k 3 _ (by simp [hx]), h.2 k 4 _ (by simp [hx]), h.2 k 5 _ (by simp [hx]), h.2 k 6 _ (by simp [hx]), h.2 k 7 _ (by simp [hx])⟩

/-! ### THE FIRST INDEX AT WHICH -/
def idx {α : Type} (p : α → Bool) (l : List α) : Int := match l.findIdx? p with | some i => (i : Int) | none => -1
theorem idx_found {α : Type} {p : α → Bool} {l : List α} {k : Nat} {x : α} (hx : l[k]? = some x) (hp : p x = true) (hb : ∀ (j : Nat) (y : α), j < k → l[j]? = some y → p y = false) : idx p l = (k : Int) := by
 have hk : k < l.length := (List.getElem?_eq_some_iff.1 hx).1
 have : l.findIdx? p = some k := by
  rw [List.findIdx?_eq_some_iff_getElem]
  refine ⟨hk, ?_, fun j hj => ?_⟩
  ·have := (List.getElem?_eq_some_iff.1 hx).2; rw [this]; exact hp
  ·have := hb j (l[j]'(by omega)) hj (by simp [show j < l.length by omega]); simp [this]
 unfold idx; rw [this]
theorem idx_none {α : Type} {p : α → Bool} {l : List α} (hb : ∀ (j : Nat) (y : α), l[j]? = some y → p y = false) : idx p l = -1 := by
 have : l.findIdx? p = none := by
  rw [List.findIdx?_eq_none_iff]
  intro x hx
  obtain ⟨j, hj⟩ := List.mem_iff_getElem?.1 hx
  exact hb j x hj
 unfold idx; rw [this]
theorem idx_nonneg {α : Type} {p : α → Bool} {l : List α} : (0 ≤ idx p l) = (l.any p = true) := by
 unfold idx
 cases h : l.findIdx? p with
 | none =>
  have := List.findIdx?_eq_none_iff.1 h
  simp only [eq_iff_iff]
  constructor
  ·intro h; omega
  ·intro h'
   obtain ⟨x, hx, hp⟩ := List.any_eq_true.1 h'
   rw [this x hx] at hp; cases hp
 | some i =>
  obtain ⟨hi, hp, _⟩ := List.findIdx?_eq_some_iff_getElem.1 h
  simp only [eq_iff_iff]
  constructor
  ·intro _; exact List.any_eq_true.2 ⟨l[i], by simp, hp⟩
  ·intro _; omega
theorem idx_lt {α : Type} {p : α → Bool} {l : List α} : idx p l < l.length ∨ idx p l = -1 := by
 unfold idx
 cases h : l.findIdx? p with
 | none => exact .inr rfl
 | some i =>
  obtain ⟨hi, _, _⟩ := List.findIdx?_eq_some_iff_getElem.1 h
  exact .inl (by simpa using hi)
theorem idx_ge {α : Type} (p : α → Bool) (l : List α) : -1 ≤ idx p l := by
 unfold idx; cases l.findIdx? p <;> simp <;> omega
end Go.Proofs.YtlbhjikkpbknnaaGreatDoor
namespace Go.Proofs.YtlbhjikkpbknnaaGreatDoor
theorem ret_int {k : IntKind} {a b : Int} (h : a = b) : Ending.returned (.int k a) = .returned (.int k b) := by rw [h]
theorem ret_bool {a b : Bool} (h : a = b) : Ending.returned (.bool a) = .returned (.bool b) := by rw [h]
end Go.Proofs.YtlbhjikkpbknnaaGreatDoor
end
section
namespace Go.Proofs.YtlbhjikkpbknnaaGreatDoor
open Go.RowKit Go.Rel Go.Draw
set_option maxRecDepth 100000
/-! a block known whole -/
def Blk (w : World) (b : Nat) (c : Array Value) (t : TypeId) : Prop := w.heap[b]? = some (.cells c t (0, 0))
theorem Blk.cell {w : World} {b : Nat} {c : Array Value} {t : TypeId} (h : Blk w b c t) (o : Nat) : w.cell? ⟨b, o, none⟩ = c[o]? := by
 unfold Blk at h; simp [World.cell?, h]
theorem Blk.free {w : World} {b : Nat} {c : Array Value} {t : TypeId} (h : Blk w b c t) (o : Nat) : w.frozen? ⟨b, o, none⟩ = false := by
 unfold Blk at h; simp [World.frozen?, h]
theorem Blk.lt {w : World} {b : Nat} {c : Array Value} {t : TypeId} (h : Blk w b c t) : b < w.heap.size := (Array.getElem?_eq_some_iff.1 h).1
theorem Blk.set {w : World} {b : Nat} {c : Array Value} {t : TypeId} (h : Blk w b c t) (o : Nat) (v : Value) : Blk (w.setCell ⟨b, o, none⟩ v) b (c.setIfInBounds o v) t := by
 unfold Blk at *
 simp [World.setCell, Array.getElem?_modify, h]
theorem Blk.other {w : World} {b : Nat} {c : Array Value} {t : TypeId} (h : Blk w b c t) {a : Addr} (hne : a.block ≠ b) (v : Value) : Blk (w.setCell a v) b c t :=
 (Below.heap_setCell w a v b (Ne.symm hne)).trans h
theorem Blk.below {w w' : World} {b : Nat} {c : Array Value} {t : TypeId} (h : Blk w b c t) {B : Nat} (hb : Below B w w') (hlt : b < B) : Blk w' b c t := (hb.block b hlt).trans h
theorem Blk.grow {w w' : World} {b : Nat} {c : Array Value} {t : TypeId} (h : Blk w b c t) (hb : Below w.heap.size w w') : Blk w' b c t := h.below hb h.lt
theorem Blk.alloc {w : World} {b : Nat} {c : Array Value} {t : TypeId} (h : Blk w b c t) (o : Obj) : Blk (w.alloc o) b c t := (Below.heap_alloc w o b h.lt).trans h
theorem Blk.drew {w : World} {b : Nat} {c : Array Value} {t : TypeId} (h : Blk w b c t) : Blk w.drew b c t := h
theorem Blk.new (w : World) (c : Array Value) (t : TypeId) : Blk (w.alloc (.cells c t)) w.heap.size c t := by
 unfold Blk; show (w.heap.push _)[w.heap.size]? = _; simp
theorem Blk.new1 (w : World) (o : Obj) (c : Array Value) (t : TypeId) : Blk ((w.alloc o).alloc (.cells c t)) (w.heap.size + 1) c t := by
 have := Blk.new (w.alloc o) c t; rwa [World.size_alloc] at this
theorem Blk.new2 (w : World) (o o' : Obj) (c : Array Value) (t : TypeId) : Blk (((w.alloc o).alloc o').alloc (.cells c t)) (w.heap.size + 1 + 1) c t := by
 have := Blk.new1 (w.alloc o) o' c t; rwa [World.size_alloc] at this
theorem Blk.new3 (w : World) (o o' o'' : Obj) (c : Array Value) (t : TypeId) : Blk ((((w.alloc o).alloc o').alloc o'').alloc (.cells c t)) (w.heap.size + 1 + 1 + 1) c t := by
 have := Blk.new2 (w.alloc o) o' o'' c t; rwa [World.size_alloc] at this
theorem setRow_setCell (w : World) (g i : Nat) (cs : Array Value) (v : Value) : (w.setRow g cs).setCell ⟨g, i, none⟩ v = w.setRow g (cs.setIfInBounds i v) := by
 unfold World.setCell World.setRow
 congr 1
 apply Array.ext
 ·simp
 ·intro k h1 h2
  simp only [Array.getElem_modify]
  split
  ·cases w.heap[k]'(by simpa using h1) <;> rfl
  ·rfl
theorem setRow_setCell_other (w : World) (g k i : Nat) (cs : Array Value) (v : Value) (h : k ≠ g) : (w.setRow g cs).setCell ⟨k, i, none⟩ v = (w.setCell ⟨k, i, none⟩ v).setRow g cs := by
 unfold World.setCell World.setRow
 congr 1
 apply Array.ext
 ·simp
 ·intro j h1 h2
  simp only [Array.getElem_modify]
  by_cases e1 : g = j
  ·by_cases e2 : k = j
   ·exact absurd (e2.trans e1.symm) h
   ·simp [e1, e2]
  ·simp [e1]
theorem cell_row_other (w : World) (g k i : Nat) (cs : Array Value) (h : k ≠ g) : (w.setRow g cs).cell? ⟨k, i, none⟩ = w.cell? ⟨k, i, none⟩ := cell_setRow_other w g cs ⟨k, i, none⟩ h
theorem frozen_row_other (w : World) (g k i : Nat) (cs : Array Value) (h : k ≠ g) : (w.setRow g cs).frozen? ⟨k, i, none⟩ = w.frozen? ⟨k, i, none⟩ := by
 simp [World.frozen?, setRow_other w g k cs h]
theorem row_drew (w : World) (g : Nat) (cs : Array Value) : w.drew.setRow g cs = (w.setRow g cs).drew := rfl
attribute [go_sem] setRow_size setRow_setCell setRow_setCell_other cell_row_other frozen_row_other row_drew
/-- there is a row of cells at g, none of them frozen -/
def Row (w : World) (g : Nat) : Prop := ∃ c t, Blk w g c t
theorem cell_row_at (w : World) (g i : Nat) (cs : Array Value) (h : Row w g) : (w.setRow g cs).cell? ⟨g, i, none⟩ = cs[i]? := by
 obtain ⟨c, t, h⟩ := h; exact cell_setRow_same w g i c cs t (0, 0) h
theorem frozen_row_at (w : World) (g i : Nat) (cs : Array Value) (h : Row w g) : (w.setRow g cs).frozen? ⟨g, i, none⟩ = false := by
 obtain ⟨c, t, h⟩ := h; exact frozen_of_row _ g i cs t (setRow_heap w g c cs t (0, 0) h)
theorem row_setRow (w : World) (g k : Nat) (cs : Array Value) : Row (w.setRow k cs) g = Row w g := by
 by_cases e : g = k
 ·subst e
  refine propext ⟨fun ⟨c, t, h⟩ => ?_, fun ⟨c, t, h⟩ => ⟨_, _, setRow_heap w g c cs t (0, 0) h⟩⟩
  unfold Blk World.setRow at h
  simp only [Array.getElem?_modify] at h
  cases hh : w.heap[g]? with
  | none => rw [hh] at h; simp at h
  | some o =>
   rw [hh] at h
   cases o with
   | cells c' t' fr => simp at h; exact ⟨c', t', by unfold Blk; rw [hh]; simp [h]⟩
   | _ => simp at h
 ·refine propext ⟨fun ⟨c, t, h⟩ => ⟨c, t, ?_⟩, fun ⟨c, t, h⟩ => ⟨c, t, ?_⟩⟩
  ·unfold Blk at *; rwa [setRow_other w k g cs e] at h
  ·unfold Blk at *; rwa [setRow_other w k g cs e]
attribute [go_sem] cell_row_at frozen_row_at row_setRow
theorem Blk.row {w : World} {b : Nat} {c : Array Value} {t : TypeId} (h : Blk w b c t) : Row w b := ⟨c, t, h⟩
theorem Blk.rw {w : World} {b : Nat} {c : Array Value} {t : TypeId} (h : Blk w b c t) : w.setRow b c = w := setRow_self w b c t (0, 0) h
theorem Blk.rowS {w : World} {b : Nat} {c : Array Value} {t : TypeId} (h : Blk w b c t) (cs : Array Value) : Blk (w.setRow b cs) b cs t := setRow_heap w b c cs t (0, 0) h
theorem Blk.at {w : World} {n : Nat} (c : Array Value) (t : TypeId) (h : n = w.heap.size) : Blk (w.alloc (.cells c t)) n c t := by subst h; exact Blk.new w c t
theorem add1_ne (x : Nat) : (x + 1 = x) = False := by simp
theorem add2_ne (x : Nat) : (x + 1 + 1 = x) = False := eq_false (by omega)
theorem add3_ne (x : Nat) : (x + 1 + 1 + 1 = x) = False := eq_false (by omega)
theorem add4_ne (x : Nat) : (x + 1 + 1 + 1 + 1 = x) = False := eq_false (by omega)
theorem ne_add1 (x : Nat) : (x = x + 1) = False := by simp
theorem ne_add2 (x : Nat) : (x = x + 1 + 1) = False := eq_false (by omega)
theorem ne_add3 (x : Nat) : (x = x + 1 + 1 + 1) = False := eq_false (by omega)
theorem ne_add4 (x : Nat) : (x = x + 1 + 1 + 1 + 1) = False := eq_false (by omega)
attribute [go_sem] add1_ne add2_ne add3_ne add4_ne ne_add1 ne_add2 ne_add3 ne_add4
theorem Blk.rowO {w : World} {b : Nat} {c : Array Value} {t : TypeId} (h : Blk w b c t) {g : Nat} (cs : Array Value) (hne : b ≠ g) : Blk (w.setRow g cs) b c t := (setRow_other w g b cs hne).trans h
theorem bel_row {w0 w : World} (h : Below w0.heap.size w0 w) {g : Nat} (hg : w0.heap.size ≤ g) (cs : Array Value) : Below w0.heap.size w0 (w.setRow g cs) :=
 ⟨h.os, h.tape, h.output, by rw [setRow_size]; exact h.size, fun k hk => (setRow_other w g k cs (by omega)).trans (h.block k hk)⟩
theorem blw_row {B : Nat} {w0 w : World} (h : Below B w0 w) {g : Nat} (hg : B ≤ g) (cs : Array Value) : Below B w0 (w.setRow g cs) :=
 ⟨h.os, h.tape, h.output, by rw [setRow_size]; exact h.size, fun k hk => (setRow_other w g k cs (by omega)).trans (h.block k hk)⟩
theorem bel_set {w0 w : World} (h : Below w0.heap.size w0 w) {p : Addr} (hp : w0.heap.size ≤ p.block) (u : Value) : Below w0.heap.size w0 (w.setCell p u) := h.setCell hp u
@[irreducible] def Veil (p : Prop) : Prop := p
theorem Veil.out {p : Prop} (h : Veil p) : p := by unfold Veil at h; exact h
theorem Veil.on {p : Prop} (h : p) : Veil p := by unfold Veil; exact h
theorem Sl.out {w : World} {k : Nat} {v : Value} {xs : List (List Value)} (h : Sl w k v xs) : ∃ a n c, v = .slice a n c ∧ n = xs.length ∧ n ≤ c ∧ c ≤ 9223372036854775807 := by
 obtain ⟨a, c, hv, hc, hm, _⟩ := h
 exact ⟨a, xs.length, c, hv, rfl, hc, hm⟩
theorem SlS.out {w : World} {v : Value} {l : List Sol} (h : SlS w v l) : ∃ a n c, v = .slice a n c ∧ n = l.length ∧ n ≤ c ∧ c ≤ 9223372036854775807 := by
 obtain ⟨a, n, c, h1, h2, h3⟩ := Sl.out h
 exact ⟨a, n, c, h1, by simpa using h2, h3⟩
end Go.Proofs.YtlbhjikkpbknnaaGreatDoor
end
