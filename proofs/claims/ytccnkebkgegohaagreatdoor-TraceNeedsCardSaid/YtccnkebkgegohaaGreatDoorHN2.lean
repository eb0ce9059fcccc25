import Derived.Test.YtccnkebkgegohaaGreatDoorHV4
/-
  Given contracts of functions of the program, and laws for them, one behind the other.
-/
set_option linter.unusedVariables false
set_option linter.unusedSimpArgs false
set_option linter.unusedSectionVars false
section
namespace Go.Proofs.YtccnkebkgegohaaGreatDoor
open Go.RowKit Go.Rel
set_option maxRecDepth 100000
/-! the law of needs: pieces -/
def ndU (NS : Nat → List Int) (i : Nat) (x : Int) : Bool := (List.range i).any fun j => (NS j).contains x
theorem ndU_succ (NS : Nat → List Int) (i : Nat) (x : Int) : ndU NS (i + 1) x = (ndU NS i x || (NS i).contains x) := by
 unfold ndU; rw [List.range_succ, List.any_append]; simp
theorem Mp.congr {w : World} {b n : Nat} {p q : Int → Bool} (h : Mp w b n p) (e : ∀ x, p x = q x) : Mp w b n q := by
 have : p = q := funext e
 rw [← this]; exact h
theorem Mp.of_put {w : World} {b n : Nat} {p : Int → Bool} {D : DataW Unit} {k : Int} (hk : (Lit.int .i64 k).wf = true) (h2 : Maps.IsMap D) (h3 : ∀ k : Int, D.atKey (.int .i64 k) (.lit (.bool false)) = .lit (.bool (p k)))
  (h : w.ownsMap Tryz.prog 3 (plainElem Tryz.prog 4) b n (D.put (.int .i64 k) (.lit (.bool true)))) : Mp w b n fun i => p i || i == k := by
 refine ⟨_, h, h2.put _ _, fun i => ?_⟩
 by_cases e : i = k
 ·subst e
  rw [Maps.atKey_put_same h2 (mapL.key (Maps.keyOf_int_mk mapK hk))]
  simp
 ·rw [Maps.atKey_put_other (by intro h; cases h; exact e rfl), h3]
  have : (p i || i == k) = p i := by simp [e]
  show DataW.lit (Lit.bool (p i)) = DataW.lit (Lit.bool (p i || i == k))
  rw [this]
theorem owni_at {W : World} {base : Nat} {q : Option Addr} {n c : Nat} {l : List Int} (h : OwnI W base (.slice q n c) l) {j : Nat} {x : Int} (hx : l[j]? = some x) : ∃ b o, q = some ⟨b, o, none⟩ ∧ base ≤ b ∧ b < W.heap.size ∧ W.cell? ⟨b, o + j, none⟩ = some (.int .i64 x) := by
 obtain ⟨b, o, e, hb, hc⟩ := ints_at (OwnI.sl h) hx
 subst e
 exact ⟨b, o, rfl, (h.lt b rfl).1, hb, hc W (Below.refl _ _) j x hx⟩
theorem wpList_mp_look {w : World} {ops : Array Oper} {rest : List Oper} {o : Oper} {a : Act} {Q : Exit → Act → World → Prop}
  (hg : o.guard = none) (m x : Operand) (hop : o.op = Op.lookup 80 m x false) (b n : Nat) (p : Int → Bool) (hm : a.eval m = .map (some b)) (k : Int) (hx : a.eval x = .int .i64 k) (hk : (Lit.int .i64 k).wf = true) (hM : Mp w b n p)
  (hK : wpList Tryz.prog ops Q rest (a.put o.dst (.bool (p k))) w) :
  wpList Tryz.prog ops Q (o :: rest) a w := by
 refine wpList_plain hg fun K' hK' => ?_
 have hrun := hM.look hk
 unfold Oper.wp
 simp [execOp, hop, hm, hx, hrun, Result.andThen]
 exact hK' _ _ hK
theorem below_put {w w' : World} {b base : Nat} (h : w.grownBy w' (some b)) (hb : base ≤ b) (hs : b < w.heap.size) : Below base w w' :=
 ⟨h.os, h.tape, h.output, h.size, fun k hk => h.block k (by omega) (by intro e; cases e; omega)⟩
theorem grown_of_below {w w' : World} (h : Below w.heap.size w w') (r : Option Nat) : w.grownBy w' r := ⟨h.os, h.tape, h.output, h.size, fun k hk _ => h.block k hk⟩
set_option maxHeartbeats 8000000 in
theorem TraceNeeds_many (b : Sol) (p0 q0 : Option Addr) (n0 c0 k0 d0 : Nat) (w : World) (hm : many k0 n0 = true) (HAL : AliveH w) :
  Calls Tryz.prog 14 #[.agg #[.int .u64 (pl b 0), .int .u64 (pl b 1), .int .u64 (pl b 2), .int .u64 (pl b 3), .int .u64 (pl b 4), .int .u64 (pl b 5), .int .u64 (pl b 6), .int .u64 (pl b 7), .slice p0 n0 c0, .slice q0 k0 d0]] w fun e w' => e = .returned (.bool true) ∧ Below w.heap.size w w' := by
 go_enter Tryz.func14, Tryz.ntmps14
 go_wp2_with fail
 refine (few1 (b := b) (p := p0) (q := q0) (n := n0) (c := c0) (k := k0) (d := d0) (t := 30) _ bks_by).mono ?_
 rw [hm]
 rintro e w1 ⟨rfl, hb⟩
 have g0 : Blk w1 (w.heap.size) #[.int .u64 (pl b 0), .int .u64 (pl b 1), .int .u64 (pl b 2), .int .u64 (pl b 3), .int .u64 (pl b 4), .int .u64 (pl b 5), .int .u64 (pl b 6), .int .u64 (pl b 7), .slice p0 n0 c0, .slice q0 k0 d0] 30 := Blk.grow bks_by hb
 have hB : Below w.heap.size w w1 := bel_trans bni hb
 clear hb
 have c_g0 := g0.cell
 have l_g0 := g0.lt
 go_wp2_with fail
 clear c_g0 l_g0
 refine (HAL.out _ (bel_trans hB bni)).mono ?_
 rintro e w2 ⟨rfl, hb⟩
 have hbb : Below w1.heap.size w1 w2 := bel_trans bni hb
 replace hB := bel_trans hB hbb
 replace g0 := g0.grow hbb
 clear hb hbb
 have c_g0 := g0.cell
 have l_g0 := g0.lt
 go_wp2_with fail
 clear c_g0 l_g0
 refine bodyPost_ret (v := .bool true) (by simp [results, Tryz.results14, go_sem]) rfl ⟨rfl, hB⟩
set_option maxHeartbeats 8000000 in
theorem TraceNeeds_bad (b : Sol) (p0 q0 : Option Addr) (n0 c0 k0 d0 : Nat) (w : World) (hm : many k0 n0 = false) (y : Int) (hy : (y != 0) = true) (H47 : Hid (∀ w', Below w.heap.size w w' → Calls Tryz.prog 47 #[.agg #[.int .u64 (pl b 0), .int .u64 (pl b 1), .int .u64 (pl b 2), .int .u64 (pl b 3), .int .u64 (pl b 4), .int .u64 (pl b 5), .int .u64 (pl b 6), .int .u64 (pl b 7), .slice p0 n0 c0, .slice q0 k0 d0]] w' fun e w'' => e = .returned (.tuple #[.slice none 0 0, .int .i64 y]) ∧ Below w'.heap.size w' w'')) (HAL : AliveH w) :
  Calls Tryz.prog 14 #[.agg #[.int .u64 (pl b 0), .int .u64 (pl b 1), .int .u64 (pl b 2), .int .u64 (pl b 3), .int .u64 (pl b 4), .int .u64 (pl b 5), .int .u64 (pl b 6), .int .u64 (pl b 7), .slice p0 n0 c0, .slice q0 k0 d0]] w fun e w' => e = .returned (.bool true) ∧ Below w.heap.size w w' := by
 go_enter Tryz.func14, Tryz.ntmps14
 go_wp2_with fail
 refine (few1 (b := b) (p := p0) (q := q0) (n := n0) (c := c0) (k := k0) (d := d0) (t := 30) _ bks_by).mono ?_
 rw [hm]
 rintro e w1 ⟨rfl, hb⟩
 have g0 : Blk w1 (w.heap.size) #[.int .u64 (pl b 0), .int .u64 (pl b 1), .int .u64 (pl b 2), .int .u64 (pl b 3), .int .u64 (pl b 4), .int .u64 (pl b 5), .int .u64 (pl b 6), .int .u64 (pl b 7), .slice p0 n0 c0, .slice q0 k0 d0] 30 := Blk.grow bks_by hb
 have hB : Below w.heap.size w w1 := bel_trans bni hb
 clear hb
 have c_g0 := g0.cell
 have l_g0 := g0.lt
 go_wp2_with fail
 clear c_g0 l_g0
 refine (H47.out _ (bel_trans hB bni)).mono ?_
 rintro e w2 ⟨rfl, hb⟩
 have hbb : Below w1.heap.size w1 w2 := bel_trans bni hb
 replace hB := bel_trans hB hbb
 replace g0 := g0.grow hbb
 clear hb hbb
 have c_g0 := g0.cell
 have l_g0 := g0.lt
 go_wp2_with fail
 clear c_g0 l_g0
 refine (HAL.out _ (bel_trans hB bni)).mono ?_
 rintro e w3 ⟨rfl, hb⟩
 have hbb : Below w2.heap.size w2 w3 := bel_trans bni hb
 replace hB := bel_trans hB hbb
 replace g0 := g0.grow hbb
 clear hb hbb
 have c_g0 := g0.cell
 have l_g0 := g0.lt
 go_wp2_with fail
 clear c_g0 l_g0
 refine bodyPost_ret (v := .bool true) (by simp [results, Tryz.results14, go_sem]) rfl ⟨rfl, hB⟩
def chJ (ind : Nat → Bool) (n : Nat) : Bool := (List.range n).all fun i => !ind i
theorem chJ_succ (ind : Nat → Bool) (n : Nat) : chJ ind (n + 1) = (chJ ind n && !ind n) := by
 unfold chJ; rw [List.range_succ, List.all_append]; simp
def chU (ind : Nat → Bool) (n : Nat) : Bool := chJ ind (n - 1)
set_option maxHeartbeats 8000000 in
theorem TraceNeeds_good (b : Sol) (p0 q0 : Option Addr) (n0 c0 k0 d0 : Nat) (w : World) (hm : many k0 n0 = false) (l : List Sol) (g : List Ac) (hk60 : k0 ≤ 60) (HG : Hid (g.length = k0)) (HV : Hid (SlS w (.slice p0 n0 c0) l ∧ SlA w (.slice q0 k0 d0) g)) (LS : List Int) (NS : Nat → List Int) (U A : Nat → List Ac) (N : List Ac) (ORD : Int) (ind : Nat → Bool)
  (HNS : Hid (∀ i, i < k0 → (NS i).length ≤ 60 ∧ ∀ x ∈ NS i, 0 ≤ x ∧ x < 60)) (HLN : Hid (∀ i : Nat, i < k0 → LS.contains (i : Int) = !ndU NS k0 i)) (HFIN : Hid ((ORD == 1) = chU ind N.length))
  (H47 : Hid (∀ w', Below w.heap.size w w' → Calls Tryz.prog 47 #[.agg #[.int .u64 (pl b 0), .int .u64 (pl b 1), .int .u64 (pl b 2), .int .u64 (pl b 3), .int .u64 (pl b 4), .int .u64 (pl b 5), .int .u64 (pl b 6), .int .u64 (pl b 7), .slice p0 n0 c0, .slice q0 k0 d0]] w' (IRes LS 0 w')))
  (H50 : Hid (∀ i : Nat, i < k0 → ∀ w', Below w.heap.size w w' → Calls Tryz.prog 50 #[.agg #[.int .u64 (pl b 0), .int .u64 (pl b 1), .int .u64 (pl b 2), .int .u64 (pl b 3), .int .u64 (pl b 4), .int .u64 (pl b 5), .int .u64 (pl b 6), .int .u64 (pl b 7), .slice p0 n0 c0, .slice q0 k0 d0], .int .i64 (i : Int)] w' fun e w'' => ∃ u, e = .returned (.tuple #[u, .int .i64 0]) ∧ OwnI w'' w'.heap.size u (NS i) ∧ Below w'.heap.size w' w''))
  (H57l : Hid (∀ i : Nat, i < k0 → ndU NS k0 i = true → ∀ w', Below w.heap.size w w' → Calls Tryz.prog 57 #[.agg #[.int .u64 (pl b 0), .int .u64 (pl b 1), .int .u64 (pl b 2), .int .u64 (pl b 3), .int .u64 (pl b 4), .int .u64 (pl b 5), .int .u64 (pl b 6), .int .u64 (pl b 7), .slice p0 n0 c0, .slice q0 k0 d0], .int .i64 (i : Int)] w' fun e w'' => e = .returned (.tuple #[.agg #[.int .u64 0, .int .u64 0, .int .u64 0, .int .u64 0, .int .u64 0, .int .u64 0, .int .u64 0, .int .u64 0, .slice none 0 0, .slice none 0 0], .int .i64 46]) ∧ Below w'.heap.size w' w''))
  (H57y : Hid (∀ i : Nat, i < k0 → ndU NS k0 i = false → ∀ w', Below w.heap.size w w' → Calls Tryz.prog 57 #[.agg #[.int .u64 (pl b 0), .int .u64 (pl b 1), .int .u64 (pl b 2), .int .u64 (pl b 3), .int .u64 (pl b 4), .int .u64 (pl b 5), .int .u64 (pl b 6), .int .u64 (pl b 7), .slice p0 n0 c0, .slice q0 k0 d0], .int .i64 (i : Int)] w' (HResN b l (U i) 0 w')))
  (H40 : Hid (∀ (i : Nat) (x : Ac), g[i]? = some x → ndU NS k0 i = false → ∀ w' p n c q k d, SlS w' (.slice p n c) l → SlN w' (.slice q k d) (U i) → Calls Tryz.prog 40 #[.agg #[.int .u64 (pl b 0), .int .u64 (pl b 1), .int .u64 (pl b 2), .int .u64 (pl b 3), .int .u64 (pl b 4), .int .u64 (pl b 5), .int .u64 (pl b 6), .int .u64 (pl b 7), .slice p n c, .slice q k d], .agg #[.int .u8 x.1, .int .i64 x.2.1, .int .u64 (pl x.2.2 0), .int .u64 (pl x.2.2 1), .int .u64 (pl x.2.2 2), .int .u64 (pl x.2.2 3), .int .u64 (pl x.2.2 4), .int .u64 (pl x.2.2 5), .int .u64 (pl x.2.2 6), .int .u64 (pl x.2.2 7)]] w' (HRes b l (A i) 0 w')))
  (H42 : Hid (∀ i : Nat, i < k0 → ndU NS k0 i = false → ∀ w' p n c q k d, Below w.heap.size w w' → SlS w' (.slice p n c) l → SlA w' (.slice q k d) (A i) → Calls Tryz.prog 42 #[.agg #[.int .u64 (pl b 0), .int .u64 (pl b 1), .int .u64 (pl b 2), .int .u64 (pl b 3), .int .u64 (pl b 4), .int .u64 (pl b 5), .int .u64 (pl b 6), .int .u64 (pl b 7), .slice p n c, .slice q k d], .agg #[.int .u64 (pl b 0), .int .u64 (pl b 1), .int .u64 (pl b 2), .int .u64 (pl b 3), .int .u64 (pl b 4), .int .u64 (pl b 5), .int .u64 (pl b 6), .int .u64 (pl b 7), .slice p0 n0 c0, .slice q0 k0 d0]] w' fun e w'' => e = .returned (.tuple #[.bool true, .int .i64 0]) ∧ Below w'.heap.size w' w''))
  (H55 : Hid (∀ w', Below w.heap.size w w' → Calls Tryz.prog 55 #[.agg #[.int .u64 (pl b 0), .int .u64 (pl b 1), .int .u64 (pl b 2), .int .u64 (pl b 3), .int .u64 (pl b 4), .int .u64 (pl b 5), .int .u64 (pl b 6), .int .u64 (pl b 7), .slice p0 n0 c0, .slice q0 k0 d0]] w' (HRes b l N 0 w')))
  (H52 : Hid (∀ w', Below w.heap.size w w' → Calls Tryz.prog 52 #[.agg #[.int .u64 (pl b 0), .int .u64 (pl b 1), .int .u64 (pl b 2), .int .u64 (pl b 3), .int .u64 (pl b 4), .int .u64 (pl b 5), .int .u64 (pl b 6), .int .u64 (pl b 7), .slice p0 n0 c0, .slice q0 k0 d0]] w' fun e w'' => e = .returned (.tuple #[.int .i64 ORD, .int .i64 0]) ∧ Below w'.heap.size w' w''))
  (H32 : Hid (∀ (i : Nat) (x y : Ac), N[i]? = some x → N[i + 1]? = some y → ∀ w' p n c, SlS w' (.slice p n c) l → Calls Tryz.prog 32 #[.agg #[.int .u64 (pl b 0), .int .u64 (pl b 1), .int .u64 (pl b 2), .int .u64 (pl b 3), .int .u64 (pl b 4), .int .u64 (pl b 5), .int .u64 (pl b 6), .int .u64 (pl b 7), .slice p n c], .agg #[.int .u8 x.1, .int .i64 x.2.1, .int .u64 (pl x.2.2 0), .int .u64 (pl x.2.2 1), .int .u64 (pl x.2.2 2), .int .u64 (pl x.2.2 3), .int .u64 (pl x.2.2 4), .int .u64 (pl x.2.2 5), .int .u64 (pl x.2.2 6), .int .u64 (pl x.2.2 7)], .agg #[.int .u8 y.1, .int .i64 y.2.1, .int .u64 (pl y.2.2 0), .int .u64 (pl y.2.2 1), .int .u64 (pl y.2.2 2), .int .u64 (pl y.2.2 3), .int .u64 (pl y.2.2 4), .int .u64 (pl y.2.2 5), .int .u64 (pl y.2.2 6), .int .u64 (pl y.2.2 7)]] w' fun e w'' => e = .returned (.tuple #[.bool (ind i), .int .i64 0]) ∧ Below w'.heap.size w' w'')) (HAL : AliveH w) :
  Calls Tryz.prog 14 #[.agg #[.int .u64 (pl b 0), .int .u64 (pl b 1), .int .u64 (pl b 2), .int .u64 (pl b 3), .int .u64 (pl b 4), .int .u64 (pl b 5), .int .u64 (pl b 6), .int .u64 (pl b 7), .slice p0 n0 c0, .slice q0 k0 d0]] w fun e w' => e = .returned (.bool true) ∧ Below w.heap.size w w' := by
 go_enter Tryz.func14, Tryz.ntmps14
 go_wp2_with fail
 refine (few1 (b := b) (p := p0) (q := q0) (n := n0) (c := c0) (k := k0) (d := d0) (t := 30) _ bks_by).mono ?_
 rw [hm]
 rintro e w1 ⟨rfl, hb⟩
 have g0 : Blk w1 (w.heap.size) #[.int .u64 (pl b 0), .int .u64 (pl b 1), .int .u64 (pl b 2), .int .u64 (pl b 3), .int .u64 (pl b 4), .int .u64 (pl b 5), .int .u64 (pl b 6), .int .u64 (pl b 7), .slice p0 n0 c0, .slice q0 k0 d0] 30 := Blk.grow bks_by hb
 have hB : Below w.heap.size w w1 := bel_trans bni hb
 clear hb
 have c_g0 := g0.cell
 have l_g0 := g0.lt
 go_wp2_with fail
 clear c_g0 l_g0
 refine (H47.out _ (bel_trans hB bni)).mono ?_
 rintro e w2 ⟨u3, rfl, hL, _, hb⟩
 have hbb : Below w1.heap.size w1 w2 := bel_trans bni hb
 have hB2 := bel_trans hB hbb
 have HL := Lib.hid hL
 have HG0 := Lib.hid (g0.grow hbb)
 clear hb hbb hL hB g0
 have hmm := @run_makeMap Tryz.prog
 have c_0 := HG0.out.cell
 have l_0 := HG0.out.lt
 go_wp2_with fail
 clear c_0 l_0
 have HM : Hid (Below w2.heap.size w2 (w2.alloc (.map #[] 0)) ∧ Mp (w2.alloc (.map #[] 0)) w2.heap.size 0 (ndU NS 0)) := Lib.hid ⟨bel_alloc (bel_refl _) _, (Mp.made w2).congr fun x => rfl⟩
 go_loopw [49] (fun iv wr => ∃ i n : Nat, i ≤ k0 ∧ iv = .int .i64 i ∧ n ≤ i * 60 ∧ Hid (Below w2.heap.size w2 wr ∧ Mp wr w2.heap.size n (ndU NS i))) (fun iv _ => k0 - (intOf iv).toNat)
 case atStart => exact ⟨0, 0, Nat.zero_le _, rfl, Nat.le_refl _, HM⟩
 case round =>
  clear HM
  obtain ⟨i, n, hi, rfl, hn, HM⟩ := hrel
  have hBr : Below w.heap.size w wr := hB2.trans (HM.out.1.mono hB2.size)
  have hmb : w2.heap.size < wr.heap.size := HM.out.2.lt
  have G0r := HG0.out.below HM.out.1 HG0.out.lt
  have c_0 := G0r.cell
  have l_0 := G0r.lt
  by_cases hlt : i < k0
  ·go_wp2_with fail
   clear c_0 l_0 G0r
   refine (H50.out i hlt _ hBr).mono ?_
   rintro e w4 ⟨u, rfl, hO, hb⟩
   have hll := HNS.out i hlt
   refine Veil.out ?_
   obtain ⟨q, cp, rfl, hq1, hq2⟩ := own_shape' hO
   refine Veil.on ?_
   have HX := Lib.hid hll.2
   have hl60 := hll.1
   have HOL := Lib.hid hO
   have HM4 : Hid (Below w2.heap.size w2 w4 ∧ Mp w4 w2.heap.size n (ndU NS i)) := Lib.hid ⟨HM.out.1.trans (hb.mono (by omega)), HM.out.2.grow hmb hb⟩
   have hwr := hb.size
   clear hll hO HM hb
   generalize hlen : (NS i).length = nl at *
   have HLEN := Lib.hid hlen
   clear hlen
   go_wp2_with fail
   go_loopw [62] (fun jv wq => ∃ j n' : Nat, j ≤ nl ∧ jv = .int .i64 j ∧ n' ≤ i * 60 + j ∧ Hid (w4.grownBy wq (some w2.heap.size) ∧ Mp wq w2.heap.size n' fun x => ndU NS i x || ((NS i).take j).contains x)) (fun jv _ => nl - (intOf jv).toNat)
   case atStart => exact ⟨0, n, Nat.zero_le _, rfl, by omega, Lib.hid ⟨grown_of_below (Below.refl _ _) _, HM4.out.2.congr fun x => by simp⟩⟩
   case round =>
    obtain ⟨j, n', hj, rfl, hn', HI⟩ := hrel
    by_cases hlj : j < nl
    ·have hx : (NS i)[j]? = some ((NS i)[j]'(by rw [HLEN.out]; exact hlj)) := by simp
     have hxr := HX.out _ (List.getElem_mem (by rw [HLEN.out]; exact hlj))
     generalize (NS i)[j]'(by rw [HLEN.out]; exact hlj) = x at hx hxr
     obtain ⟨bb, oo, rfl, hb1, hb2, hc⟩ := owni_at HOL.out hx
     have a0 := HI.out.1.cell hc (by intro e; have e2 : bb = w2.heap.size := Option.some.inj e; omega)
     have a1 : bb < wr.heap.size := Nat.lt_of_lt_of_le hb2 HI.out.1.size
     have hwf : (Lit.int .i64 x).wf = true := WalkArith.wf_i64 (by omega)
     have HXX := Lib.hid hx
     clear hc hx
     obtain ⟨hgr, D, hD1, hD2, hD3⟩ := HI.out
     have HD2 := Lib.hid hD2
     have HD3 := Lib.hid hD3
     have HGR := Lib.hid hgr
     have HMB := Lib.hid HI.out.2.lt
     clear hD2 hD3 hgr HI
     go_wp2_with (first | (at_mapUpdate; refine wpList_mapUpdate_own _ rfl _ _ _ 80 rfl 3 4 mapL mapT _ w2.heap.size n' D rfl hD1 (by unfold maxLen; omega) _ _ _ rfl rfl (Maps.keyOf_int_mk mapK hwf) _ [] (plainElem_bool mapE true) ?_; intro w5 hown5 hgrow5) | go_in)
     go_roundw
     case rel =>
      refine ⟨j + 1, n' + 1, by omega, by go_num, by omega, Lib.hid ⟨HGR.out.trans hgrow5, (Mp.of_put hwf HD2.out HD3.out hown5).congr fun z => ?_⟩⟩
      show (ndU NS i z || ((NS i).take j).contains z || z == x) = (ndU NS i z || ((NS i).take (j + 1)).contains z)
      rw [List.take_add_one, HXX.out, Bool.or_assoc]
      congr 1
      rw [Bool.eq_iff_iff]
      simp
     case measure => simp [intOf]; omega
    ·have hjn : nl = j := by omega
     subst hjn
     go_wp2_with fail
     go_roundw
     case rel =>
      refine ⟨i + 1, n', by omega, by go_num, by omega, Lib.hid ⟨HM4.out.1.trans (below_put HI.out.1 (Nat.le_refl _) HM4.out.2.lt), HI.out.2.congr fun x => ?_⟩⟩
      rw [ndU_succ, ← HLEN.out, List.take_length]
     case measure => simp [intOf]; omega
  ·have hik : k0 = i := by omega
   subst hik
   have HM2 : Hid (Below w2.heap.size w2 wr ∧ Mp wr w2.heap.size n (ndU NS k0)) := HM
   clear HM
   go_wp2_with fail
   clear c_0 l_0 G0r
   obtain ⟨wm, ewm⟩ : ∃ z, z = wr := ⟨_, rfl⟩
   subst ewm
   have hsm := HM2.out.1.size
   go_loopw [73] (fun iv wr => ∃ i : Nat, i ≤ k0 ∧ iv = .int .i64 i ∧ Below wm.heap.size wm wr) (fun iv _ => k0 - (intOf iv).toNat)
   case atStart => exact ⟨0, Nat.zero_le _, rfl, Below.refl _ _⟩
   case round =>
    obtain ⟨i, hi, rfl, hbm⟩ := hrel
    have hBw := bel_trans hBr hbm
    have g0r := (HG0.out.below HM2.out.1 HG0.out.lt).grow hbm
    by_cases hlt : i < k0
    ·have hx : g[i]? = some (g[i]'(by rw [HG.out]; exact hlt)) := by simp
     generalize g[i]'(by rw [HG.out]; exact hlt) = x at hx
     obtain ⟨ub, uo, huq, hcs⟩ := acs_at HV.out.2 hx
     subst huq
     obtain ⟨a0, a1, a2, a3, a4, a5, a6, a7, a8, a9⟩ := ac_cells (hcs.mono hBw hcs.1) hx
     have lub : ub < wr.heap.size := Nat.lt_of_lt_of_le hcs.1 hBw.size
     have HX := Lib.hid hx
     clear hcs hx
     have c_0 := g0r.cell
     have l_0 := g0r.lt
     go_wp2_with fail
     clear a0 a1 a2 a3 a4 a5 a6 a7 a8 a9 c_0 l_0 lub
     have hbe : Below wr.heap.size wr (wr.alloc (.cells (#[.int .u8 x.1, .int .i64 x.2.1, .int .u64 (pl x.2.2 0), .int .u64 (pl x.2.2 1), .int .u64 (pl x.2.2 2), .int .u64 (pl x.2.2 3), .int .u64 (pl x.2.2 4), .int .u64 (pl x.2.2 5), .int .u64 (pl x.2.2 6), .int .u64 (pl x.2.2 7)] : Array Value) 46)) := bel_alloc (bel_refl _) _
     have g12 : Blk (wr.alloc (.cells (#[.int .u8 x.1, .int .i64 x.2.1, .int .u64 (pl x.2.2 0), .int .u64 (pl x.2.2 1), .int .u64 (pl x.2.2 2), .int .u64 (pl x.2.2 3), .int .u64 (pl x.2.2 4), .int .u64 (pl x.2.2 5), .int .u64 (pl x.2.2 6), .int .u64 (pl x.2.2 7)] : Array Value) 46)) wr.heap.size #[.int .u8 x.1, .int .i64 x.2.1, .int .u64 (pl x.2.2 0), .int .u64 (pl x.2.2 1), .int .u64 (pl x.2.2 2), .int .u64 (pl x.2.2 3), .int .u64 (pl x.2.2 4), .int .u64 (pl x.2.2 5), .int .u64 (pl x.2.2 6), .int .u64 (pl x.2.2 7)] 46 := Blk.new _ _ _
     generalize hwv : (wr.alloc (.cells (#[.int .u8 x.1, .int .i64 x.2.1, .int .u64 (pl x.2.2 0), .int .u64 (pl x.2.2 1), .int .u64 (pl x.2.2 2), .int .u64 (pl x.2.2 3), .int .u64 (pl x.2.2 4), .int .u64 (pl x.2.2 5), .int .u64 (pl x.2.2 6), .int .u64 (pl x.2.2 7)] : Array Value) 46)) = wv at *
     have hbv := bel_trans hbm hbe
     have g0v := g0r.grow hbe
     clear hwv hbe hbm hBw g0r
     generalize wr.heap.size = G12 at *
     have hwf : (Lit.int .i64 (i : Int)).wf = true := WalkArith.wf_i64 (by omega)
     have HMV : Hid (Mp wv w2.heap.size n (ndU NS k0)) := Lib.hid (HM2.out.2.grow hmb hbv)
     have HLV : Hid (SlI wv u3 LS) := Lib.hid ((HL.out.mono HM2.out.1).mono hbv)
     have hlv : w2.heap.size < wv.heap.size := HMV.out.lt
     obtain ⟨r, hr⟩ : ∃ r, ndU NS k0 (i : Int) = r := ⟨_, rfl⟩
     have HR := Lib.hid hr
     clear hr
     refine wp_region_grow 7 [Is u3, Is (.int .i64 (i : Int)), Is (.bool (!r)), Is (.map (some w2.heap.size)), Is (.int .i64 (i : Int)), Is (.bool r), Is (.bool false)] (by kernel_rfl) (by kernel_rfl) rfl ⟨fun _ _ _ h _ => h, fun _ _ _ h _ => h, fun _ _ _ h _ => h, fun _ _ _ h _ => h, fun _ _ _ h _ => h, fun _ _ _ h _ => h, fun _ _ _ h _ => h, trivial⟩ ?_
     simp only [List.take_succ_cons, List.take_zero, List.drop_succ_cons, List.drop_zero]
     iterate 2 (refine rel_cons ?_ (fun _ => ?_); · intro w1 hb hF; have hc := (Grows.cells hb).1; have hf := (Grows.cells hb).2; (try simp [facts, Is] at hF); go_simp; exact Grows.refl _)
     refine rel_cons ?_ (fun v2 => ?_)
     ·intro w1 hb hF; have hc := (Grows.cells hb).1; have hf := (Grows.cells hb).2; try simp [facts, Is] at hF
      go_simp
      refine (ContainsInt_spec _ LS _ w1 (HLV.out.mono hb)).mono ?_
      rintro e w' ⟨rfl, rfl⟩
      exact ⟨by rw [HLN.out i hlt, HR.out], Grows.refl _⟩
     iterate 2 (refine rel_cons ?_ (fun _ => ?_); · intro w1 hb hF; have hc := (Grows.cells hb).1; have hf := (Grows.cells hb).2; (try simp [facts, Is] at hF); go_simp; exact Grows.refl _)
     refine rel_cons ?_ (fun v5 => ?_)
     ·intro w1 hb hF; have hc := (Grows.cells hb).1; have hf := (Grows.cells hb).2; try simp [facts, Is] at hF
      have hlk := (HMV.out.grow hlv hb).look hwf
      rw [HR.out] at hlk
      go_simp
      exact Grows.refl _
     refine rel_cons ?_ (fun v6 => ?_)
     ·intro w1 hb hF; have hc := (Grows.cells hb).1; have hf := (Grows.cells hb).2; try simp [facts, Is] at hF
      go_simp
      cases r <;> exact Grows.refl _
     refine rel_nil ?_
     intro w1 hb hF
     simp [Is, Nat.forall_lt_succ_right] at hF
     simp only [Act.put, List.setIfInBounds_toArray, List.set_cons_succ, List.set_cons_zero, hF]
     clear hF
     have hb1 := bel_trans hbv hb
     have g0_1 := g0v.grow hb
     have g12_1 := g12.grow hb
     clear hb g0v g12 hbv HMV HLV hlv
     have c_0 := g0_1.cell
     have l_0 := g0_1.lt
     go_wp2_with fail
     clear c_0 l_0
     cases r with
     | true =>
      refine (H57l.out i hlt HR.out _ (bel_trans hBr hb1)).mono ?_
      rintro e w5 ⟨rfl, hb⟩
      have hb5 := bel_trans hb1 hb
      have HM5 : Hid (Mp w5 w2.heap.size n (ndU NS k0)) := Lib.hid (HM2.out.2.grow hmb hb5)
      clear hb hb1 g0_1 g12_1
      go_wp2_with (at_lookup; refine wpList_mp_look rfl _ _ rfl w2.heap.size n _ rfl (i : Int) rfl hwf (HM5.out.grow HM5.out.lt bel_by) ?_; rw [HR.out])
      go_roundw
      case rel => exact ⟨i + 1, by omega, by go_num, bel_by⟩
      case measure => simp [intOf]; omega
     | false =>
      refine (H57y.out i hlt HR.out _ (bel_trans hBr hb1)).mono ?_
      rintro e w5 ⟨p5, n5, c5, q5, k5, d5, rfl, hS5, hA5, hb⟩
      have hb5 := bel_trans hb1 hb
      have HM5 : Hid (Mp w5 w2.heap.size n (ndU NS k0)) := Lib.hid (HM2.out.2.grow hmb hb5)
      have HS5 := Lib.hid (And.intro hS5 hA5)
      have g0_5 := g0_1.grow hb
      have g12_5 := g12_1.grow hb
      clear hb hb1 g0_1 g12_1 hS5 hA5
      have c_0 := g0_5.cell
      have l_0 := g0_5.lt
      have c_12 := g12_5.cell
      have l_12 := g12_5.lt
      go_wp2_with (at_lookup; refine wpList_mp_look rfl _ _ rfl w2.heap.size n _ rfl (i : Int) rfl hwf (HM5.out.grow HM5.out.lt bel_by) ?_; rw [HR.out])
      clear c_0 l_0 c_12 l_12
      refine (H40.out i x HX.out HR.out _ _ _ _ _ _ _ (HS5.out.1.mono bel_by) ⟨HS5.out.2.1.mono bel_by, HS5.out.2.2⟩).mono ?_
      rintro e w6 ⟨p6, n6, c6, q6, k6, d6, rfl, hS6, hA6, hb⟩
      have hbb : Below w5.heap.size w5 w6 := bel_trans bni hb
      have hb6 := bel_trans hb5 hbb
      have HS6 := Lib.hid (And.intro hS6 hA6)
      have g0_6 := g0_5.grow hbb
      clear hb hbb hb5 g0_5 g12_5 hS6 hA6 HS5 HM5
      have c_0 := g0_6.cell
      have l_0 := g0_6.lt
      go_wp2_with fail
      clear c_0 l_0
      refine (H42.out i hlt HR.out _ _ _ _ _ _ _ (bel_trans hBr (bel_trans hb6 bel_by)) (HS6.out.1.mono bel_by) (HS6.out.2.mono bel_by)).mono ?_
      rintro e w7 ⟨rfl, hb⟩
      have hbb : Below w6.heap.size w6 w7 := bel_trans bni hb
      have hb7 := bel_trans hb6 hbb
      clear hb hbb hb6 g0_6 HS6
      go_wp2_with fail
      go_roundw
      case rel => exact ⟨i + 1, by omega, by go_num, hb7⟩
      case measure => simp [intOf]; omega
    ·have hin : i = k0 := by omega
     clear hlt hi
     subst hin
     have c_0 := g0r.cell
     have l_0 := g0r.lt
     go_wp2_with fail
     clear c_0 l_0
     refine (H55.out _ hBw).mono ?_
     rintro e w5 ⟨p5, n5, c5, q5, k5, d5, rfl, hS5, hA5, hb⟩
     have hb5 := bel_trans hbm hb
     have HS5 := Lib.hid (And.intro hS5 hA5)
     have g0_5 := g0r.grow hb
     clear hb hbm hBw g0r hS5 hA5
     have c_0 := g0_5.cell
     have l_0 := g0_5.lt
     go_wp2_with fail
     clear c_0 l_0
     refine (H52.out _ (bel_trans hBr (bel_trans hb5 bel_by))).mono ?_
     rintro e w6 ⟨rfl, hb⟩
     have hbb : Below w5.heap.size w5 w6 := bel_trans bni hb
     have hb6 := bel_trans hb5 hbb
     have g19 : Blk w6 w5.heap.size #[.int .u64 (pl b 0), .int .u64 (pl b 1), .int .u64 (pl b 2), .int .u64 (pl b 3), .int .u64 (pl b 4), .int .u64 (pl b 5), .int .u64 (pl b 6), .int .u64 (pl b 7), .slice p5 n5 c5, .slice q5 k5 d5] 30 := Blk.grow bks_by hb
     have HS6 := Lib.hid (And.intro (HS5.out.1.mono hbb) (HS5.out.2.mono hbb))
     have hk5 : Hid (N.length = k5 ∧ k5 ≤ d5 ∧ d5 ≤ 9223372036854775807) := by
      obtain ⟨_, _, he, h1, h2, _⟩ := HS6.out.2
      injection he with _ h3 h4
      subst h4
      rw [List.length_map] at h3 h1
      exact Lib.hid ⟨h3.symm, by omega, h2⟩
     have hkd := hk5.out.2.1
     have hkM := hk5.out.2.2
     clear hb hbb hb5 g0_5 HS5
     generalize w5.heap.size = G19 at *
     have c_19 := g19.cell
     have l_19 := g19.lt
     go_wp2_with fail
     clear c_19 l_19
     go_loopw [23, 24] (fun cv iv wr => ∃ j : Nat, (j + 1 ≤ k5 ∨ j = 0) ∧ iv = .int .i64 ((j : Int) + 1) ∧ cv = .bool (chJ ind j) ∧ Below w6.heap.size w6 wr) (fun _ iv _ => k5 + 1 - (intOf iv).toNat)
     case atStart => exact ⟨0, .inr rfl, by go_num, rfl, Below.refl _ _⟩
     case round =>
      obtain ⟨j, hj, rfl, rfl, hbl⟩ := hrel
      have g19r := g19.grow hbl
      have c_19 := g19r.cell
      have l_19 := g19r.lt
      by_cases hlj : j + 1 < k5
      ·have hx : N[j]? = some (N[j]'(by rw [hk5.out.1]; omega)) := by simp
       have hy : N[j + 1]? = some (N[j + 1]'(by rw [hk5.out.1]; omega)) := by simp
       generalize N[j]'(by rw [hk5.out.1]; omega) = x at hx
       generalize N[j + 1]'(by rw [hk5.out.1]; omega) = y at hy
       obtain ⟨ub, uo, huq, hcs⟩ := acs_at HS6.out.2 hx
       subst huq
       obtain ⟨a0, a1, a2, a3, a4, a5, a6, a7, a8, a9⟩ := ac_cells (hcs.mono hbl hcs.1) hx
       obtain ⟨f0, f1, f2, f3, f4, f5, f6, f7, f8, f9⟩ := ac_cells (hcs.mono hbl hcs.1) hy
       have lub : ub < wr.heap.size := Nat.lt_of_lt_of_le hcs.1 hbl.size
       have HSr : Hid (SlS wr (.slice p5 n5 c5) l) := Lib.hid (HS6.out.1.mono hbl)
       obtain ⟨r, hr⟩ : ∃ r, ind j = r := ⟨_, rfl⟩
       have H32r : Hid (∀ w', Below wr.heap.size wr w' → Calls Tryz.prog 32 #[.agg #[.int .u64 (pl b 0), .int .u64 (pl b 1), .int .u64 (pl b 2), .int .u64 (pl b 3), .int .u64 (pl b 4), .int .u64 (pl b 5), .int .u64 (pl b 6), .int .u64 (pl b 7), .slice p5 n5 c5], .agg #[.int .u8 x.1, .int .i64 x.2.1, .int .u64 (pl x.2.2 0), .int .u64 (pl x.2.2 1), .int .u64 (pl x.2.2 2), .int .u64 (pl x.2.2 3), .int .u64 (pl x.2.2 4), .int .u64 (pl x.2.2 5), .int .u64 (pl x.2.2 6), .int .u64 (pl x.2.2 7)], .agg #[.int .u8 y.1, .int .i64 y.2.1, .int .u64 (pl y.2.2 0), .int .u64 (pl y.2.2 1), .int .u64 (pl y.2.2 2), .int .u64 (pl y.2.2 3), .int .u64 (pl y.2.2 4), .int .u64 (pl y.2.2 5), .int .u64 (pl y.2.2 6), .int .u64 (pl y.2.2 7)]] w' fun e w'' => e = .returned (.tuple #[.bool r, .int .i64 0]) ∧ Below w'.heap.size w' w'') := by
        subst hr; exact Lib.hid fun w' hb => H32.out j x y hx hy w' _ _ _ (HSr.out.mono hb)
       have HR := Lib.hid hr
       obtain ⟨ch, hch⟩ : ∃ ch, chJ ind j = ch := ⟨_, rfl⟩
       have HCH : Hid (chJ ind (j + 1) = (ch && !r)) := by subst hch; subst hr; exact Lib.hid (chJ_succ ind j)
       rw [hch]
       clear hx hy hr hch hcs
       go_wp2_with fail
       refine wp_region_inv Grows (fun _ _ => True) [Is (.pointer (some ⟨G19, 0, none⟩)), Is (.agg #[.int .u64 (pl b 0), .int .u64 (pl b 1), .int .u64 (pl b 2), .int .u64 (pl b 3), .int .u64 (pl b 4), .int .u64 (pl b 5), .int .u64 (pl b 6), .int .u64 (pl b 7), .slice p5 n5 c5]), Is (.pointer (some ⟨G19, 9, none⟩)), Is (.slice (some ⟨ub, uo, none⟩) k5 d5), Is (.int .i64 ((j : Int) + 1)), Is (.int .i64 (j : Int)), Is (.pointer (some ⟨ub, uo + j * 10, none⟩)), Is (.agg #[.int .u8 x.1, .int .i64 x.2.1, .int .u64 (pl x.2.2 0), .int .u64 (pl x.2.2 1), .int .u64 (pl x.2.2 2), .int .u64 (pl x.2.2 3), .int .u64 (pl x.2.2 4), .int .u64 (pl x.2.2 5), .int .u64 (pl x.2.2 6), .int .u64 (pl x.2.2 7)]), Is (.pointer (some ⟨G19, 9, none⟩)), Is (.slice (some ⟨ub, uo, none⟩) k5 d5), Is (.int .i64 ((j : Int) + 1)), Is (.pointer (some ⟨ub, uo + (j + 1) * 10, none⟩)), Is (.agg #[.int .u8 y.1, .int .i64 y.2.1, .int .u64 (pl y.2.2 0), .int .u64 (pl y.2.2 1), .int .u64 (pl y.2.2 2), .int .u64 (pl y.2.2 3), .int .u64 (pl y.2.2 4), .int .u64 (pl y.2.2 5), .int .u64 (pl y.2.2 6), .int .u64 (pl y.2.2 7)]), Is (.tuple #[.bool r, .int .i64 0]), Is (.tuple #[.bool r, .int .i64 0]), Is (.bool r), Is (.int .i64 0), Is (.bool r), Is (.int .i64 0)] (by kernel_rfl) (by kernel_rfl) rfl Grows.refl (fun _ _ _ => Grows.trans) (stable_mem ⟨fun _ _ _ h _ => h, fun _ _ _ h _ => h, fun _ _ _ h _ => h, fun _ _ _ h _ => h, fun _ _ _ h _ => h, fun _ _ _ h _ => h, fun _ _ _ h _ => h, fun _ _ _ h _ => h, fun _ _ _ h _ => h, fun _ _ _ h _ => h, fun _ _ _ h _ => h, fun _ _ _ h _ => h, fun _ _ _ h _ => h, fun _ _ _ h _ => h, fun _ _ _ h _ => h, fun _ _ _ h _ => h, fun _ _ _ h _ => h, fun _ _ _ h _ => h, fun _ _ _ h _ => h, trivial⟩) _ (Below.drew (Below.refl _ _)) trivial ?_
       iterate 5 (refine inv_cons ?_ (fun _ => ?_); · intro L w1 hat hb hI hF; have hc := (Grows.cells hb).1; (try simp [factsI, Region.binds, Is] at hF); go_simp; (try first | exact Grows.refl _ | exact trivial | rfl))
       refine inv_cons ?_ (fun v5 => ?_)
       ·intro L w1 hat hb hI hF; have hc := (Grows.cells hb).1; try simp [factsI, Region.binds, Is] at hF
        have hw : IntKind.i64.wrap ((j : Int) + 1 - 1) = (j : Int) := by rw [show (j : Int) + 1 - 1 = j by omega]; exact IntWalk.i64_in _ (by omega)
        go_simp
        first | exact ⟨Grows.refl _, (IntWalk.i64_in _ (by omega)).trans (by omega)⟩ | exact (IntWalk.i64_in _ (by omega)).trans (by omega) | exact ⟨(IntWalk.i64_in _ (by omega)).trans (by omega), Grows.refl _⟩
       refine inv_cons ?_ (fun v6 => ?_)
       ·intro L w1 hat hb hI hF; have hc := (Grows.cells hb).1; try simp [factsI, Region.binds, Is] at hF
        have hc2 : (j : Int) < (k5 : Int) := by omega
        go_simp
        exact Grows.refl _
       iterate 4 (refine inv_cons ?_ (fun _ => ?_); · intro L w1 hat hb hI hF; have hc := (Grows.cells hb).1; (try simp [factsI, Region.binds, Is] at hF); go_simp; (try first | exact Grows.refl _ | exact trivial | rfl))
       refine inv_cons ?_ (fun v11 => ?_)
       ·intro L w1 hat hb hI hF; have hc := (Grows.cells hb).1; try simp [factsI, Region.binds, Is] at hF
        have hc2 : (0 : Int) ≤ (j : Int) + 1 ∧ (j : Int) + 1 < (k5 : Int) := by omega
        go_simp
        exact Grows.refl _
       refine inv_cons ?_ (fun v12 => ?_)
       ·intro L w1 hat hb hI hF; have hc := (Grows.cells hb).1; try simp [factsI, Region.binds, Is] at hF
        go_simp
        try first | exact Grows.refl _ | exact trivial | rfl
       refine inv_cons ?_ (fun v13 => ?_)
       ·intro L w1 hat hb hI hF; have hc := (Grows.cells hb).1; try simp [factsI, Region.binds, Is] at hF
        go_simp
        refine (H32r.out _ hb).mono ?_
        rintro e w2 ⟨rfl, hb2⟩
        exact ⟨rfl, hb2⟩
       iterate 5 (refine inv_cons ?_ (fun _ => ?_); · intro L w1 hat hb hI hF; have hc := (Grows.cells hb).1; (try simp [factsI, Region.binds, Is] at hF); go_simp; (try first | exact Grows.refl _ | exact trivial | rfl))
       refine inv_nil ?_
       intro w1 hb hI hF
       simp [Is, Nat.forall_lt_succ_right] at hF
       simp only [Act.put, List.setIfInBounds_toArray, List.set_cons_succ, List.set_cons_zero, hF]
       clear hF
       have hbl2 := bel_trans hbl hb
       clear hbl hb hI g19r a0 a1 a2 a3 a4 a5 a6 a7 a8 a9 f0 f1 f2 f3 f4 f5 f6 f7 f8 f9 c_19 l_19 lub H32r HSr
       cases ch with
       | false =>
        go_wp2_with fail
        go_roundw
        case rel =>
         refine ⟨j + 1, .inl (by omega), by go_num, ?_, hbl2⟩
         rw [HCH.out]
         cases r <;> rfl
        case measure => simp [intOf]; omega
       | true =>
        go_wp2_with fail
        go_roundw
        case rel =>
         refine ⟨j + 1, .inl (by omega), by go_num, ?_, hbl2⟩
         rw [HCH.out]
         cases r <;> rfl
        case measure => simp [intOf]; omega
      ·have hex : Hid (chU ind N.length = chJ ind j) := by
        unfold chU
        exact Lib.hid (congrArg (chJ ind) (by rw [hk5.out.1]; omega))
       go_wp2_with fail
       clear c_19 l_19
       refine (HAL.out _ (bel_trans hBr (bel_trans hb6 hbl))).mono ?_
       rintro e w9 ⟨rfl, hb⟩
       have hB9 := bel_trans hBr (bel_trans hb6 (bel_trans hbl hb))
       have hfin : ((ORD == 1) == chJ ind j) = true := beq_iff_eq.2 (HFIN.out.trans hex.out)
       go_wp2_with fail
       refine bodyPost_ret (v := .bool true) (by simp [results, Tryz.results14, go_sem]) rfl ⟨rfl, hB9⟩
end Go.Proofs.YtccnkebkgegohaaGreatDoor
end
