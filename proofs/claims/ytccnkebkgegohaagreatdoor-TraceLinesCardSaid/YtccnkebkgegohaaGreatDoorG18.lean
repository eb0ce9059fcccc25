import Derived.Test.YtccnkebkgegohaaGreatDoorG17
import Derived.Deep.Cut
import Derived.Laws.IdiomStrings
/-
  Given contracts of functions of the program, and laws for them, one behind the other.
-/
set_option linter.unusedVariables false
set_option linter.unusedSimpArgs false
set_option linter.unusedSectionVars false
section
namespace Go.Proofs.YtccnkebkgegohaaGreatDoor
open Go.RowKit Go.Rel
set_option maxRecDepth 100000
theorem nextM_fits {l : List Sol} {s s' : Stn} {a : Ac} (h : nextM l s a = .inr s') : fits l.length a = true := by
 cases hf : fits l.length a with
 | true => rfl
 | false => simp [nextM, hf] at h
theorem runM_fits {l : List Sol} : ∀ {acts : List Ac} {k : Nat} {s s' : Stn}, runM l k s acts = .inr s' → ∀ a ∈ acts, fits l.length a = true
 | [], _, _, _, _, a, h => by cases h
 | x :: acts, k, s, s', h, a, ha => by
  unfold runM at h
  split at h
  ·cases h
  ·next s1 h1 =>
   rcases List.mem_cons.1 ha with rfl | ha
   ·exact nextM_fits h1
   ·exact runM_fits h a ha
theorem leastI_mem {dep : Int → Int → Bool} {f : Int → Int → Int} : ∀ (n : Nat) (left : List Int), ∀ x ∈ leastI dep f n left, x ∈ left
 | 0, left, x, h => by cases h
 | n + 1, left, x, h => by
  rw [leastI_succ] at h
  split at h
  ·cases h
  ·next y ys hf =>
   rcases List.mem_cons.1 h with rfl | h
   ·exact minF_left hf
   ·exact (List.mem_filter.1 (leastI_mem n _ x h)).1
theorem actsAt_mem {acts : List Ac} {is : List Int} (h : ∀ i ∈ is, 0 ≤ i ∧ i < acts.length) : ∀ a ∈ actsAt acts is, a ∈ acts := by
 intro a ha
 obtain ⟨i, hi, rfl⟩ := List.mem_map.1 ha
 have := h i hi
 have hl : i.toNat < acts.length := by omega
 simp [List.getD_eq_getElem?_getD, hl]
/-- the least list of the acts of a row -/
def leastA (l : List Sol) (acts : List Ac) (left : List Int) : List Ac := actsAt acts (leastI (depI (cellsOf l acts)) (cmpN acts) left.length left)
/-- the greatest common beginning, and what is left of both -/
def beyondM (l : List Sol) (acts : List Ac) (l2 : List Sol) (acts2 : List Ac) : List Ac × List Int × List Int :=
 beyondI (fun i j => acts.getD i.toNat (0, 0, 0) == acts2.getD j.toNat (0, 0, 0)) (depI (cellsOf l acts)) (depI (cellsOf l2 acts2)) (fun i => acts.getD i.toNat (0, 0, 0)) (upto acts.length).length [] (upto acts.length) (upto acts2.length)
theorem beyondI_sub {p dS dT : Int → Int → Bool} {act : Int → Ac} : ∀ (n : Nat) (cs : List Ac) (la lb : List Int), (∀ x ∈ (beyondI p dS dT act n cs la lb).2.1, x ∈ la) ∧ (∀ x ∈ (beyondI p dS dT act n cs la lb).2.2, x ∈ lb) ∧ (beyondI p dS dT act n cs la lb).2.1.length ≤ la.length ∧ (beyondI p dS dT act n cs la lb).2.2.length ≤ lb.length ∧ (beyondI p dS dT act n cs la lb).1.length ≤ cs.length + n
 | 0, cs, la, lb => ⟨fun _ h => h, fun _ h => h, Nat.le_refl _, Nat.le_refl _, Nat.le_refl _⟩
 | n + 1, cs, la, lb => by
  unfold beyondI
  split
  ·exact ⟨fun _ h => h, fun _ h => h, Nat.le_refl _, Nat.le_refl _, by simp⟩
  ·next i j _ =>
   obtain ⟨h1, h2, h3, h4, h5⟩ := beyondI_sub (p := p) (dS := dS) (dT := dT) (act := act) n (cs ++ [act i]) (drop1 la i) (drop1 lb j)
   refine ⟨fun x hx => (List.mem_filter.1 (h1 x hx)).1, fun x hx => (List.mem_filter.1 (h2 x hx)).1, Nat.le_trans h3 (List.length_filter_le _ _), Nat.le_trans h4 (List.length_filter_le _ _), ?_⟩
   rw [List.length_append, List.length_singleton] at h5
   omega
structure BeyOk (acts acts2 : List Ac) (r : List Ac × List Int × List Int) : Prop where
 mk ::
 a : ∀ x ∈ r.2.1, 0 ≤ x ∧ x < (acts.length : Int)
 b : ∀ x ∈ r.2.2, 0 ≤ x ∧ x < (acts2.length : Int)
 la : r.2.1.length ≤ acts.length
 lb : r.2.2.length ≤ acts2.length
 lc : r.1.length ≤ acts.length
theorem beyondM_ok (l : List Sol) (acts : List Ac) (l2 : List Sol) (acts2 : List Ac) : BeyOk acts acts2 (beyondM l acts l2 acts2) := by
 obtain ⟨h1, h2, h3, h4, h5⟩ := beyondI_sub (p := fun i j => acts.getD i.toNat (0, 0, 0) == acts2.getD j.toNat (0, 0, 0)) (dS := depI (cellsOf l acts)) (dT := depI (cellsOf l2 acts2)) (act := fun i => acts.getD i.toNat (0, 0, 0)) (upto acts.length).length [] (upto acts.length) (upto acts2.length)
 exact ⟨fun x hx => upto_range x (h1 x hx), fun x hx => upto_range x (h2 x hx), Nat.le_trans h3 (Nat.le_of_eq (upto_length _)), Nat.le_trans h4 (Nat.le_of_eq (upto_length _)), Nat.le_trans h5 (by rw [upto_length]; simp)⟩
/-- what merging makes ahead of the normal form; none: a clash -/
def mergeM (l : List Sol) (acts acts2 : List Ac) : Option (List Ac) :=
 match conflictM l (leastA l acts (beyondM l acts l acts2).2.1) (leastA l acts2 (beyondM l acts l acts2).2.2) with
 | some _ => none
 | none => some ((beyondM l acts l acts2).1 ++ leastA l acts (beyondM l acts l acts2).2.1 ++ leastA l acts2 (beyondM l acts l acts2).2.2)
theorem three_sl {W : World} {g : Nat} {x y z : Value} (h : Blk W g #[x, y, z] 28) (a b c : List Ac) : Sl W 1 (.slice (some ⟨g, 0, none⟩) 3 3) ([(x, a), (y, b), (z, c)].map fun p => [p.1]) := by
 refine ⟨_, 3, rfl, Nat.le_refl _, by omega, .inr ⟨g, 0, rfl, h.lt, fun k j u hu => ?_⟩⟩
 rw [h.cell]
 rcases k with _ | _ | _ | k
 ·rcases j with _ | j
  ·simpa using hu
  ·simp at hu
 ·rcases j with _ | j
  ·simpa using hu
  ·simp at hu
 ·rcases j with _ | j
  ·simpa using hu
  ·simp at hu
 ·simp at hu
set_option maxHeartbeats 4000000 in
theorem Merge_bad1 {blank : Sol} {v av : Value} {l : List Sol} {acts : List Ac} {x : Nat × Int} (h : begunM blank l acts = .inl x) (blank2 : Sol) (v2 av2 : Value) (w : World) (Hv : SlS w v l) (Hav : SlA w av acts) :
  Calls Tryz.prog 26 #[.agg #[.int .u64 (pl blank 0), .int .u64 (pl blank 1), .int .u64 (pl blank 2), .int .u64 (pl blank 3), .int .u64 (pl blank 4), .int .u64 (pl blank 5), .int .u64 (pl blank 6), .int .u64 (pl blank 7), v, av], .agg #[.int .u64 (pl blank2 0), .int .u64 (pl blank2 1), .int .u64 (pl blank2 2), .int .u64 (pl blank2 3), .int .u64 (pl blank2 4), .int .u64 (pl blank2 5), .int .u64 (pl blank2 6), .int .u64 (pl blank2 7), v2, av2]] w fun e w' => e = .returned (.tuple #[.agg #[.int .u64 0, .int .u64 0, .int .u64 0, .int .u64 0, .int .u64 0, .int .u64 0, .int .u64 0, .int .u64 0, .slice none 0 0, .slice none 0 0], .int .i64 x.2]) ∧ Below w.heap.size w w' := by
 have H := Lib.hid fun w' (hb : Below w.heap.size w w') => together_bad1 h blank2 v2 av2 w' (Hv.mono hb) (Hav.mono hb)
 have hne := begunM_bad h
 clear h Hv Hav
 go_enter Tryz.func26, Tryz.ntmps26
 go_wp2_with fail
 refine (H.out _ bel_by).mono ?_
 rintro e w1 ⟨rfl, hb⟩
 have b1 : Blk w1 (w.heap.size + 1 + 1) #[.int .u64 0, .int .u64 0, .int .u64 0, .int .u64 0, .int .u64 0, .int .u64 0, .int .u64 0, .int .u64 0, .slice none 0 0, .slice none 0 0] 30 := Blk.grow blk_by hb
 have r1 := b1.row
 have hB1 : Below w.heap.size w w1 := bel_trans bel_by hb
 rw [← b1.rw]
 clear b1 hb
 go_wp2_with fail
 refine bodyPost_ret (by simp [results, Tryz.results26, go_sem, *]) rfl ⟨rfl, blw_row hB1 (by omega) _⟩
set_option maxHeartbeats 4000000 in
theorem Merge_bad2 {blank : Sol} {v av : Value} {l : List Sol} {acts : List Ac} {s : Stn} (h : begunM blank l acts = .inr s) {blank2 : Sol} {v2 av2 : Value} {l2 : List Sol} {acts2 : List Ac} {x : Nat × Int} (h2 : begunM blank2 l2 acts2 = .inl x) (w : World) (Hv : SlS w v l) (Hav : SlA w av acts) (Hv2 : SlS w v2 l2) (Hav2 : SlA w av2 acts2) :
  Calls Tryz.prog 26 #[.agg #[.int .u64 (pl blank 0), .int .u64 (pl blank 1), .int .u64 (pl blank 2), .int .u64 (pl blank 3), .int .u64 (pl blank 4), .int .u64 (pl blank 5), .int .u64 (pl blank 6), .int .u64 (pl blank 7), v, av], .agg #[.int .u64 (pl blank2 0), .int .u64 (pl blank2 1), .int .u64 (pl blank2 2), .int .u64 (pl blank2 3), .int .u64 (pl blank2 4), .int .u64 (pl blank2 5), .int .u64 (pl blank2 6), .int .u64 (pl blank2 7), v2, av2]] w fun e w' => e = .returned (.tuple #[.agg #[.int .u64 0, .int .u64 0, .int .u64 0, .int .u64 0, .int .u64 0, .int .u64 0, .int .u64 0, .int .u64 0, .slice none 0 0, .slice none 0 0], .int .i64 x.2]) ∧ Below w.heap.size w w' := by
 have H := Lib.hid fun w' (hb : Below w.heap.size w w') => together_bad2 h h2 w' (Hv.mono hb) (Hav.mono hb) (Hv2.mono hb) (Hav2.mono hb)
 have hne := begunM_bad h2
 clear h h2 Hv Hav Hv2 Hav2
 go_enter Tryz.func26, Tryz.ntmps26
 go_wp2_with fail
 refine (H.out _ bel_by).mono ?_
 rintro e w1 ⟨rfl, hb⟩
 have b1 : Blk w1 (w.heap.size + 1 + 1) #[.int .u64 0, .int .u64 0, .int .u64 0, .int .u64 0, .int .u64 0, .int .u64 0, .int .u64 0, .int .u64 0, .slice none 0 0, .slice none 0 0] 30 := Blk.grow blk_by hb
 have r1 := b1.row
 have hB1 : Below w.heap.size w w1 := bel_trans bel_by hb
 rw [← b1.rw]
 clear b1 hb
 go_wp2_with fail
 refine bodyPost_ret (by simp [results, Tryz.results26, go_sem, *]) rfl ⟨rfl, blw_row hB1 (by omega) _⟩
set_option maxHeartbeats 4000000 in
theorem Merge_other {blank : Sol} {v av : Value} {l : List Sol} {acts : List Ac} {s : Stn} (h : begunM blank l acts = .inr s) {blank2 : Sol} {v2 av2 : Value} {l2 : List Sol} {acts2 : List Ac} {s2 : Stn} (h2 : begunM blank2 l2 acts2 = .inr s2) (hs : samePat blank l blank2 l2 = false) (w : World) (Hv : SlS w v l) (Hav : SlA w av acts) (Hv2 : SlS w v2 l2) (Hav2 : SlA w av2 acts2) :
  Calls Tryz.prog 26 #[.agg #[.int .u64 (pl blank 0), .int .u64 (pl blank 1), .int .u64 (pl blank 2), .int .u64 (pl blank 3), .int .u64 (pl blank 4), .int .u64 (pl blank 5), .int .u64 (pl blank 6), .int .u64 (pl blank 7), v, av], .agg #[.int .u64 (pl blank2 0), .int .u64 (pl blank2 1), .int .u64 (pl blank2 2), .int .u64 (pl blank2 3), .int .u64 (pl blank2 4), .int .u64 (pl blank2 5), .int .u64 (pl blank2 6), .int .u64 (pl blank2 7), v2, av2]] w fun e w' => e = .returned (.tuple #[.agg #[.int .u64 0, .int .u64 0, .int .u64 0, .int .u64 0, .int .u64 0, .int .u64 0, .int .u64 0, .int .u64 0, .slice none 0 0, .slice none 0 0], .int .i64 43]) ∧ Below w.heap.size w w' := by
 have H := Lib.hid fun w' (hb : Below w.heap.size w w') => together_good h h2 w' (Hv.mono hb) (Hav.mono hb) (Hv2.mono hb) (Hav2.mono hb) false hs
 rw [if_neg (by decide)] at H
 clear h h2 Hv Hav Hv2 Hav2 hs
 go_enter Tryz.func26, Tryz.ntmps26
 go_wp2_with fail
 refine (H.out _ bel_by).mono ?_
 rintro e w1 ⟨bp, bq, rfl, _, _, hb⟩
 have b1 : Blk w1 (w.heap.size + 1 + 1) #[.int .u64 0, .int .u64 0, .int .u64 0, .int .u64 0, .int .u64 0, .int .u64 0, .int .u64 0, .int .u64 0, .slice none 0 0, .slice none 0 0] 30 := Blk.grow blk_by hb
 have r1 := b1.row
 have hB1 : Below w.heap.size w w1 := bel_trans bel_by hb
 rw [← b1.rw]
 clear b1 hb
 go_wp2_with fail
 refine bodyPost_ret (by simp [results, Tryz.results26, go_sem, *]) rfl ⟨rfl, blw_row hB1 (by omega) _⟩
end Go.Proofs.YtccnkebkgegohaaGreatDoor
end
section
namespace Go.Proofs.YtccnkebkgegohaaGreatDoor
open Go.RowKit Go.Rel
set_option maxRecDepth 100000
set_option maxHeartbeats 8000000 in
theorem Merge_clash {blank : Sol} {v av : Value} {l : List Sol} {acts : List Ac} {s : Stn} (h : begunM blank l acts = .inr s) {v2 av2 : Value} {acts2 : List Ac} {s2 : Stn} (h2 : begunM blank l acts2 = .inr s2) (hm : mergeM l acts acts2 = none) (w : World) (Hv : SlS w v l) (Hav : SlA w av acts) (Hv2 : SlS w v2 l) (Hav2 : SlA w av2 acts2) :
  Calls Tryz.prog 26 #[.agg #[.int .u64 (pl blank 0), .int .u64 (pl blank 1), .int .u64 (pl blank 2), .int .u64 (pl blank 3), .int .u64 (pl blank 4), .int .u64 (pl blank 5), .int .u64 (pl blank 6), .int .u64 (pl blank 7), v, av], .agg #[.int .u64 (pl blank 0), .int .u64 (pl blank 1), .int .u64 (pl blank 2), .int .u64 (pl blank 3), .int .u64 (pl blank 4), .int .u64 (pl blank 5), .int .u64 (pl blank 6), .int .u64 (pl blank 7), v2, av2]] w fun e w' => e = .returned (.tuple #[.agg #[.int .u64 0, .int .u64 0, .int .u64 0, .int .u64 0, .int .u64 0, .int .u64 0, .int .u64 0, .int .u64 0, .slice none 0 0, .slice none 0 0], .int .i64 45]) ∧ Below w.heap.size w w' := by
 obtain ⟨xa, xb, hc⟩ : ∃ xa xb, conflictM l (leastA l acts (beyondM l acts l acts2).2.1) (leastA l acts2 (beyondM l acts l acts2).2.2) = some (xa, xb) := by
  unfold mergeM at hm
  split at hm
  ·next p h => exact ⟨p.1, p.2, h⟩
  ·cases hm
 have HCF : Hid (conflR (conflictM l (leastA l acts (beyondM l acts l acts2).2.1) (leastA l acts2 (beyondM l acts l acts2).2.2)) = .tuple #[.agg (acA xa), .agg (acA xb), .bool true]) := Lib.hid (by rw [hc]; rfl)
 clear hc hm
 have H := Lib.hid fun w' (hb : Below w.heap.size w w') => together_good h h2 w' (Hv.mono hb) (Hav.mono hb) (Hv2.mono hb) (Hav2.mono hb) true (by simp [samePat])
 rw [if_pos rfl] at H
 have hg := begunM_good h
 have hg2 := begunM_good h2
 have h8 := chkPat_ok hg.1
 have hn := hg.2.1
 have hn2 := hg2.2.1
 have HBK := Lib.hid (beyondM_ok l acts l acts2)
 have HFT : Hid ((∀ a ∈ leastA l acts (beyondM l acts l acts2).2.1, fits l.length a = true) ∧ (∀ a ∈ leastA l acts2 (beyondM l acts l acts2).2.2, fits l.length a = true)) := Lib.hid
  ⟨fun a ha => runM_fits hg.2.2 a (actsAt_mem (fun i hi => HBK.out.a i (leastI_mem _ _ i hi)) a ha), fun a ha => runM_fits hg2.2.2 a (actsAt_mem (fun i hi => HBK.out.b i (leastI_mem _ _ i hi)) a ha)⟩
 have HV := Lib.hid (And.intro Hv (And.intro Hav (And.intro Hv2 Hav2)))
 have hla60 : (beyondM l acts l acts2).2.1.length ≤ 60 := Nat.le_trans HBK.out.la hn
 have hlb60 : (beyondM l acts l acts2).2.2.length ≤ 60 := Nat.le_trans HBK.out.lb hn2
 have HL1 : Hid ((leastA l acts (beyondM l acts l acts2).2.1).length ≤ 60) := Lib.hid (by unfold leastA; rw [List.length_map]; exact Nat.le_trans (leastI_len _ _) hla60)
 have HL2 : Hid ((leastA l acts2 (beyondM l acts l acts2).2.2).length ≤ 60) := Lib.hid (by unfold leastA; rw [List.length_map]; exact Nat.le_trans (leastI_len _ _) hlb60)
 clear h h2 Hv Hav Hv2 Hav2 hg hg2
 go_enter Tryz.func26, Tryz.ntmps26
 go_wp2_with fail
 refine (H.out _ bel_by).mono ?_
 rintro e w1 ⟨bp, bq, rfl, hP, hQ, hb⟩
 have b1 : Blk w1 (w.heap.size + 1 + 1) #[.int .u64 0, .int .u64 0, .int .u64 0, .int .u64 0, .int .u64 0, .int .u64 0, .int .u64 0, .int .u64 0, .slice none 0 0, .slice none 0 0] 30 := Blk.grow blk_by hb
 have hB1 : Below w.heap.size w w1 := bel_trans bel_by hb
 have HPQ := Lib.hid (And.intro hP hQ); clear hP hQ hb H
 have hs1 := b1.lt
 go_wp2_with fail
 refine (beyond_spec w1 HPQ.out.1 HPQ.out.2 (HV.out.2.1.mono hB1) (HV.out.2.2.2.mono hB1) hn hn2).mono ?_
 rintro e w2 ⟨uc, ua, ub, rfl, oc, oa, ob, hb2⟩
 have hB2 : Below w.heap.size w w2 := bel_trans hB1 hb2
 have b2 := b1.grow hb2
 have HO2 : Hid (OwnA w2 w1.heap.size uc (beyondM l acts l acts2).1 ∧ OwnI w2 w1.heap.size ua (beyondM l acts l acts2).2.1 ∧ OwnI w2 w1.heap.size ub (beyondM l acts l acts2).2.2) := Lib.hid ⟨oc, oa, ob⟩
 have HP2 := Lib.hid (And.intro (HPQ.out.1.grow hb2) (HPQ.out.2.grow hb2))
 have hs2 := hb2.size
 clear oc oa ob hb2 b1
 go_wp2_with fail
 refine (least_spec w2 HP2.out.1 (HV.out.2.1.mono hB2) hn ua (beyondM l acts l acts2).2.1 HO2.out.2.1.sl HBK.out.a hla60).mono ?_
 rintro e w3 ⟨u1, rfl, o1, hb3⟩
 have hB3 : Below w.heap.size w w3 := bel_trans hB2 hb3
 have b3 := b2.grow hb3
 have HO3 : Hid (OwnA w3 w1.heap.size uc (beyondM l acts l acts2).1 ∧ OwnI w3 w1.heap.size ub (beyondM l acts l acts2).2.2 ∧ OwnA w3 w2.heap.size u1 (leastA l acts (beyondM l acts l acts2).2.1)) := Lib.hid ⟨own_grow HO2.out.1 hb3, own_grow HO2.out.2.2 hb3, o1⟩
 have HP3 := Lib.hid (And.intro (HP2.out.1.grow hb3) (HP2.out.2.grow hb3))
 have hs3 := hb3.size
 clear o1 hb3 b2
 go_wp2_with fail
 refine (least_spec w3 HP3.out.2 (HV.out.2.2.2.mono hB3) hn2 ub (beyondM l acts l acts2).2.2 HO3.out.2.1.sl HBK.out.b hlb60).mono ?_
 rintro e w4 ⟨u2, rfl, o2, hb4⟩
 have hB4 : Below w.heap.size w w4 := bel_trans hB3 hb4
 have b4 := b3.grow hb4
 have HO4 : Hid (OwnA w4 w1.heap.size uc (beyondM l acts l acts2).1 ∧ OwnA w4 w2.heap.size u1 (leastA l acts (beyondM l acts l acts2).2.1) ∧ OwnA w4 w3.heap.size u2 (leastA l acts2 (beyondM l acts l acts2).2.2)) := Lib.hid ⟨own_grow HO3.out.1 hb4, own_grow HO3.out.2.2 hb4, o2⟩
 have HP4 := Lib.hid (And.intro (HP3.out.1.grow hb4) (HP3.out.2.grow hb4))
 have hs4 := hb4.size
 clear o2 hb4 b3
 go_wp2_with fail
 refine (conflict_spec w4 HP4.out.1 (HV.out.1.mono hB4) h8 u1 u2 _ _ HO4.out.2.1.sl HO4.out.2.2.sl HFT.out.1 HFT.out.2).mono ?_
 rintro e w5 ⟨rfl, hb5⟩
 have hB5 : Below w.heap.size w w5 := bel_trans hB4 hb5
 have b5 := b4.grow hb5
 have HO5 : Hid (OwnA w5 w1.heap.size uc (beyondM l acts l acts2).1 ∧ OwnA w5 w2.heap.size u1 (leastA l acts (beyondM l acts l acts2).2.1) ∧ OwnA w5 w3.heap.size u2 (leastA l acts2 (beyondM l acts l acts2).2.2)) := Lib.hid ⟨own_grow HO4.out.1 hb5, own_grow HO4.out.2.1 hb5, own_grow HO4.out.2.2 hb5⟩
 have HP5 := Lib.hid (And.intro (HP4.out.1.grow hb5) (HP4.out.2.grow hb5))
 have hs5 := hb5.size
 clear hb5 b4
 rw [HCF.out]
 clear hla60 hlb60
 go_upto_if 49 with (fail)
 obtain ⟨w6, hw6⟩ : ∃ w6 : World, w6 = (w5.alloc (.cells (acA xa) 46)).alloc (.cells (acA xb) 46) := ⟨_, rfl⟩
 have hb6 : Below w5.heap.size w5 w6 := by subst hw6; exact bel_alloc (bel_alloc (bel_refl _) _) _
 have hB6 : Below w.heap.size w w6 := bel_trans hB5 hb6
 have b6 := b5.grow hb6
 rw [← hw6]
 clear hw6 b5 hb6
 have r1 := b6.row
 rw [← b6.rw]
 clear b6
 go_wp2_with fail
 refine bodyPost_ret (by simp [results, Tryz.results26, go_sem, *]) rfl ⟨rfl, blw_row hB6 (by omega) _⟩
end Go.Proofs.YtccnkebkgegohaaGreatDoor
end
section
namespace Go.Proofs.YtccnkebkgegohaaGreatDoor
open Go.RowKit Go.Rel
set_option maxRecDepth 100000
set_option maxHeartbeats 8000000 in
theorem Merge_good {blank : Sol} {v av : Value} {l : List Sol} {acts : List Ac} {s : Stn} (h : begunM blank l acts = .inr s) {v2 av2 : Value} {acts2 : List Ac} {s2 : Stn} (h2 : begunM blank l acts2 = .inr s2) {m : List Ac} (hm : mergeM l acts acts2 = some m) {s3 : Stn} (h3 : begunM blank l m = .inr s3) (w : World) (Hv : SlS w v l) (Hav : SlA w av acts) (Hv2 : SlS w v2 l) (Hav2 : SlA w av2 acts2) :
  Calls Tryz.prog 26 #[.agg #[.int .u64 (pl blank 0), .int .u64 (pl blank 1), .int .u64 (pl blank 2), .int .u64 (pl blank 3), .int .u64 (pl blank 4), .int .u64 (pl blank 5), .int .u64 (pl blank 6), .int .u64 (pl blank 7), v, av], .agg #[.int .u64 (pl blank 0), .int .u64 (pl blank 1), .int .u64 (pl blank 2), .int .u64 (pl blank 3), .int .u64 (pl blank 4), .int .u64 (pl blank 5), .int .u64 (pl blank 6), .int .u64 (pl blank 7), v2, av2]] w fun e w' => ∃ pv bv, e = .returned (.tuple #[.agg #[.int .u64 (pl blank 0), .int .u64 (pl blank 1), .int .u64 (pl blank 2), .int .u64 (pl blank 3), .int .u64 (pl blank 4), .int .u64 (pl blank 5), .int .u64 (pl blank 6), .int .u64 (pl blank 7), pv, bv], .int .i64 0]) ∧ OwnS w' w.heap.size pv l ∧ OwnA w' w.heap.size bv (normalM l m) ∧ Below w.heap.size w w' := by
 have hc : conflictM l (leastA l acts (beyondM l acts l acts2).2.1) (leastA l acts2 (beyondM l acts l acts2).2.2) = none := by
  unfold mergeM at hm
  split at hm
  ·cases hm
  ·next h => exact h
 have HME : Hid (m = catM [(Value.bool false, (beyondM l acts l acts2).1), (Value.bool false, leastA l acts (beyondM l acts l acts2).2.1), (Value.bool false, leastA l acts2 (beyondM l acts l acts2).2.2)]) := Lib.hid (by
  unfold mergeM at hm
  rw [hc] at hm
  rw [← Option.some.inj hm]
  simp [catM])
 have HCF : Hid (conflR (conflictM l (leastA l acts (beyondM l acts l acts2).2.1) (leastA l acts2 (beyondM l acts l acts2).2.2)) = .tuple #[.agg zeroA, .agg zeroA, .bool false]) := Lib.hid (by rw [hc]; rfl)
 clear hc hm
 have H := Lib.hid fun w' (hb : Below w.heap.size w w') => together_good h h2 w' (Hv.mono hb) (Hav.mono hb) (Hv2.mono hb) (Hav2.mono hb) true (by simp [samePat])
 rw [if_pos rfl] at H
 have hg := begunM_good h
 have hg2 := begunM_good h2
 have h8 := chkPat_ok hg.1
 have hn := hg.2.1
 have hn2 := hg2.2.1
 have HBK := Lib.hid (beyondM_ok l acts l acts2)
 have HFT : Hid ((∀ a ∈ leastA l acts (beyondM l acts l acts2).2.1, fits l.length a = true) ∧ (∀ a ∈ leastA l acts2 (beyondM l acts l acts2).2.2, fits l.length a = true)) := Lib.hid
  ⟨fun a ha => runM_fits hg.2.2 a (actsAt_mem (fun i hi => HBK.out.a i (leastI_mem _ _ i hi)) a ha), fun a ha => runM_fits hg2.2.2 a (actsAt_mem (fun i hi => HBK.out.b i (leastI_mem _ _ i hi)) a ha)⟩
 have HV := Lib.hid (And.intro Hv (And.intro Hav (And.intro Hv2 Hav2)))
 have hla60 : (beyondM l acts l acts2).2.1.length ≤ 60 := Nat.le_trans HBK.out.la hn
 have hlb60 : (beyondM l acts l acts2).2.2.length ≤ 60 := Nat.le_trans HBK.out.lb hn2
 have HL1 : Hid ((leastA l acts (beyondM l acts l acts2).2.1).length ≤ 60) := Lib.hid (by unfold leastA; rw [List.length_map]; exact Nat.le_trans (leastI_len _ _) hla60)
 have HL2 : Hid ((leastA l acts2 (beyondM l acts l acts2).2.2).length ≤ 60) := Lib.hid (by unfold leastA; rw [List.length_map]; exact Nat.le_trans (leastI_len _ _) hlb60)
 clear h h2 Hv Hav Hv2 Hav2 hg hg2
 go_enter Tryz.func26, Tryz.ntmps26
 go_wp2_with fail
 refine (H.out _ bel_by).mono ?_
 rintro e w1 ⟨bp, bq, rfl, hP, hQ, hb⟩
 have b1 : Blk w1 (w.heap.size + 1 + 1) #[.int .u64 0, .int .u64 0, .int .u64 0, .int .u64 0, .int .u64 0, .int .u64 0, .int .u64 0, .int .u64 0, .slice none 0 0, .slice none 0 0] 30 := Blk.grow blk_by hb
 have hB1 : Below w.heap.size w w1 := bel_trans bel_by hb
 have HPQ := Lib.hid (And.intro hP hQ); clear hP hQ hb H
 have hs1 := b1.lt
 go_wp2_with fail
 refine (beyond_spec w1 HPQ.out.1 HPQ.out.2 (HV.out.2.1.mono hB1) (HV.out.2.2.2.mono hB1) hn hn2).mono ?_
 rintro e w2 ⟨uc, ua, ub, rfl, oc, oa, ob, hb2⟩
 have hB2 : Below w.heap.size w w2 := bel_trans hB1 hb2
 have b2 := b1.grow hb2
 have HO2 : Hid (OwnA w2 w1.heap.size uc (beyondM l acts l acts2).1 ∧ OwnI w2 w1.heap.size ua (beyondM l acts l acts2).2.1 ∧ OwnI w2 w1.heap.size ub (beyondM l acts l acts2).2.2) := Lib.hid ⟨oc, oa, ob⟩
 have HP2 := Lib.hid (And.intro (HPQ.out.1.grow hb2) (HPQ.out.2.grow hb2))
 have hs2 := hb2.size
 clear oc oa ob hb2 b1
 go_wp2_with fail
 refine (least_spec w2 HP2.out.1 (HV.out.2.1.mono hB2) hn ua (beyondM l acts l acts2).2.1 HO2.out.2.1.sl HBK.out.a hla60).mono ?_
 rintro e w3 ⟨u1, rfl, o1, hb3⟩
 have hB3 : Below w.heap.size w w3 := bel_trans hB2 hb3
 have b3 := b2.grow hb3
 have HO3 : Hid (OwnA w3 w1.heap.size uc (beyondM l acts l acts2).1 ∧ OwnI w3 w1.heap.size ub (beyondM l acts l acts2).2.2 ∧ OwnA w3 w2.heap.size u1 (leastA l acts (beyondM l acts l acts2).2.1)) := Lib.hid ⟨own_grow HO2.out.1 hb3, own_grow HO2.out.2.2 hb3, o1⟩
 have HP3 := Lib.hid (And.intro (HP2.out.1.grow hb3) (HP2.out.2.grow hb3))
 have hs3 := hb3.size
 clear o1 hb3 b2
 go_wp2_with fail
 refine (least_spec w3 HP3.out.2 (HV.out.2.2.2.mono hB3) hn2 ub (beyondM l acts l acts2).2.2 HO3.out.2.1.sl HBK.out.b hlb60).mono ?_
 rintro e w4 ⟨u2, rfl, o2, hb4⟩
 have hB4 : Below w.heap.size w w4 := bel_trans hB3 hb4
 have b4 := b3.grow hb4
 have HO4 : Hid (OwnA w4 w1.heap.size uc (beyondM l acts l acts2).1 ∧ OwnA w4 w2.heap.size u1 (leastA l acts (beyondM l acts l acts2).2.1) ∧ OwnA w4 w3.heap.size u2 (leastA l acts2 (beyondM l acts l acts2).2.2)) := Lib.hid ⟨own_grow HO3.out.1 hb4, own_grow HO3.out.2.2 hb4, o2⟩
 have HP4 := Lib.hid (And.intro (HP3.out.1.grow hb4) (HP3.out.2.grow hb4))
 have hs4 := hb4.size
 clear o2 hb4 b3
 go_wp2_with fail
 refine (conflict_spec w4 HP4.out.1 (HV.out.1.mono hB4) h8 u1 u2 _ _ HO4.out.2.1.sl HO4.out.2.2.sl HFT.out.1 HFT.out.2).mono ?_
 rintro e w5 ⟨rfl, hb5⟩
 have hB5 : Below w.heap.size w w5 := bel_trans hB4 hb5
 have b5 := b4.grow hb5
 have HO5 : Hid (OwnA w5 w1.heap.size uc (beyondM l acts l acts2).1 ∧ OwnA w5 w2.heap.size u1 (leastA l acts (beyondM l acts l acts2).2.1) ∧ OwnA w5 w3.heap.size u2 (leastA l acts2 (beyondM l acts l acts2).2.2)) := Lib.hid ⟨own_grow HO4.out.1 hb5, own_grow HO4.out.2.1 hb5, own_grow HO4.out.2.2 hb5⟩
 have HP5 := Lib.hid (And.intro (HP4.out.1.grow hb5) (HP4.out.2.grow hb5))
 have hs5 := hb5.size
 clear hb5 b4
 rw [HCF.out]
 have hlc : ((beyondM l acts l acts2).1).length ≤ 60 := Nat.le_trans HBK.out.lc hn
 have hl1 := HL1.out
 have hl2 := HL2.out
 obtain ⟨w6, hw6⟩ : ∃ w6 : World, w6 = ((w5.alloc (.cells zeroA 46)).alloc (.cells zeroA 46)).alloc (.cells #[uc, u1, u2] 28) := ⟨_, rfl⟩
 have hb6 : Below w5.heap.size w5 w6 := by subst hw6; exact bel_alloc (bel_alloc (bel_alloc (bel_refl _) _) _) _
 have hblk : Blk w6 (w5.heap.size + 1 + 1) #[uc, u1, u2] 28 := by subst hw6; exact Blk.new2 _ _ _ _ _
 have HC6 := Lib.hid (Concat_spec _ [(uc, (beyondM l acts l acts2).1), (u1, leastA l acts (beyondM l acts l acts2).2.1), (u2, leastA l acts2 (beyondM l acts l acts2).2.2)] w6 (three_sl hblk _ _ _) (fun p hp => by
  simp at hp
  rcases hp with rfl | rfl | rfl
  ·exact (HO5.out.1.sln).mono hb6
  ·exact (HO5.out.2.1.sln).mono hb6
  ·exact (HO5.out.2.2.sln).mono hb6) (by simp [catM]; omega))
 have hB6 : Below w.heap.size w w6 := bel_trans hB5 hb6
 have b6 := b5.grow hb6
 have HP6 := Lib.hid (HP5.out.1.grow hb6)
 have hs6 := hb6.size
 have HW6 := Lib.hid hw6
 refine Veil.out ?_
 obtain ⟨pc, cc, rfl, _, _⟩ := own_shape' HO5.out.1
 obtain ⟨pc1, cc1, rfl, _, _⟩ := own_shape' HO5.out.2.1
 obtain ⟨pc2, cc2, rfl, _, _⟩ := own_shape' HO5.out.2.2
 refine Veil.on ?_
 have HML : Hid (m.length ≤ 1048576 ∧ m = catM [(Value.slice pc (beyondM l acts l acts2).1.length cc, (beyondM l acts l acts2).1), (.slice pc1 (leastA l acts (beyondM l acts l acts2).2.1).length cc1, leastA l acts (beyondM l acts l acts2).2.1), (.slice pc2 (leastA l acts2 (beyondM l acts l acts2).2.2).length cc2, leastA l acts2 (beyondM l acts l acts2).2.2)]) := Lib.hid ⟨by rw [HME.out]; simp [catM]; omega, by rw [HME.out]; rfl⟩
 clear hw6 hb6 hblk hlc hl1 hl2 b5 hla60 hlb60
 go_wp2_with fail
 rw [← HW6.out]
 refine HC6.out.mono ?_
 rintro e w7 ⟨u7, rfl, o7, hb7⟩
 have hB7 : Below w.heap.size w w7 := bel_trans hB6 hb7
 have b7 := b6.grow hb7
 have HP7 := Lib.hid (HP6.out.grow hb7)
 have hs7 := hb7.size
 have HO7 : Hid (OwnA w7 w6.heap.size u7 m) := Lib.hid (by rw [HML.out.2]; exact o7)
 clear o7 hb7 b6
 go_wp2_with fail
 refine (with_spec w7 HP7.out (HV.out.1.mono hB7) h8 u7 m HO7.out.sl HML.out.1).mono ?_
 rintro e w8 ⟨pv8, bv8, rfl, hS8, hA8, hb8⟩
 have hB8 : Below w.heap.size w w8 := bel_trans hB7 hb8
 have b8 := b7.grow hb8
 have hs8 := hb8.size
 have HN8 := Lib.hid (And.intro hS8 hA8)
 clear hS8 hA8 hb8 b7
 go_wp2_with fail
 refine (Normal_good h3 w8 HN8.out.1.sl HN8.out.2.sl).mono ?_
 rintro e w9 ⟨pv9, bv9, rfl, hS9, hA9, hb9⟩
 have hB9 : Below w.heap.size w w9 := bel_trans hB8 hb9
 have b9 := b8.grow hb9
 have hs9 := hb9.size
 have HS9 := Lib.hid (And.intro hS9 hA9)
 refine Veil.out ?_
 obtain ⟨p, c, hp, _, _⟩ := own_shape' hS9
 obtain ⟨p', c', hp', _, _⟩ := own_shape' hA9
 subst hp
 subst hp'
 refine Veil.on ?_
 clear hS9 hA9 hb9 b8
 have r1 := b9.row
 rw [← b9.rw]
 clear b9
 go_wp2_with fail
 refine bodyPost_ret (by simp [results, Tryz.results26, go_sem, *]) rfl ⟨_, _, rfl, own_weak (own_row (bp := w.heap.size + 1 + 1) HS9.out.1 (by omega) _) (by omega), own_weak (own_row (bp := w.heap.size + 1 + 1) HS9.out.2 (by omega) _) (by omega), blw_row hB9 (by omega) _⟩
set_option maxHeartbeats 8000000 in
theorem Merge_bad {blank : Sol} {v av : Value} {l : List Sol} {acts : List Ac} {s : Stn} (h : begunM blank l acts = .inr s) {v2 av2 : Value} {acts2 : List Ac} {s2 : Stn} (h2 : begunM blank l acts2 = .inr s2) {m : List Ac} (hm : mergeM l acts acts2 = some m) {x : Nat × Int} (h3 : begunM blank l m = .inl x) (w : World) (Hv : SlS w v l) (Hav : SlA w av acts) (Hv2 : SlS w v2 l) (Hav2 : SlA w av2 acts2) :
  Calls Tryz.prog 26 #[.agg #[.int .u64 (pl blank 0), .int .u64 (pl blank 1), .int .u64 (pl blank 2), .int .u64 (pl blank 3), .int .u64 (pl blank 4), .int .u64 (pl blank 5), .int .u64 (pl blank 6), .int .u64 (pl blank 7), v, av], .agg #[.int .u64 (pl blank 0), .int .u64 (pl blank 1), .int .u64 (pl blank 2), .int .u64 (pl blank 3), .int .u64 (pl blank 4), .int .u64 (pl blank 5), .int .u64 (pl blank 6), .int .u64 (pl blank 7), v2, av2]] w fun e w' => e = .returned (.tuple #[.agg #[.int .u64 0, .int .u64 0, .int .u64 0, .int .u64 0, .int .u64 0, .int .u64 0, .int .u64 0, .int .u64 0, .slice none 0 0, .slice none 0 0], .int .i64 x.2]) ∧ Below w.heap.size w w' := by
 have hc : conflictM l (leastA l acts (beyondM l acts l acts2).2.1) (leastA l acts2 (beyondM l acts l acts2).2.2) = none := by
  unfold mergeM at hm
  split at hm
  ·cases hm
  ·next h => exact h
 have HME : Hid (m = catM [(Value.bool false, (beyondM l acts l acts2).1), (Value.bool false, leastA l acts (beyondM l acts l acts2).2.1), (Value.bool false, leastA l acts2 (beyondM l acts l acts2).2.2)]) := Lib.hid (by
  unfold mergeM at hm
  rw [hc] at hm
  rw [← Option.some.inj hm]
  simp [catM])
 have HCF : Hid (conflR (conflictM l (leastA l acts (beyondM l acts l acts2).2.1) (leastA l acts2 (beyondM l acts l acts2).2.2)) = .tuple #[.agg zeroA, .agg zeroA, .bool false]) := Lib.hid (by rw [hc]; rfl)
 clear hc hm
 have H := Lib.hid fun w' (hb : Below w.heap.size w w') => together_good h h2 w' (Hv.mono hb) (Hav.mono hb) (Hv2.mono hb) (Hav2.mono hb) true (by simp [samePat])
 rw [if_pos rfl] at H
 have hg := begunM_good h
 have hg2 := begunM_good h2
 have h8 := chkPat_ok hg.1
 have hn := hg.2.1
 have hn2 := hg2.2.1
 have HBK := Lib.hid (beyondM_ok l acts l acts2)
 have HFT : Hid ((∀ a ∈ leastA l acts (beyondM l acts l acts2).2.1, fits l.length a = true) ∧ (∀ a ∈ leastA l acts2 (beyondM l acts l acts2).2.2, fits l.length a = true)) := Lib.hid
  ⟨fun a ha => runM_fits hg.2.2 a (actsAt_mem (fun i hi => HBK.out.a i (leastI_mem _ _ i hi)) a ha), fun a ha => runM_fits hg2.2.2 a (actsAt_mem (fun i hi => HBK.out.b i (leastI_mem _ _ i hi)) a ha)⟩
 have HV := Lib.hid (And.intro Hv (And.intro Hav (And.intro Hv2 Hav2)))
 have hla60 : (beyondM l acts l acts2).2.1.length ≤ 60 := Nat.le_trans HBK.out.la hn
 have hlb60 : (beyondM l acts l acts2).2.2.length ≤ 60 := Nat.le_trans HBK.out.lb hn2
 have HL1 : Hid ((leastA l acts (beyondM l acts l acts2).2.1).length ≤ 60) := Lib.hid (by unfold leastA; rw [List.length_map]; exact Nat.le_trans (leastI_len _ _) hla60)
 have HL2 : Hid ((leastA l acts2 (beyondM l acts l acts2).2.2).length ≤ 60) := Lib.hid (by unfold leastA; rw [List.length_map]; exact Nat.le_trans (leastI_len _ _) hlb60)
 clear h h2 Hv Hav Hv2 Hav2 hg hg2
 go_enter Tryz.func26, Tryz.ntmps26
 go_wp2_with fail
 refine (H.out _ bel_by).mono ?_
 rintro e w1 ⟨bp, bq, rfl, hP, hQ, hb⟩
 have b1 : Blk w1 (w.heap.size + 1 + 1) #[.int .u64 0, .int .u64 0, .int .u64 0, .int .u64 0, .int .u64 0, .int .u64 0, .int .u64 0, .int .u64 0, .slice none 0 0, .slice none 0 0] 30 := Blk.grow blk_by hb
 have hB1 : Below w.heap.size w w1 := bel_trans bel_by hb
 have HPQ := Lib.hid (And.intro hP hQ); clear hP hQ hb H
 have hs1 := b1.lt
 go_wp2_with fail
 refine (beyond_spec w1 HPQ.out.1 HPQ.out.2 (HV.out.2.1.mono hB1) (HV.out.2.2.2.mono hB1) hn hn2).mono ?_
 rintro e w2 ⟨uc, ua, ub, rfl, oc, oa, ob, hb2⟩
 have hB2 : Below w.heap.size w w2 := bel_trans hB1 hb2
 have b2 := b1.grow hb2
 have HO2 : Hid (OwnA w2 w1.heap.size uc (beyondM l acts l acts2).1 ∧ OwnI w2 w1.heap.size ua (beyondM l acts l acts2).2.1 ∧ OwnI w2 w1.heap.size ub (beyondM l acts l acts2).2.2) := Lib.hid ⟨oc, oa, ob⟩
 have HP2 := Lib.hid (And.intro (HPQ.out.1.grow hb2) (HPQ.out.2.grow hb2))
 have hs2 := hb2.size
 clear oc oa ob hb2 b1
 go_wp2_with fail
 refine (least_spec w2 HP2.out.1 (HV.out.2.1.mono hB2) hn ua (beyondM l acts l acts2).2.1 HO2.out.2.1.sl HBK.out.a hla60).mono ?_
 rintro e w3 ⟨u1, rfl, o1, hb3⟩
 have hB3 : Below w.heap.size w w3 := bel_trans hB2 hb3
 have b3 := b2.grow hb3
 have HO3 : Hid (OwnA w3 w1.heap.size uc (beyondM l acts l acts2).1 ∧ OwnI w3 w1.heap.size ub (beyondM l acts l acts2).2.2 ∧ OwnA w3 w2.heap.size u1 (leastA l acts (beyondM l acts l acts2).2.1)) := Lib.hid ⟨own_grow HO2.out.1 hb3, own_grow HO2.out.2.2 hb3, o1⟩
 have HP3 := Lib.hid (And.intro (HP2.out.1.grow hb3) (HP2.out.2.grow hb3))
 have hs3 := hb3.size
 clear o1 hb3 b2
 go_wp2_with fail
 refine (least_spec w3 HP3.out.2 (HV.out.2.2.2.mono hB3) hn2 ub (beyondM l acts l acts2).2.2 HO3.out.2.1.sl HBK.out.b hlb60).mono ?_
 rintro e w4 ⟨u2, rfl, o2, hb4⟩
 have hB4 : Below w.heap.size w w4 := bel_trans hB3 hb4
 have b4 := b3.grow hb4
 have HO4 : Hid (OwnA w4 w1.heap.size uc (beyondM l acts l acts2).1 ∧ OwnA w4 w2.heap.size u1 (leastA l acts (beyondM l acts l acts2).2.1) ∧ OwnA w4 w3.heap.size u2 (leastA l acts2 (beyondM l acts l acts2).2.2)) := Lib.hid ⟨own_grow HO3.out.1 hb4, own_grow HO3.out.2.2 hb4, o2⟩
 have HP4 := Lib.hid (And.intro (HP3.out.1.grow hb4) (HP3.out.2.grow hb4))
 have hs4 := hb4.size
 clear o2 hb4 b3
 go_wp2_with fail
 refine (conflict_spec w4 HP4.out.1 (HV.out.1.mono hB4) h8 u1 u2 _ _ HO4.out.2.1.sl HO4.out.2.2.sl HFT.out.1 HFT.out.2).mono ?_
 rintro e w5 ⟨rfl, hb5⟩
 have hB5 : Below w.heap.size w w5 := bel_trans hB4 hb5
 have b5 := b4.grow hb5
 have HO5 : Hid (OwnA w5 w1.heap.size uc (beyondM l acts l acts2).1 ∧ OwnA w5 w2.heap.size u1 (leastA l acts (beyondM l acts l acts2).2.1) ∧ OwnA w5 w3.heap.size u2 (leastA l acts2 (beyondM l acts l acts2).2.2)) := Lib.hid ⟨own_grow HO4.out.1 hb5, own_grow HO4.out.2.1 hb5, own_grow HO4.out.2.2 hb5⟩
 have HP5 := Lib.hid (And.intro (HP4.out.1.grow hb5) (HP4.out.2.grow hb5))
 have hs5 := hb5.size
 clear hb5 b4
 rw [HCF.out]
 have hlc : ((beyondM l acts l acts2).1).length ≤ 60 := Nat.le_trans HBK.out.lc hn
 have hl1 := HL1.out
 have hl2 := HL2.out
 obtain ⟨w6, hw6⟩ : ∃ w6 : World, w6 = ((w5.alloc (.cells zeroA 46)).alloc (.cells zeroA 46)).alloc (.cells #[uc, u1, u2] 28) := ⟨_, rfl⟩
 have hb6 : Below w5.heap.size w5 w6 := by subst hw6; exact bel_alloc (bel_alloc (bel_alloc (bel_refl _) _) _) _
 have hblk : Blk w6 (w5.heap.size + 1 + 1) #[uc, u1, u2] 28 := by subst hw6; exact Blk.new2 _ _ _ _ _
 have HC6 := Lib.hid (Concat_spec _ [(uc, (beyondM l acts l acts2).1), (u1, leastA l acts (beyondM l acts l acts2).2.1), (u2, leastA l acts2 (beyondM l acts l acts2).2.2)] w6 (three_sl hblk _ _ _) (fun p hp => by
  simp at hp
  rcases hp with rfl | rfl | rfl
  ·exact (HO5.out.1.sln).mono hb6
  ·exact (HO5.out.2.1.sln).mono hb6
  ·exact (HO5.out.2.2.sln).mono hb6) (by simp [catM]; omega))
 have hB6 : Below w.heap.size w w6 := bel_trans hB5 hb6
 have b6 := b5.grow hb6
 have HP6 := Lib.hid (HP5.out.1.grow hb6)
 have hs6 := hb6.size
 have HW6 := Lib.hid hw6
 refine Veil.out ?_
 obtain ⟨pc, cc, rfl, _, _⟩ := own_shape' HO5.out.1
 obtain ⟨pc1, cc1, rfl, _, _⟩ := own_shape' HO5.out.2.1
 obtain ⟨pc2, cc2, rfl, _, _⟩ := own_shape' HO5.out.2.2
 refine Veil.on ?_
 have HML : Hid (m.length ≤ 1048576 ∧ m = catM [(Value.slice pc (beyondM l acts l acts2).1.length cc, (beyondM l acts l acts2).1), (.slice pc1 (leastA l acts (beyondM l acts l acts2).2.1).length cc1, leastA l acts (beyondM l acts l acts2).2.1), (.slice pc2 (leastA l acts2 (beyondM l acts l acts2).2.2).length cc2, leastA l acts2 (beyondM l acts l acts2).2.2)]) := Lib.hid ⟨by rw [HME.out]; simp [catM]; omega, by rw [HME.out]; rfl⟩
 clear hw6 hb6 hblk hlc hl1 hl2 b5 hla60 hlb60
 go_wp2_with fail
 rw [← HW6.out]
 refine HC6.out.mono ?_
 rintro e w7 ⟨u7, rfl, o7, hb7⟩
 have hB7 : Below w.heap.size w w7 := bel_trans hB6 hb7
 have b7 := b6.grow hb7
 have HP7 := Lib.hid (HP6.out.grow hb7)
 have hs7 := hb7.size
 have HO7 : Hid (OwnA w7 w6.heap.size u7 m) := Lib.hid (by rw [HML.out.2]; exact o7)
 clear o7 hb7 b6
 go_wp2_with fail
 refine (with_spec w7 HP7.out (HV.out.1.mono hB7) h8 u7 m HO7.out.sl HML.out.1).mono ?_
 rintro e w8 ⟨pv8, bv8, rfl, hS8, hA8, hb8⟩
 have hB8 : Below w.heap.size w w8 := bel_trans hB7 hb8
 have b8 := b7.grow hb8
 have hs8 := hb8.size
 have HN8 := Lib.hid (And.intro hS8 hA8)
 clear hS8 hA8 hb8 b7
 go_wp2_with fail
 refine (Normal_bad h3 w8 HN8.out.1.sl HN8.out.2.sl).mono ?_
 rintro e w9 ⟨rfl, hb9⟩
 have hB9 : Below w.heap.size w w9 := bel_trans hB8 hb9
 have b9 := b8.grow hb9
 have r1 := b9.row
 rw [← b9.rw]
 clear b9 b8 hb9
 go_wp2_with fail
 refine bodyPost_ret (by simp [results, Tryz.results26, go_sem, *]) rfl ⟨rfl, blw_row hB9 (by omega) _⟩
end Go.Proofs.YtccnkebkgegohaaGreatDoor
end
section
namespace Go.Proofs.YtccnkebkgegohaaGreatDoor
open Go.RowKit Go.Rel
set_option maxRecDepth 100000
theorem pow2_16 (w : World) : Calls Tryz.prog 243 #[.int .i64 16] w fun e w' => e = .returned (.bool true) ∧ w' = w := by
 go_enter Tryz.func243, Tryz.ntmps243
 go_wp2_with fail
 go_ret
 exact ⟨rfl, rfl⟩
theorem tz64_16 (w : World) (hT : w.cell? ⟨5, 15, none⟩ = some (.int .u8 4)) : Calls Tryz.prog 255 #[.int .u64 16] w fun e w' => e = .returned (.int .i64 4) ∧ w' = w := by
 have e1 : IntKind.u64.wrap (-16) = 18446744073709551600 := by kernel_rfl
 have e2 : bits .and .u64 16 18446744073709551600 = 16 := by kernel_rfl
 have e3 : IntKind.u64.wrap (16 * 285870213051353865) = 4573923408821661840 := by kernel_rfl
 go_enter Tryz.func255, Tryz.ntmps255
 go_wp2_with fail
 go_ret
 exact ⟨rfl, rfl⟩
theorem tz_16 (w : World) (hT : w.cell? ⟨5, 15, none⟩ = some (.int .u8 4)) : Calls Tryz.prog 244 #[.int .u64 16] w fun e w' => e = .returned (.int .i64 4) ∧ w' = w := by
 have H := Lib.hid (tz64_16 w hT)
 clear hT
 go_enter Tryz.func244, Tryz.ntmps244
 go_wp2_with fail
 refine H.out.mono ?_
 rintro e w' ⟨rfl, rfl⟩
 go_wp2_with fail
 go_ret
 exact ⟨rfl, rfl⟩
/-! hexadecimal digits -/
def hexD (d : Nat) : UInt8 := if d < 10 then UInt8.ofNat (48 + d) else UInt8.ofNat (87 + d)
/-- the digits of a number below 16 ^ n -/
def hexN : Nat → Nat → List UInt8
 | 0, u => [hexD (u % 16)]
 | n + 1, u => if u < 16 then [hexD u] else hexN n (u / 16) ++ [hexD (u % 16)]
def hexS (u : Nat) : List UInt8 := hexN 16 u
theorem hexN_more : ∀ (n u : Nat), u < 16 ^ (n + 1) → hexN (n + 1) u = hexN n u
 | 0, u, h => by
  have : u < 16 := by simpa using h
  simp [hexN, this, Nat.mod_eq_of_lt this]
 | n + 1, u, h => by
  have h' : u / 16 < 16 ^ (n + 1) := by rw [Nat.div_lt_iff_lt_mul (by decide)]; rw [Nat.pow_succ] at h; exact h
  rw [hexN]
  split
  ·next h1 => rw [hexN, if_pos h1]
  ·next h1 =>
   rw [hexN_more n _ h', hexN.eq_2, if_neg h1]
theorem hexN_len : ∀ (n u : Nat), (hexN n u).length ≤ n + 1
 | 0, u => by simp [hexN]
 | n + 1, u => by
  unfold hexN
  split
  ·simp
  ·have := hexN_len n (u / 16)
   simp; omega
theorem hexS_step {u : Nat} (h : 16 ≤ u) (hu : u < 18446744073709551616) : hexS u = hexS (u / 16) ++ [hexD (u % 16)] := by
 unfold hexS
 have h' : u / 16 < 16 ^ (15 + 1) := by
  have : (16 : Nat) ^ (15 + 1) = 18446744073709551616 := by decide
  omega
 rw [hexN, if_neg (by omega), hexN_more 15 _ h']
theorem hexS_small {u : Nat} (h : u < 16) : hexS u = [hexD u] := by
 unfold hexS; rw [hexN, if_pos h]
end Go.Proofs.YtccnkebkgegohaaGreatDoor
end
