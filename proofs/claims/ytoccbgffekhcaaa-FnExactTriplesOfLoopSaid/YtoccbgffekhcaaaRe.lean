/-
Contracts of functions of the given program, by the abstract walk.
-/
import Derived.Test.YtoccbgffekhcaaaAbsY
import Derived.Test.YtoccbgffekhcaaaRd
import Derived.Test.YtoccbgffekhcaaaDh
import Derived.Test.YtoccbgffekhcaaaDi
import Derived.Test.YtoccbgffekhcaaaJj
import Derived.Test.YtoccbgffekhcaaaKd
namespace Go.Proofs.Ytoccbgffekhcaaa
open Go Go.Abs
set_option linter.unusedVariables false
set_option linter.unusedSectionVars false
set_option linter.unusedSimpArgs false
set_option maxRecDepth 100000
/-! triple systems: the square and the loop -/
def tsG (th : Nat → Nat → Int) (x y : Nat) : Nat := if x = y then x else (th x y).toNat
def tlG (th : Nat → Nat → Int) (x y : Nat) : Nat := if x = 0 then y else if y = 0 then x else if x = y then 0 else (th (x - 1) (y - 1)).toNat + 1
def tsR (v : Int) (LL : LLs) : AV := resSq (if thirdOk v LL then 0 else 1) v (mkT (tsG (thirdF v LL)) v.toNat v.toNat)
def tlR (v : Int) (LL : LLs) : AV := resSq (if thirdOk v LL then 0 else 1) (v + 1) (mkT (tlG (thirdF v LL)) (v.toNat + 1) (v.toNat + 1))
theorem tsR_no {v : Int} {LL : LLs} (h : thirdOk v LL = false) : tsR v LL = .tup [.agg (sqS 0 (List.replicate 100 0)), .i .i64 1] := by unfold tsR; rw [h]; exact resSqN (by simp)
theorem tlR_no {v : Int} {LL : LLs} (h : thirdOk v LL = false) : tlR v LL = .tup [.agg (sqS 0 (List.replicate 100 0)), .i .i64 1] := by unfold tlR; rw [h]; exact resSqN (by simp)
theorem tsR_yes {V : Nat} {LL : LLs} (h : thirdOk V LL = true) : tsR V LL = .tup [.agg (sqS V (mkT (tsG (thirdF V LL)) V V)), .i .i64 0] := by unfold tsR; rw [h]; exact resSq0 (by simp)
theorem tlR_yes {V : Nat} {LL : LLs} (h : thirdOk V LL = true) : tlR V LL = .tup [.agg (sqS ((V + 1 : Nat) : Int) (mkT (tlG (thirdF V LL)) (V + 1) (V + 1))), .i .i64 0] := by unfold tlR; rw [h]; exact resSq0 (by simp)
theorem third_facts {v : Int} {LL : LLs} (h : thirdOk v LL = true) : ∃ V : Nat, v = V ∧ 1 ≤ V ∧ V ≤ 9 ∧ TI V (thirdF v LL) ∧ ∀ a, a < V → ∀ b, b < V → a ≠ b → 0 ≤ thirdF v LL a b := by
  have h' := h
  unfold thirdOk at h
  simp only [Bool.and_eq_true, decide_eq_true_iff] at h
  obtain ⟨hv, hm⟩ := h
  cases hs : stT v LL LL.length with
  | none => rw [hs] at hm; cases hm
  | some th =>
    obtain ⟨hO, hF⟩ := thirdOk_some hv hs
    refine ⟨v.toNat, by omega, by omega, by omega, ?_, ?_⟩
    · rw [hF, show ((v.toNat : Nat) : Int) = v by omega]; exact stT_TI hv.2 hs
    · rw [hF]; rw [hO] at h'; exact cmplB_iff.1 h'
theorem tripLp1_ok (th : Nat → Nat → Int) (V x y : Nat) (hV : V ≤ 9) (ht : TI V th) (hx : x < V + 1) (hy : y < V + 1) (hc : ∀ a, a < V → ∀ b, b < V → a ≠ b → 0 ≤ th a b) :
    ACalls Try.prog 141 [.i .u8 x, .i .u8 y, .ref (.ptr 0 0 0 0)] [.lv true [(0, .ints .u8 81 (tob th))]] (fun v ms ns => v = .i .u8 (tlG th x y) ∧ ms = [.lv true [(0, .ints .u8 81 (tob th))]] ∧ ns = []) := by
  refine acalls_of_body mix Try.func141 rfl fok141 (Nat.le_of_ble_eq_true rfl) ?_
  unfold abody
  by_cases x0 : x = 0
  · have x0i : (x : Int) = 0 := by omega
    have eg : IntKind.u8.wrap (0 + (y : Int)) = (tlG th x y : Int) := by
      unfold tlG; rw [if_pos x0, Int.zero_add]; exact wrap_u8n (by omega)
    simp only [absE, absL, absF, reduceCtorEq, ↓reduceIte, Nat.reduceEqDiff, Nat.reduceAdd, Nat.reduceLT, Nat.reduceMul, Nat.reduceSub, Nat.reduceLeDiff, Int.reduceLT, Int.reduceLE, Int.reduceEq, Option.isSome_some, implies_true, false_implies, Prod.mk.injEq, ne_eq, not_false_eq_true, not_true_eq_false, ge_iff_le, gt_iff_lt, Int.toNat_natCast, Int.reduceToNat, Int.cast_ofNat_Int, Int.natCast_nonneg, x0i, eg, Try.f141, Try.results141]
    exact ⟨[], by simp, by simp, by simp [renV], by simp [renBlk, renSegs, renSg], by simp⟩
  · have x0i : ¬(x : Int) = 0 := by omega
    by_cases y0 : y = 0
    · have y0i : (y : Int) = 0 := by omega
      have eg : IntKind.u8.wrap ((x : Int) + 0) = (tlG th x y : Int) := by
        unfold tlG; rw [if_neg x0, if_pos y0, Int.add_zero]; exact wrap_u8n (by omega)
      simp only [absE, absL, absF, reduceCtorEq, ↓reduceIte, Nat.reduceEqDiff, Nat.reduceAdd, Nat.reduceLT, Nat.reduceMul, Nat.reduceSub, Nat.reduceLeDiff, Int.reduceLT, Int.reduceLE, Int.reduceEq, Option.isSome_some, implies_true, false_implies, Prod.mk.injEq, ne_eq, not_false_eq_true, not_true_eq_false, ge_iff_le, gt_iff_lt, Int.toNat_natCast, Int.reduceToNat, Int.cast_ofNat_Int, Int.natCast_nonneg, x0i, y0i, eg, Try.f141, Try.results141]
      exact ⟨[], by simp, by simp, by simp [renV], by simp [renBlk, renSegs, renSg], by simp⟩
    · have y0i : ¬(y : Int) = 0 := by omega
      by_cases e : x = y
      · have ei : (x : Int) = (y : Int) := by omega
        have eg : tlG th x y = 0 := by unfold tlG; rw [if_neg x0, if_neg y0, if_pos e]
        simp only [absE, absL, absF, reduceCtorEq, ↓reduceIte, Nat.reduceEqDiff, Nat.reduceAdd, Nat.reduceLT, Nat.reduceMul, Nat.reduceSub, Nat.reduceLeDiff, Int.reduceLT, Int.reduceLE, Int.reduceEq, Option.isSome_some, implies_true, false_implies, Prod.mk.injEq, ne_eq, not_false_eq_true, not_true_eq_false, ge_iff_le, gt_iff_lt, Int.toNat_natCast, Int.reduceToNat, Int.cast_ofNat_Int, Int.natCast_nonneg, x0i, y0i, ei, Try.f141, Try.results141]
        exact ⟨[], by simp, by simp, by simp [renV, eg], by simp [renBlk, renSegs, renSg], by simp⟩
      · have ei : ¬(x : Int) = (y : Int) := by omega
        have w1 : IntKind.u8.wrap ((x : Int) - 1) = ((x - 1 : Nat) : Int) := by rw [show (x : Int) - 1 = ((x - 1 : Nat) : Int) by omega]; exact wrap_u8n (by omega)
        have w2 : IntKind.u8.wrap ((y : Int) - 1) = ((y - 1 : Nat) : Int) := by rw [show (y : Int) - 1 = ((y - 1 : Nat) : Int) by omega]; exact wrap_u8n (by omega)
        have i1 : ((x - 1 : Nat) : Int) < 9 := by omega
        have i2 : ((y - 1 : Nat) : Int) < 9 := by omega
        have z1 : (0 : Int) ≤ ((x - 1 : Nat) : Int) := by omega
        have z2 : (0 : Int) ≤ ((y - 1 : Nat) : Int) := by omega
        have u : 0 + (x - 1) * 9 + (y - 1) * 1 < 81 := by omega
        have h0 := hc (x - 1) (by omega) (y - 1) (by omega) (by omega)
        have hh := ht.hi (x - 1) (y - 1)
        have eg : (tob th).getD (0 + (x - 1) * 9 + (y - 1) * 1) 0 = th (x - 1) (y - 1) := by
          rw [show 0 + (x - 1) * 9 + (y - 1) * 1 = (x - 1) * 9 + (y - 1) by omega, tob_get (by omega) (by omega), if_pos h0]
        have eg2 : IntKind.u8.wrap (th (x - 1) (y - 1) + 1) = (tlG th x y : Int) := by
          unfold tlG; rw [if_neg x0, if_neg y0, if_neg e]
          rw [show th (x - 1) (y - 1) + 1 = (((th (x - 1) (y - 1)).toNat + 1 : Nat) : Int) by omega]; exact wrap_u8n (by omega)
        simp only [absE, absL, absF, reduceCtorEq, ↓reduceIte, Nat.reduceEqDiff, Nat.reduceAdd, Nat.reduceLT, Nat.reduceMul, Nat.reduceSub, Nat.reduceLeDiff, Int.reduceLT, Int.reduceLE, Int.reduceEq, Option.isSome_some, implies_true, false_implies, Prod.mk.injEq, ne_eq, not_false_eq_true, not_true_eq_false, ge_iff_le, gt_iff_lt, Int.toNat_natCast, Int.reduceToNat, Int.cast_ofNat_Int, Int.natCast_nonneg, x0i, y0i, ei, w1, w2, i1, i2, z1, z2, u, eg, eg2, Try.f141, Try.results141]
        exact ⟨[], by simp, by simp, by simp [renV], by simp [renBlk, renSegs, renSg], by simp⟩
theorem implTL_ok (v : Int) (LL : LLs) (hk : -2 ^ 63 ≤ v ∧ v < 2 ^ 63) (hl : ∀ i, i < LL.length → (at_ LL i).length ≤ 2 ^ 20) (hm : LL.length ≤ 2 ^ 20) :
    ACalls Try.prog 84 [.i .i64 v, .ref (.sl 0 0 0 0 LL.length 1)] (ms1 LL) (fun r ms ns => r = tlR v LL ∧ ms = ms1 LL ∧ ns = []) := by
  have hfin : (ms1 LL).map (renBlk (renFin [])) = ms1 LL := ms1_ren renFin_zero
  have hstv : StVs (ms1 LL) [.i .i64 v, .ref (.sl 0 0 0 0 LL.length 1)] := fun σ hσ => by simp [renVs, renV, renAt, renSegs, renSg, hσ 0 (by rw [ms1_len]; omega)]
  refine acalls_of_body mix Try.func84 rfl fok84 (Nat.le_of_ble_eq_true rfl) ?_
  unfold abody
  simp only [absE, absL, absF, reduceCtorEq, ↓reduceIte, Nat.reduceEqDiff, Nat.reduceAdd, Nat.reduceLT, Nat.reduceMul, Nat.reduceSub, Nat.reduceLeDiff, Int.reduceLT, Int.reduceLE, Int.reduceEq, Option.isSome_some, implies_true, false_implies, Prod.mk.injEq, ne_eq, not_false_eq_true, not_true_eq_false, ge_iff_le, gt_iff_lt, Int.toNat_natCast, Int.reduceToNat, Int.cast_ofNat_Int, Int.natCast_nonneg, Try.f84]
  refine CallsVia.all (R := fun r ns => ∃ X : List Int, X.length = 81 ∧ (thirdOk v LL = true → X = tob (thirdF v LL)) ∧ r = .tup [.agg [(0, .ints .u8 81 X)], .b (thirdOk v LL)] ∧ ns = []) ms1_live ms1_st hstv ((third_ok v LL hl hm).mono fun r ms ns ⟨X, a, b, c, d, e⟩ => ⟨⟨X, a, b, c, e⟩, d⟩) ?_
  rintro _ _ ups rd ⟨X, hX, hXe, rfl, rfl⟩ hu
  simp only [newUps, List.append_nil, renV, renVs, renSegs, renSg, hu]
  cases h1 : thirdOk v LL
  · have e := tlR_no h1
    simp only [absE, absL, absF, reduceCtorEq, ↓reduceIte, Nat.reduceEqDiff, Nat.reduceAdd, Nat.reduceLT, Nat.reduceMul, Nat.reduceSub, Nat.reduceLeDiff, Int.reduceLT, Int.reduceLE, Int.reduceEq, Option.isSome_some, implies_true, false_implies, Prod.mk.injEq, ne_eq, not_false_eq_true, not_true_eq_false, ge_iff_le, gt_iff_lt, Int.toNat_natCast, Int.reduceToNat, Int.cast_ofNat_Int, Int.natCast_nonneg, Try.results84]
    repeat first | refine And.intro (by decide +kernel) ?_ | refine And.intro (by omega) ?_
    exact ⟨[], by simp, by simp, by simp [renV, renVs, renSegs, renSg, e], hfin, by simp⟩
  · obtain ⟨V, rfl, V1, V9, hTI, hc⟩ := third_facts h1
    rw [hXe h1]
    have e := tlR_yes h1
    have w := wrap_i64s (show V < 2 ^ 62 by omega)
    simp only [absE, absL, absF, reduceCtorEq, ↓reduceIte, Nat.reduceEqDiff, Nat.reduceAdd, Nat.reduceLT, Nat.reduceMul, Nat.reduceSub, Nat.reduceLeDiff, Int.reduceLT, Int.reduceLE, Int.reduceEq, Option.isSome_some, implies_true, false_implies, Prod.mk.injEq, ne_eq, not_false_eq_true, not_true_eq_false, ge_iff_le, gt_iff_lt, Int.toNat_natCast, Int.reduceToNat, Int.cast_ofNat_Int, Int.natCast_nonneg, w]
    refine CallsVia.args [(9, 0)] (made1_ok (V + 1) (by omega) 141 (tlG (thirdF V LL)) [(0, .ints .u8 81 (tob (thirdF V LL)))] (fun ρ => by simp [renSegs, renSg]) (fun x y hx hy => tripLp1_ok (thirdF V LL) V x y V9 hTI hx hy hc)) (by simp) (by simp [Mem.get, assoc]) rfl rfl ?_
    rintro _ _ _ ⟨rfl, rfl, rfl⟩
    simp only [absE, absL, absF, reduceCtorEq, ↓reduceIte, Nat.reduceEqDiff, Nat.reduceAdd, Nat.reduceLT, Nat.reduceMul, Nat.reduceSub, Nat.reduceLeDiff, Int.reduceLT, Int.reduceLE, Int.reduceEq, Option.isSome_some, implies_true, false_implies, Prod.mk.injEq, ne_eq, not_false_eq_true, not_true_eq_false, ge_iff_le, gt_iff_lt, Int.toNat_natCast, Int.reduceToNat, Int.cast_ofNat_Int, Int.natCast_nonneg, Try.results84]
    repeat first | refine And.intro (by decide +kernel) ?_ | refine And.intro (by omega) ?_
    exact ⟨[], by simp, by simp, by simp [renV, renVs, renSegs, renSg, e], hfin, by simp⟩
theorem tl_wrap {th : Nat → Nat → Int} {V x y : Nat} (hV : V ≤ 9) (ht : TI V th) : x ≠ y → 0 ≤ th x y → IntKind.u8.wrap (th x y) = ((tsG th x y : Nat) : Int) := fun hne h0 => by
  have hh := ht.hi x y
  unfold tsG; rw [if_neg hne, show th x y = (((th x y).toNat : Nat) : Int) by omega]
  exact wrap_u8n (by omega)
def tq (F : Nat → Nat → Nat) : List Int := (List.range 100).map fun p => (F (p / 10) (p % 10) : Nat)
def qU (F : Nat → Nat → Nat) (a b z : Nat) : Nat → Nat → Nat := fun i j => if i = a ∧ j = b then z else F i j
theorem tq_set {F : Nat → Nat → Nat} {a b z : Nat} (hb : b < 10) : (tq F).set (0 + a * 10 + b * 1) (z : Int) = tq (qU F a b z) := by
  apply List.ext_getElem
  · simp [tq]
  · intro p h1 h2
    rw [List.getElem_set]
    simp only [tq, List.getElem_map, List.getElem_range, qU]
    by_cases e : 0 + a * 10 + b * 1 = p
    · rw [if_pos e, if_pos (by omega)]
    · rw [if_neg e, if_neg (by omega)]
theorem tq_congr {F G : Nat → Nat → Nat} (h : ∀ a b, a < 10 → b < 10 → F a b = G a b) : tq F = tq G := by
  unfold tq
  apply List.map_congr_left
  intro p hp
  rw [List.mem_range] at hp
  rw [h _ _ (by omega) (by omega)]
theorem tq_zero : tq (fun _ _ => 0) = List.replicate 100 0 := by decide +kernel
theorem tq_mkT {g F : Nat → Nat → Nat} {N : Nat} (hN : N ≤ 10) (h : ∀ a b, a < 10 → b < 10 → F a b = if a < N ∧ b < N then g a b else 0) : tq F = mkT g N N := by
  refine table_ext (by simp [tq]) mkT_len fun a b ha hb => ?_
  rw [mkT_get hN hb hN]
  have e : (tq F).getD (a * 10 + b) 0 = (F a b : Nat) := by
    simp only [tq]
    rw [List.getD_eq_getElem?_getD, List.getElem?_map, List.getElem?_range (by omega)]
    simp only [Option.map_some, Option.getD_some]
    rw [show (a * 10 + b) / 10 = a by omega, show (a * 10 + b) % 10 = b by omega]
  rw [e, h a b ha hb]
  split <;> simp
/-- the border after k steps -/
def bdF (k : Nat) : Nat → Nat → Nat := fun i j => if i = 0 ∧ j < k then j else if j = 0 ∧ i < k then i else 0
/-- the inside, row x up to y -/
def inF (th : Nat → Nat → Int) (V x y : Nat) : Nat → Nat → Nat := fun i j => if i = 0 ∧ j ≤ V then j else if j = 0 ∧ i ≤ V then i else if i = j then 0 else if (i ≤ x ∧ j ≤ V) ∨ (i = x + 1 ∧ 1 ≤ j ∧ j ≤ y) then (th (i - 1) (j - 1)).toNat + 1 else 0
theorem specTL_ok (v : Int) (LL : LLs) (hk : -2 ^ 63 ≤ v ∧ v < 2 ^ 63) (hl : ∀ i, i < LL.length → (at_ LL i).length ≤ 2 ^ 20) (hm : LL.length ≤ 2 ^ 20) :
    ACalls Try.prog 137 [.i .i64 v, .ref (.sl 0 0 0 0 LL.length 1)] (ms1 LL) (fun r ms ns => r = tlR v LL ∧ ms = ms1 LL ∧ ns = []) := by
  have hst : ∀ σ : Pairs, (ms1 LL).map (renBlk (renTo σ)) = ms1 LL := fun σ => ms1_ren renTo_zero
  have hfin : (ms1 LL).map (renBlk (renFin [])) = ms1 LL := ms1_ren renFin_zero
  have hstv : StVs (ms1 LL) [.i .i64 v, .ref (.sl 0 0 0 0 LL.length 1)] := fun σ hσ => by simp [renVs, renV, renAt, renSegs, renSg, hσ 0 (by rw [ms1_len]; omega)]
  refine acalls_of_body mix Try.func137 rfl fok137 (Nat.le_of_ble_eq_true rfl) ?_
  unfold abody
  simp only [absE, absL, absF, reduceCtorEq, ↓reduceIte, Nat.reduceEqDiff, Nat.reduceAdd, Nat.reduceLT, Nat.reduceMul, Nat.reduceSub, Nat.reduceLeDiff, Int.reduceLT, Int.reduceLE, Int.reduceEq, Option.isSome_some, implies_true, false_implies, Prod.mk.injEq, ne_eq, not_false_eq_true, not_true_eq_false, ge_iff_le, gt_iff_lt, Int.toNat_natCast, Int.reduceToNat, Int.cast_ofNat_Int, Int.natCast_nonneg, Try.f137]
  refine CallsVia.all (R := fun r ns => ∃ X : List Int, X.length = 81 ∧ (thirdOk v LL = true → X = tl (thirdF v LL)) ∧ r = .tup [.agg [(0, .ints .i64 81 X)], .b (thirdOk v LL)] ∧ ns = []) ms1_live ms1_st hstv ((l08Third_ok v LL hl hm).mono fun r ms ns ⟨X, a, b, c, d, e⟩ => ⟨⟨X, a, b, c, e⟩, d⟩) ?_
  rintro _ _ ups rd ⟨X, hX, hXe, rfl, rfl⟩ hu
  simp only [newUps, List.append_nil, renV, renVs, renSegs, renSg, hu]
  cases h1 : thirdOk v LL
  · have e := tlR_no h1
    simp only [absE, absL, absF, reduceCtorEq, ↓reduceIte, Nat.reduceEqDiff, Nat.reduceAdd, Nat.reduceLT, Nat.reduceMul, Nat.reduceSub, Nat.reduceLeDiff, Int.reduceLT, Int.reduceLE, Int.reduceEq, Option.isSome_some, implies_true, false_implies, Prod.mk.injEq, ne_eq, not_false_eq_true, not_true_eq_false, ge_iff_le, gt_iff_lt, Int.toNat_natCast, Int.reduceToNat, Int.cast_ofNat_Int, Int.natCast_nonneg, Try.results137]
    repeat first | refine And.intro (by decide +kernel) ?_ | refine And.intro (by omega) ?_
    exact ⟨[], by simp, by simp, by simp [renV, renVs, renSegs, renSg, e], hfin, by simp⟩
  · obtain ⟨V, rfl, V1, V9, hTI, hc⟩ := third_facts h1
    rw [hXe h1]
    have e := tlR_yes h1
    have wV := wrap_i64s (show V < 2 ^ 62 by omega)
    generalize thirdF V LL = th at e hTI hc ⊢
    simp only [absE, absL, absF, reduceCtorEq, ↓reduceIte, Nat.reduceEqDiff, Nat.reduceAdd, Nat.reduceLT, Nat.reduceMul, Nat.reduceSub, Nat.reduceLeDiff, Int.reduceLT, Int.reduceLE, Int.reduceEq, Option.isSome_some, implies_true, false_implies, Prod.mk.injEq, ne_eq, not_false_eq_true, not_true_eq_false, ge_iff_le, gt_iff_lt, Int.toNat_natCast, Int.reduceToNat, Int.cast_ofNat_Int, Int.natCast_nonneg, wV]
    refine awpLoop.intro (fun x : Nat => [(0, .i .i64 V), (1, .ref (.sl 0 0 0 0 LL.length 1)), (4, .ref (.ptr 1 0 0 0)), (6, .ref (.ptr 9 0 0 0)), (8, .ref (.ptr 17 0 0 0)), (9, .i .i64 x)]) (fun x => ⟨ms1 LL, [((1, 0), .lv true (sqS 0 (List.replicate 100 0))), ((9, 0), .lv true ([(0, .ints .i64 81 (tl th))])), ((17, 0), .lv true (sqS ((V + 1 : Nat) : Int) (tq (bdF x))))], 100⟩)
      (fun x => x ≤ V + 1) (fun x => V + 1 - x) 0 (by omega) ⟨[((1,0),(1,0)), ((9,0),(9,0)), ((17,0),(17,0))], rfl, ?_, ?_⟩ ?_
    · simp [wkEnv, lk, renV, renAt, renTo]
    · have e0 : tq (bdF 0) = List.replicate 100 0 := by rw [← tq_zero]; exact tq_congr fun a b _ _ => by unfold bdF; simp
      simp only [wkMem, hst, e0]; simp [wkLoc, Mem.get, assoc, renBlk, renSegs, renSg]
    · intro x hx
      by_cases h : (x : Int) ≤ V
      · have w := wrap_i64s (show x < 2 ^ 62 by omega)
        have w8 := wrap_u8n (show x < 256 by omega)
        have j1 : (x : Int) < 10 := by omega
        have u1 : 0 + 0 * 10 + x * 1 + 1 ≤ 100 := by omega
        have u2 : 0 + x * 10 + 0 * 1 + 1 ≤ 100 := by omega
        have s1 := tq_set (F := bdF x) (a := 0) (b := x) (z := x) (by omega)
        have s2 : (tq (qU (bdF x) 0 x x)).set (0 + x * 10 + 0) (x : Int) = tq (bdF (x + 1)) := by
          rw [show 0 + x * 10 + 0 = 0 + x * 10 + 0 * 1 by omega, tq_set (by omega)]
          refine tq_congr fun a b ha hb => ?_
          unfold qU bdF
          repeat' split
          all_goals omega
        simp only [absE, absL, absF, reduceCtorEq, ↓reduceIte, Nat.reduceEqDiff, Nat.reduceAdd, Nat.reduceLT, Nat.reduceMul, Nat.reduceSub, Nat.reduceLeDiff, Int.reduceLT, Int.reduceLE, Int.reduceEq, Option.isSome_some, implies_true, false_implies, Prod.mk.injEq, ne_eq, not_false_eq_true, not_true_eq_false, ge_iff_le, gt_iff_lt, Int.toNat_natCast, Int.reduceToNat, Int.cast_ofNat_Int, Int.natCast_nonneg, h, w8, j1, u1, u2, s1, s2]
        refine LoopNext.intro (x + 1) (by omega) (by omega) ⟨[((1,0),(1,0)), ((9,0),(9,0)), ((17,0),(17,0))], rfl, ?_, ?_⟩
        · simp [wkEnv, lk, renV, renAt, renTo, w]
        · simp only [wkMem, hst]; simp [wkLoc, Mem.get, assoc, renBlk, renSegs, renSg]
      · have hx1 : x = V + 1 := by omega
        subst hx1
        have e0 : tq (bdF (V + 1)) = tq (inF th V 0 0) := tq_congr fun a b _ _ => by
          unfold bdF inF
          repeat' split
          all_goals omega
        simp only [absE, absL, absF, reduceCtorEq, ↓reduceIte, Nat.reduceEqDiff, Nat.reduceAdd, Nat.reduceLT, Nat.reduceMul, Nat.reduceSub, Nat.reduceLeDiff, Int.reduceLT, Int.reduceLE, Int.reduceEq, Option.isSome_some, implies_true, false_implies, Prod.mk.injEq, ne_eq, not_false_eq_true, not_true_eq_false, ge_iff_le, gt_iff_lt, Int.toNat_natCast, Int.reduceToNat, Int.cast_ofNat_Int, Int.natCast_nonneg, h, e0]
        refine awpLoop.intro (fun x : Nat => [(0, .i .i64 V), (1, .ref (.sl 0 0 0 0 LL.length 1)), (4, .ref (.ptr 1 0 0 0)), (6, .ref (.ptr 9 0 0 0)), (8, .ref (.ptr 17 0 0 0)), (10, .i .i64 x)]) (fun x => ⟨ms1 LL, [((1, 0), .lv true (sqS 0 (List.replicate 100 0))), ((9, 0), .lv true ([(0, .ints .i64 81 (tl th))])), ((17, 0), .lv true (sqS ((V + 1 : Nat) : Int) (tq (inF th V x 0))))], 200⟩)
          (fun x => x ≤ V) (fun x => V - x) 0 (by omega) ⟨[((1,0),(1,0)), ((9,0),(9,0)), ((17,0),(17,0))], rfl, ?_, ?_⟩ ?_
        · simp [wkEnv, lk, renV, renAt, renTo]
        · simp only [wkMem, hst]; simp [wkLoc, Mem.get, assoc, renBlk, renSegs, renSg]
        · intro x hx
          by_cases h : (x : Int) < V
          · have w := wrap_i64s (show x < 2 ^ 62 by omega)
            simp only [absE, absL, absF, reduceCtorEq, ↓reduceIte, Nat.reduceEqDiff, Nat.reduceAdd, Nat.reduceLT, Nat.reduceMul, Nat.reduceSub, Nat.reduceLeDiff, Int.reduceLT, Int.reduceLE, Int.reduceEq, Option.isSome_some, implies_true, false_implies, Prod.mk.injEq, ne_eq, not_false_eq_true, not_true_eq_false, ge_iff_le, gt_iff_lt, Int.toNat_natCast, Int.reduceToNat, Int.cast_ofNat_Int, Int.natCast_nonneg, h]
            refine awpLoop.intro (fun y : Nat => [(0, .i .i64 V), (1, .ref (.sl 0 0 0 0 LL.length 1)), (4, .ref (.ptr 1 0 0 0)), (6, .ref (.ptr 9 0 0 0)), (8, .ref (.ptr 17 0 0 0)), (10, .i .i64 x), (11, .i .i64 y)]) (fun y => ⟨ms1 LL, [((1, 0), .lv true (sqS 0 (List.replicate 100 0))), ((9, 0), .lv true ([(0, .ints .i64 81 (tl th))])), ((17, 0), .lv true (sqS ((V + 1 : Nat) : Int) (tq (inF th V x y))))], 300⟩)
              (fun y => y ≤ V) (fun y => V - y) 0 (by omega) ⟨[((1,0),(1,0)), ((9,0),(9,0)), ((17,0),(17,0))], rfl, ?_, ?_⟩ ?_
            · simp [wkEnv, lk, renV, renAt, renTo]
            · simp only [wkMem, hst]; simp [wkLoc, Mem.get, assoc, renBlk, renSegs, renSg]
            · intro y hy
              by_cases h' : (y : Int) < V
              · have w' := wrap_i64s (show y < 2 ^ 62 by omega)
                by_cases e1 : x = y
                · have e1i : (x : Int) = (y : Int) := by omega
                  have es : tq (inF th V x (y + 1)) = tq (inF th V x y) := tq_congr fun a b _ _ => by
                    unfold inF
                    repeat' split
                    all_goals first | rfl | omega
                  simp only [absE, absL, absF, reduceCtorEq, ↓reduceIte, Nat.reduceEqDiff, Nat.reduceAdd, Nat.reduceLT, Nat.reduceMul, Nat.reduceSub, Nat.reduceLeDiff, Int.reduceLT, Int.reduceLE, Int.reduceEq, Option.isSome_some, implies_true, false_implies, Prod.mk.injEq, ne_eq, not_false_eq_true, not_true_eq_false, ge_iff_le, gt_iff_lt, Int.toNat_natCast, Int.reduceToNat, Int.cast_ofNat_Int, Int.natCast_nonneg, h', e1i]
                  refine LoopNext.intro (y + 1) (by omega) (by omega) ⟨[((1,0),(1,0)), ((9,0),(9,0)), ((17,0),(17,0))], rfl, ?_, ?_⟩
                  · simp [wkEnv, lk, renV, renAt, renTo, w', e1i]
                  · simp only [wkMem, hst, es]; simp [wkLoc, Mem.get, assoc, renBlk, renSegs, renSg]
                · have e1i : ¬(x : Int) = (y : Int) := by omega
                  have hh := hTI.hi x y
                  have h0 := hc x (by omega) y (by omega) e1
                  have i1 : (x : Int) < 9 := by omega
                  have i2 : (y : Int) < 9 := by omega
                  have j1 : ((x + 1 : Nat) : Int) < 10 := by omega
                  have j2 : ((y + 1 : Nat) : Int) < 10 := by omega
                  have z1 : (0 : Int) ≤ ((x + 1 : Nat) : Int) := by omega
                  have z2 : (0 : Int) ≤ ((y + 1 : Nat) : Int) := by omega
                  have u : 0 + x * 9 + y * 1 < 81 := by omega
                  have u2 : 0 + (x + 1) * 10 + (y + 1) * 1 + 1 ≤ 100 := by omega
                  have gc : (tl th).getD (0 + x * 9 + y * 1) 0 = th x y := by
                    rw [show 0 + x * 9 + y * 1 = x * 9 + y by omega, tl_get (by omega) (by omega)]
                  have wt : IntKind.i64.wrap (th x y + 1) = (((th x y).toNat + 1 : Nat) : Int) := by rw [show th x y + 1 = (((th x y).toNat + 1 : Nat) : Int) by omega]; exact wrap_i64n (by omega)
                  have w8 := wrap_u8n (show (th x y).toNat + 1 < 256 by omega)
                  have es : (tq (inF th V x y)).set (0 + (x + 1) * 10 + (y + 1) * 1) (((th x y).toNat + 1 : Nat) : Int) = tq (inF th V x (y + 1)) := by
                    rw [tq_set (by omega)]
                    refine tq_congr fun a b ha hb => ?_
                    unfold qU
                    by_cases ep : a = x + 1 ∧ b = y + 1
                    · obtain ⟨rfl, rfl⟩ := ep
                      rw [if_pos ⟨rfl, rfl⟩]
                      unfold inF
                      rw [if_neg (by omega), if_neg (by omega), if_neg (by omega), if_pos (by omega), Nat.add_sub_cancel, Nat.add_sub_cancel]
                    · rw [if_neg ep]
                      unfold inF
                      repeat' split
                      all_goals first | rfl | omega
                  simp only [absE, absL, absF, reduceCtorEq, ↓reduceIte, Nat.reduceEqDiff, Nat.reduceAdd, Nat.reduceLT, Nat.reduceMul, Nat.reduceSub, Nat.reduceLeDiff, Int.reduceLT, Int.reduceLE, Int.reduceEq, Option.isSome_some, implies_true, false_implies, Prod.mk.injEq, ne_eq, not_false_eq_true, not_true_eq_false, ge_iff_le, gt_iff_lt, Int.toNat_natCast, Int.reduceToNat, Int.cast_ofNat_Int, Int.natCast_nonneg, h', e1i, w, w', i1, i2, j1, j2, z1, z2, u, u2, gc, wt, w8, es]
                  repeat first | refine And.intro (by decide +kernel) ?_ | refine And.intro (by omega) ?_
                  refine LoopNext.intro (y + 1) (by omega) (by omega) ⟨[((1,0),(1,0)), ((9,0),(9,0)), ((17,0),(17,0))], rfl, ?_, ?_⟩
                  · simp [wkEnv, lk, renV, renAt, renTo, w']
                  · simp only [wkMem, hst]; simp [wkLoc, Mem.get, assoc, renBlk, renSegs, renSg]
              · have hyN : y = V := by omega
                subst hyN
                have es : tq (inF th y x y) = tq (inF th y (x + 1) 0) := tq_congr fun a b _ _ => by
                  unfold inF
                  repeat' split
                  all_goals first | rfl | omega
                simp only [absE, absL, absF, reduceCtorEq, ↓reduceIte, Nat.reduceEqDiff, Nat.reduceAdd, Nat.reduceLT, Nat.reduceMul, Nat.reduceSub, Nat.reduceLeDiff, Int.reduceLT, Int.reduceLE, Int.reduceEq, Option.isSome_some, implies_true, false_implies, Prod.mk.injEq, ne_eq, not_false_eq_true, not_true_eq_false, ge_iff_le, gt_iff_lt, Int.toNat_natCast, Int.reduceToNat, Int.cast_ofNat_Int, Int.natCast_nonneg, h', w, es]
                refine LoopNext.intro (x + 1) (by omega) (by omega) ⟨[((1,0),(1,0)), ((9,0),(9,0)), ((17,0),(17,0))], rfl, ?_, ?_⟩
                · simp [wkEnv, lk, renV, renAt, renTo]
                · simp only [wkMem, hst]; simp [wkLoc, Mem.get, assoc, renBlk, renSegs, renSg]
          · have hxN : x = V := by omega
            subst hxN
            have es : tq (inF th x x 0) = mkT (tlG th) (x + 1) (x + 1) := tq_mkT (by omega) fun a b _ _ => by
              unfold inF tlG
              repeat' split
              all_goals first | rfl | omega
            simp only [absE, absL, absF, reduceCtorEq, ↓reduceIte, Nat.reduceEqDiff, Nat.reduceAdd, Nat.reduceLT, Nat.reduceMul, Nat.reduceSub, Nat.reduceLeDiff, Int.reduceLT, Int.reduceLE, Int.reduceEq, Option.isSome_some, implies_true, false_implies, Prod.mk.injEq, ne_eq, not_false_eq_true, not_true_eq_false, ge_iff_le, gt_iff_lt, Int.toNat_natCast, Int.reduceToNat, Int.cast_ofNat_Int, Int.natCast_nonneg, h, es, Try.results137]
            exact ⟨[], by simp, by simp, by simp [renV, renVs, renSegs, renSg, e], hfin, by simp⟩
theorem ts_form (v : Int) (LL : LLs) (hk : -2 ^ 63 ≤ v ∧ v < 2 ^ 63) (hl : ∀ i, i < LL.length → (at_ LL i).length ≤ 2 ^ 20) (hm : LL.length ≤ 2 ^ 20) : ∃ k s e, s.length = 100 ∧ tsR v LL = .tup [.agg (sqS k s), .i .i64 e] := resSq_form _ _ mkT_len
theorem tl_form (v : Int) (LL : LLs) (hk : -2 ^ 63 ≤ v ∧ v < 2 ^ 63) (hl : ∀ i, i < LL.length → (at_ LL i).length ≤ 2 ^ 20) (hm : LL.length ≤ 2 ^ 20) : ∃ k s e, s.length = 100 ∧ tlR v LL = .tup [.agg (sqS k s), .i .i64 e] := resSq_form _ _ mkT_len

end Go.Proofs.Ytoccbgffekhcaaa
