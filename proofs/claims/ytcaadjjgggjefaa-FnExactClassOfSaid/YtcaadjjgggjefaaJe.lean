/-
Contracts of functions of the given program, by the abstract walk.
-/
import Derived.Test.YtcaadjjgggjefaaAbsY
import Derived.Test.YtcaadjjgggjefaaHc
import Derived.Test.YtcaadjjgggjefaaDp
namespace Go.Proofs.Ytcaadjjgggjefaa
open Go Go.Abs
set_option linter.unusedVariables false
set_option linter.unusedSectionVars false
set_option linter.unusedSimpArgs false
set_option maxRecDepth 100000
def comN (N : Nat) (t : List Int) (x y : Nat) : Nat := fnd (cl t (cl t y x)) (cl t x y) N
def ascN (N : Nat) (t : List Int) (x y z : Nat) : Nat := fnd (cl t (cl t x (cl t y z))) (cl t (cl t x y) z) N
theorem comN_lt {N : Nat} {t : List Int} {x y : Nat} (hs : SqP N t) (hx : x < N) (hy : y < N) : comN N t x y < N := (hs.rowP (hs.cl_lt hy hx)).fnd_lt hs.le (hs.cl_lt hx hy)
theorem ascN_lt {N : Nat} {t : List Int} {x y z : Nat} (hs : SqP N t) (hx : x < N) (hy : y < N) (hz : z < N) : ascN N t x y z < N := (hs.rowP (hs.cl_lt hx (hs.cl_lt hy hz))).fnd_lt hs.le (hs.cl_lt (hs.cl_lt hx hy) hz)
theorem implCom_ok (N : Nat) (t : List Int) (x y : Nat) (ht : Bytes 100 t) (hs : SqP N t) (hx : x < N) (hy : y < N) :
    ACalls Try.prog 141 [.agg (sqS N t), .i .u8 x, .i .u8 y] [] (fun v ms ns => v = .i .u8 (comN N t x y) ∧ ms = [] ∧ ns = []) := by
  have hN := hs.le
  have i1 : (x : Int) < 10 := by omega
  have i2 : (y : Int) < 10 := by omega
  have u1 : 0 + x * 10 + y * 1 < 100 := by omega
  have u2 : 0 + y * 10 + x * 1 < 100 := by omega
  have k1 := sq_colget ht x y
  have k2 := sq_colget ht y x
  refine acalls_of_body mix Try.func141 rfl fok141 (Nat.le_of_ble_eq_true rfl) ?_
  unfold abody
  simp only [absE, absL, absF, reduceCtorEq, ↓reduceIte, Nat.reduceEqDiff, Nat.reduceAdd, Nat.reduceLT, Nat.reduceMul, Nat.reduceSub, Nat.reduceLeDiff, Int.reduceLT, Int.reduceLE, Int.reduceEq, Option.isSome_some, implies_true, false_implies, Prod.mk.injEq, ne_eq, not_false_eq_true, not_true_eq_false, ge_iff_le, gt_iff_lt, Int.toNat_natCast, Int.reduceToNat, Int.cast_ofNat_Int, Int.natCast_nonneg, i1, i2, u1, u2, k1, k2, Try.f141]
  repeat refine And.intro (by decide +kernel) ?_
  refine CallsX.none (implLeft_ok N t (cl t y x) (cl t x y) ht hs (hs.cl_lt hy hx) (hs.cl_lt hx hy)) ?_
  simp only [absE, absL, absF, reduceCtorEq, ↓reduceIte, Nat.reduceEqDiff, Nat.reduceAdd, Nat.reduceLT, Nat.reduceMul, Nat.reduceSub, Nat.reduceLeDiff, Int.reduceLT, Int.reduceLE, Int.reduceEq, Option.isSome_some, implies_true, false_implies, Prod.mk.injEq, ne_eq, not_false_eq_true, not_true_eq_false, ge_iff_le, gt_iff_lt, Int.toNat_natCast, Int.reduceToNat, Int.cast_ofNat_Int, Int.natCast_nonneg, Try.results141]
  repeat refine And.intro (by decide +kernel) ?_
  exact ⟨[], by simp, by simp, by simp [renV, renVs, renSegs, renSg, comN]⟩
theorem specCom_ok (N : Nat) (t : List Int) (x y : Nat) (ht : Bytes 100 t) (hs : SqP N t) (hx : x < N) (hy : y < N) :
    ACalls Try.prog 135 [.agg (sqS N t), .i .u8 x, .i .u8 y] [] (fun v ms ns => v = .i .u8 (comN N t x y) ∧ ms = [] ∧ ns = []) := by
  have hN := hs.le
  have i1 : (x : Int) < 10 := by omega
  have i2 : (y : Int) < 10 := by omega
  have u1 : 0 + x * 10 + y * 1 < 100 := by omega
  have u2 : 0 + y * 10 + x * 1 < 100 := by omega
  have k1 := sq_colget ht x y
  have k2 := sq_colget ht y x
  refine acalls_of_body mix Try.func135 rfl fok135 (Nat.le_of_ble_eq_true rfl) ?_
  unfold abody
  simp only [absE, absL, absF, reduceCtorEq, ↓reduceIte, Nat.reduceEqDiff, Nat.reduceAdd, Nat.reduceLT, Nat.reduceMul, Nat.reduceSub, Nat.reduceLeDiff, Int.reduceLT, Int.reduceLE, Int.reduceEq, Option.isSome_some, implies_true, false_implies, Prod.mk.injEq, ne_eq, not_false_eq_true, not_true_eq_false, ge_iff_le, gt_iff_lt, Int.toNat_natCast, Int.reduceToNat, Int.cast_ofNat_Int, Int.natCast_nonneg, i1, i2, u1, u2, k1, k2, Try.f135]
  repeat refine And.intro (by decide +kernel) ?_
  refine CallsX.none (specLeft_ok N t (cl t y x) (cl t x y) ht hs (hs.cl_lt hy hx) (hs.cl_lt hx hy)) ?_
  simp only [absE, absL, absF, reduceCtorEq, ↓reduceIte, Nat.reduceEqDiff, Nat.reduceAdd, Nat.reduceLT, Nat.reduceMul, Nat.reduceSub, Nat.reduceLeDiff, Int.reduceLT, Int.reduceLE, Int.reduceEq, Option.isSome_some, implies_true, false_implies, Prod.mk.injEq, ne_eq, not_false_eq_true, not_true_eq_false, ge_iff_le, gt_iff_lt, Int.toNat_natCast, Int.reduceToNat, Int.cast_ofNat_Int, Int.natCast_nonneg, Try.results135]
  repeat refine And.intro (by decide +kernel) ?_
  exact ⟨[], by simp, by simp, by simp [renV, renVs, renSegs, renSg, comN]⟩
theorem implAsc_ok (N : Nat) (t : List Int) (x y z : Nat) (ht : Bytes 100 t) (hs : SqP N t) (hx : x < N) (hy : y < N) (hz : z < N) :
    ACalls Try.prog 142 [.agg (sqS N t), .i .u8 x, .i .u8 y, .i .u8 z] [] (fun v ms ns => v = .i .u8 (ascN N t x y z) ∧ ms = [] ∧ ns = []) := by
  have hN := hs.le
  have j1 := hs.cl_lt hx hy
  have j2 := hs.cl_lt hy hz
  have i1 : (x : Int) < 10 := by omega
  have i2 : (y : Int) < 10 := by omega
  have i3 : (z : Int) < 10 := by omega
  have i4 : (cl t x y : Int) < 10 := by omega
  have i5 : (cl t y z : Int) < 10 := by omega
  have u1 : 0 + x * 10 + y * 1 < 100 := by omega
  have u2 : 0 + y * 10 + z * 1 < 100 := by omega
  have u3 : 0 + cl t x y * 10 + z * 1 < 100 := by omega
  have u4 : 0 + x * 10 + cl t y z * 1 < 100 := by omega
  have k1 := sq_colget ht x y
  have k2 := sq_colget ht y z
  have k3 := sq_colget ht (cl t x y) z
  have k4 := sq_colget ht x (cl t y z)
  refine acalls_of_body mix Try.func142 rfl fok142 (Nat.le_of_ble_eq_true rfl) ?_
  unfold abody
  simp only [absE, absL, absF, reduceCtorEq, ↓reduceIte, Nat.reduceEqDiff, Nat.reduceAdd, Nat.reduceLT, Nat.reduceMul, Nat.reduceSub, Nat.reduceLeDiff, Int.reduceLT, Int.reduceLE, Int.reduceEq, Option.isSome_some, implies_true, false_implies, Prod.mk.injEq, ne_eq, not_false_eq_true, not_true_eq_false, ge_iff_le, gt_iff_lt, Int.toNat_natCast, Int.reduceToNat, Int.cast_ofNat_Int, Int.natCast_nonneg, i1, i2, i3, i4, i5, u1, u2, u3, u4, k1, k2, k3, k4, Try.f142]
  repeat refine And.intro (by decide +kernel) ?_
  refine CallsX.none (implLeft_ok N t (cl t x (cl t y z)) (cl t (cl t x y) z) ht hs (hs.cl_lt hx j2) (hs.cl_lt j1 hz)) ?_
  simp only [absE, absL, absF, reduceCtorEq, ↓reduceIte, Nat.reduceEqDiff, Nat.reduceAdd, Nat.reduceLT, Nat.reduceMul, Nat.reduceSub, Nat.reduceLeDiff, Int.reduceLT, Int.reduceLE, Int.reduceEq, Option.isSome_some, implies_true, false_implies, Prod.mk.injEq, ne_eq, not_false_eq_true, not_true_eq_false, ge_iff_le, gt_iff_lt, Int.toNat_natCast, Int.reduceToNat, Int.cast_ofNat_Int, Int.natCast_nonneg, Try.results142]
  repeat refine And.intro (by decide +kernel) ?_
  exact ⟨[], by simp, by simp, by simp [renV, renVs, renSegs, renSg, ascN]⟩
theorem specAsc_ok (N : Nat) (t : List Int) (x y z : Nat) (ht : Bytes 100 t) (hs : SqP N t) (hx : x < N) (hy : y < N) (hz : z < N) :
    ACalls Try.prog 136 [.agg (sqS N t), .i .u8 x, .i .u8 y, .i .u8 z] [] (fun v ms ns => v = .i .u8 (ascN N t x y z) ∧ ms = [] ∧ ns = []) := by
  have hN := hs.le
  have j1 := hs.cl_lt hx hy
  have j2 := hs.cl_lt hy hz
  have i1 : (x : Int) < 10 := by omega
  have i2 : (y : Int) < 10 := by omega
  have i3 : (z : Int) < 10 := by omega
  have i4 : (cl t x y : Int) < 10 := by omega
  have i5 : (cl t y z : Int) < 10 := by omega
  have u1 : 0 + x * 10 + y * 1 < 100 := by omega
  have u2 : 0 + y * 10 + z * 1 < 100 := by omega
  have u3 : 0 + cl t x y * 10 + z * 1 < 100 := by omega
  have u4 : 0 + x * 10 + cl t y z * 1 < 100 := by omega
  have k1 := sq_colget ht x y
  have k2 := sq_colget ht y z
  have k3 := sq_colget ht (cl t x y) z
  have k4 := sq_colget ht x (cl t y z)
  refine acalls_of_body mix Try.func136 rfl fok136 (Nat.le_of_ble_eq_true rfl) ?_
  unfold abody
  simp only [absE, absL, absF, reduceCtorEq, ↓reduceIte, Nat.reduceEqDiff, Nat.reduceAdd, Nat.reduceLT, Nat.reduceMul, Nat.reduceSub, Nat.reduceLeDiff, Int.reduceLT, Int.reduceLE, Int.reduceEq, Option.isSome_some, implies_true, false_implies, Prod.mk.injEq, ne_eq, not_false_eq_true, not_true_eq_false, ge_iff_le, gt_iff_lt, Int.toNat_natCast, Int.reduceToNat, Int.cast_ofNat_Int, Int.natCast_nonneg, i1, i2, i3, i4, i5, u1, u2, u3, u4, k1, k2, k3, k4, Try.f136]
  repeat refine And.intro (by decide +kernel) ?_
  refine CallsX.none (specLeft_ok N t (cl t x (cl t y z)) (cl t (cl t x y) z) ht hs (hs.cl_lt hx j2) (hs.cl_lt j1 hz)) ?_
  simp only [absE, absL, absF, reduceCtorEq, ↓reduceIte, Nat.reduceEqDiff, Nat.reduceAdd, Nat.reduceLT, Nat.reduceMul, Nat.reduceSub, Nat.reduceLeDiff, Int.reduceLT, Int.reduceLE, Int.reduceEq, Option.isSome_some, implies_true, false_implies, Prod.mk.injEq, ne_eq, not_false_eq_true, not_true_eq_false, ge_iff_le, gt_iff_lt, Int.toNat_natCast, Int.reduceToNat, Int.cast_ofNat_Int, Int.natCast_nonneg, Try.results136]
  repeat refine And.intro (by decide +kernel) ?_
  exact ⟨[], by simp, by simp, by simp [renV, renVs, renSegs, renSg, ascN]⟩
def upG (N : Nat) (t : List Int) (p : Nat → Bool) (a x y : Nat) : Bool := p (comN N t a x) && p (ascN N t a x y) && p (ascN N t x a y) && p (ascN N t x y a)
noncomputable def upB (N : Nat) (t : List Int) (p : Nat → Bool) (a : Nat) : Bool := pairsB N (upG N t p a)
theorem upper2_ok (N : Nat) (t : List Int) (s : Nat) (ht : Bytes 100 t) (hs : SqP N t) (h62 : s < 2 ^ 62) (a x y : Nat) (ha : a < N) (hx : x < N) (hy : y < N) :
    ACalls Try.prog 140 [.i .u8 x, .i .u8 y, .ref (.ptr 0 0 0 0), .ref (.ptr 0 1 0 0), .ref (.ptr 0 2 0 0)] [.lv true [(0, .ints .i64 1 [(s : Int)])], .lv true (sqS N t), .lv true [(0, .ints .u8 1 [(a : Int)])]]
      (fun v ms ns => v = .b (upG N t s.testBit a x y) ∧ ms = [.lv true [(0, .ints .i64 1 [(s : Int)])], .lv true (sqS N t), .lv true [(0, .ints .u8 1 [(a : Int)])]] ∧ ns = []) := by
  have hN := hs.le
  have l1 := comN_lt hs ha hx
  have l2 := ascN_lt hs ha hx hy
  have l3 := ascN_lt hs hx ha hy
  have l4 := ascN_lt hs hx hy ha
  refine acalls_of_body mix Try.func140 rfl fok140 (Nat.le_of_ble_eq_true rfl) ?_
  unfold abody
  simp only [absE, absL, absF, reduceCtorEq, ↓reduceIte, Nat.reduceEqDiff, Nat.reduceAdd, Nat.reduceLT, Nat.reduceMul, Nat.reduceSub, Nat.reduceLeDiff, Int.reduceLT, Int.reduceLE, Int.reduceEq, Option.isSome_some, implies_true, false_implies, Prod.mk.injEq, ne_eq, not_false_eq_true, not_true_eq_false, ge_iff_le, gt_iff_lt, Int.toNat_natCast, Int.reduceToNat, Int.cast_ofNat_Int, Int.natCast_nonneg, List.getD_cons_zero, List.getD_cons_succ, Try.f140]
  repeat refine And.intro (by decide +kernel) ?_
  refine CallsX.none (implCom_ok N t a x ht hs ha hx) ?_
  simp only [absE, absL, absF, reduceCtorEq, ↓reduceIte, Nat.reduceEqDiff, Nat.reduceAdd, Nat.reduceLT, Nat.reduceMul, Nat.reduceSub, Nat.reduceLeDiff, Int.reduceLT, Int.reduceLE, Int.reduceEq, Option.isSome_some, implies_true, false_implies, Prod.mk.injEq, ne_eq, not_false_eq_true, not_true_eq_false, ge_iff_le, gt_iff_lt, Int.toNat_natCast, Int.reduceToNat, Int.cast_ofNat_Int, Int.natCast_nonneg]
  repeat refine And.intro (by decide +kernel) ?_
  refine CallsX.none (setHas_ok s (comN N t a x) h62 (by omega)) ?_
  cases h1 : s.testBit (comN N t a x)
  · simp only [absE, absL, absF, reduceCtorEq, ↓reduceIte, Nat.reduceEqDiff, Nat.reduceAdd, Nat.reduceLT, Nat.reduceMul, Nat.reduceSub, Nat.reduceLeDiff, Int.reduceLT, Int.reduceLE, Int.reduceEq, Option.isSome_some, implies_true, false_implies, Prod.mk.injEq, ne_eq, not_false_eq_true, not_true_eq_false, ge_iff_le, gt_iff_lt, Int.toNat_natCast, Int.reduceToNat, Int.cast_ofNat_Int, Int.natCast_nonneg, Try.results140]
    repeat refine And.intro (by decide +kernel) ?_
    exact ⟨[], by simp, by simp, by simp [renV, renVs, renSegs, renSg, renBlk, upG, h1]⟩
  · simp only [absE, absL, absF, reduceCtorEq, ↓reduceIte, Nat.reduceEqDiff, Nat.reduceAdd, Nat.reduceLT, Nat.reduceMul, Nat.reduceSub, Nat.reduceLeDiff, Int.reduceLT, Int.reduceLE, Int.reduceEq, Option.isSome_some, implies_true, false_implies, Prod.mk.injEq, ne_eq, not_false_eq_true, not_true_eq_false, ge_iff_le, gt_iff_lt, Int.toNat_natCast, Int.reduceToNat, Int.cast_ofNat_Int, Int.natCast_nonneg, List.getD_cons_zero, List.getD_cons_succ]
    repeat refine And.intro (by decide +kernel) ?_
    refine CallsX.none (implAsc_ok N t a x y ht hs ha hx hy) ?_
    simp only [absE, absL, absF, reduceCtorEq, ↓reduceIte, Nat.reduceEqDiff, Nat.reduceAdd, Nat.reduceLT, Nat.reduceMul, Nat.reduceSub, Nat.reduceLeDiff, Int.reduceLT, Int.reduceLE, Int.reduceEq, Option.isSome_some, implies_true, false_implies, Prod.mk.injEq, ne_eq, not_false_eq_true, not_true_eq_false, ge_iff_le, gt_iff_lt, Int.toNat_natCast, Int.reduceToNat, Int.cast_ofNat_Int, Int.natCast_nonneg]
    repeat refine And.intro (by decide +kernel) ?_
    refine CallsX.none (setHas_ok s (ascN N t a x y) h62 (by omega)) ?_
    cases h2 : s.testBit (ascN N t a x y)
    · simp only [absE, absL, absF, reduceCtorEq, ↓reduceIte, Nat.reduceEqDiff, Nat.reduceAdd, Nat.reduceLT, Nat.reduceMul, Nat.reduceSub, Nat.reduceLeDiff, Int.reduceLT, Int.reduceLE, Int.reduceEq, Option.isSome_some, implies_true, false_implies, Prod.mk.injEq, ne_eq, not_false_eq_true, not_true_eq_false, ge_iff_le, gt_iff_lt, Int.toNat_natCast, Int.reduceToNat, Int.cast_ofNat_Int, Int.natCast_nonneg, Try.results140]
      repeat refine And.intro (by decide +kernel) ?_
      exact ⟨[], by simp, by simp, by simp [renV, renVs, renSegs, renSg, renBlk, upG, h1, h2]⟩
    · simp only [absE, absL, absF, reduceCtorEq, ↓reduceIte, Nat.reduceEqDiff, Nat.reduceAdd, Nat.reduceLT, Nat.reduceMul, Nat.reduceSub, Nat.reduceLeDiff, Int.reduceLT, Int.reduceLE, Int.reduceEq, Option.isSome_some, implies_true, false_implies, Prod.mk.injEq, ne_eq, not_false_eq_true, not_true_eq_false, ge_iff_le, gt_iff_lt, Int.toNat_natCast, Int.reduceToNat, Int.cast_ofNat_Int, Int.natCast_nonneg, List.getD_cons_zero, List.getD_cons_succ]
      repeat refine And.intro (by decide +kernel) ?_
      refine CallsX.none (implAsc_ok N t x a y ht hs hx ha hy) ?_
      simp only [absE, absL, absF, reduceCtorEq, ↓reduceIte, Nat.reduceEqDiff, Nat.reduceAdd, Nat.reduceLT, Nat.reduceMul, Nat.reduceSub, Nat.reduceLeDiff, Int.reduceLT, Int.reduceLE, Int.reduceEq, Option.isSome_some, implies_true, false_implies, Prod.mk.injEq, ne_eq, not_false_eq_true, not_true_eq_false, ge_iff_le, gt_iff_lt, Int.toNat_natCast, Int.reduceToNat, Int.cast_ofNat_Int, Int.natCast_nonneg]
      repeat refine And.intro (by decide +kernel) ?_
      refine CallsX.none (setHas_ok s (ascN N t x a y) h62 (by omega)) ?_
      cases h3 : s.testBit (ascN N t x a y)
      · simp only [absE, absL, absF, reduceCtorEq, ↓reduceIte, Nat.reduceEqDiff, Nat.reduceAdd, Nat.reduceLT, Nat.reduceMul, Nat.reduceSub, Nat.reduceLeDiff, Int.reduceLT, Int.reduceLE, Int.reduceEq, Option.isSome_some, implies_true, false_implies, Prod.mk.injEq, ne_eq, not_false_eq_true, not_true_eq_false, ge_iff_le, gt_iff_lt, Int.toNat_natCast, Int.reduceToNat, Int.cast_ofNat_Int, Int.natCast_nonneg, Try.results140]
        repeat refine And.intro (by decide +kernel) ?_
        exact ⟨[], by simp, by simp, by simp [renV, renVs, renSegs, renSg, renBlk, upG, h1, h2, h3]⟩
      · simp only [absE, absL, absF, reduceCtorEq, ↓reduceIte, Nat.reduceEqDiff, Nat.reduceAdd, Nat.reduceLT, Nat.reduceMul, Nat.reduceSub, Nat.reduceLeDiff, Int.reduceLT, Int.reduceLE, Int.reduceEq, Option.isSome_some, implies_true, false_implies, Prod.mk.injEq, ne_eq, not_false_eq_true, not_true_eq_false, ge_iff_le, gt_iff_lt, Int.toNat_natCast, Int.reduceToNat, Int.cast_ofNat_Int, Int.natCast_nonneg, List.getD_cons_zero, List.getD_cons_succ]
        repeat refine And.intro (by decide +kernel) ?_
        refine CallsX.none (implAsc_ok N t x y a ht hs hx hy ha) ?_
        simp only [absE, absL, absF, reduceCtorEq, ↓reduceIte, Nat.reduceEqDiff, Nat.reduceAdd, Nat.reduceLT, Nat.reduceMul, Nat.reduceSub, Nat.reduceLeDiff, Int.reduceLT, Int.reduceLE, Int.reduceEq, Option.isSome_some, implies_true, false_implies, Prod.mk.injEq, ne_eq, not_false_eq_true, not_true_eq_false, ge_iff_le, gt_iff_lt, Int.toNat_natCast, Int.reduceToNat, Int.cast_ofNat_Int, Int.natCast_nonneg]
        repeat refine And.intro (by decide +kernel) ?_
        refine CallsX.none (setHas_ok s (ascN N t x y a) h62 (by omega)) ?_
        cases h4 : s.testBit (ascN N t x y a)
        · simp only [absE, absL, absF, reduceCtorEq, ↓reduceIte, Nat.reduceEqDiff, Nat.reduceAdd, Nat.reduceLT, Nat.reduceMul, Nat.reduceSub, Nat.reduceLeDiff, Int.reduceLT, Int.reduceLE, Int.reduceEq, Option.isSome_some, implies_true, false_implies, Prod.mk.injEq, ne_eq, not_false_eq_true, not_true_eq_false, ge_iff_le, gt_iff_lt, Int.toNat_natCast, Int.reduceToNat, Int.cast_ofNat_Int, Int.natCast_nonneg, Try.results140]
          repeat refine And.intro (by decide +kernel) ?_
          exact ⟨[], by simp, by simp, by simp [renV, renVs, renSegs, renSg, renBlk, upG, h1, h2, h3, h4]⟩
        · simp only [absE, absL, absF, reduceCtorEq, ↓reduceIte, Nat.reduceEqDiff, Nat.reduceAdd, Nat.reduceLT, Nat.reduceMul, Nat.reduceSub, Nat.reduceLeDiff, Int.reduceLT, Int.reduceLE, Int.reduceEq, Option.isSome_some, implies_true, false_implies, Prod.mk.injEq, ne_eq, not_false_eq_true, not_true_eq_false, ge_iff_le, gt_iff_lt, Int.toNat_natCast, Int.reduceToNat, Int.cast_ofNat_Int, Int.natCast_nonneg, Try.results140]
          repeat refine And.intro (by decide +kernel) ?_
          exact ⟨[], by simp, by simp, by simp [renV, renVs, renSegs, renSg, renBlk, upG, h1, h2, h3, h4]⟩
theorem upper1_ok (N : Nat) (t : List Int) (s : Nat) (ht : Bytes 100 t) (hs : SqP N t) (h62 : s < 2 ^ 62) (a : Nat) (ha : a < N) :
    ACalls Try.prog 138 [.i .u8 a, .ref (.ptr 0 0 0 0), .ref (.ptr 0 1 0 0)] [.lv true (sqS N t), .lv true [(0, .ints .i64 1 [(s : Int)])]]
      (fun v ms ns => v = .b (upB N t s.testBit a) ∧ ms = [.lv true (sqS N t), .lv true [(0, .ints .i64 1 [(s : Int)])]] ∧ ns = []) := by
  refine acalls_of_body mix Try.func138 rfl fok138 (Nat.le_of_ble_eq_true rfl) ?_
  unfold abody
  simp only [absE, absL, absF, reduceCtorEq, ↓reduceIte, Nat.reduceEqDiff, Nat.reduceAdd, Nat.reduceLT, Nat.reduceMul, Nat.reduceSub, Nat.reduceLeDiff, Int.reduceLT, Int.reduceLE, Int.reduceEq, Option.isSome_some, implies_true, false_implies, Prod.mk.injEq, ne_eq, not_false_eq_true, not_true_eq_false, ge_iff_le, gt_iff_lt, Int.toNat_natCast, Int.reduceToNat, Int.cast_ofNat_Int, Int.natCast_nonneg, Try.f138]
  refine CallsVia.args [(0, 1), (0, 0), (1, 0)] (forPairs3_ok N t hs.le 140 (upG N t s.testBit a) [(0, .ints .i64 1 [(s : Int)])] (sqS N t) [(0, .ints .u8 1 [(a : Int)])] (fun ρ => by simp [renSegs, renSg]) (fun ρ => by simp [renSegs, renSg]) (fun ρ => by simp [renSegs, renSg]) (fun x y hx hy => upper2_ok N t s ht hs h62 a x y ha hx hy)) (by simp) (by simp [Mem.get, assoc]) rfl rfl ?_
  rintro _ _ _ ⟨rfl, rfl, rfl⟩
  simp only [absE, absL, absF, reduceCtorEq, ↓reduceIte, Nat.reduceEqDiff, Nat.reduceAdd, Nat.reduceLT, Nat.reduceMul, Nat.reduceSub, Nat.reduceLeDiff, Int.reduceLT, Int.reduceLE, Int.reduceEq, Option.isSome_some, implies_true, false_implies, Prod.mk.injEq, ne_eq, not_false_eq_true, not_true_eq_false, ge_iff_le, gt_iff_lt, Int.toNat_natCast, Int.reduceToNat, Int.cast_ofNat_Int, Int.natCast_nonneg, Try.results138]
  exact ⟨[], by simp, by simp, by simp [renV, renVs, renSegs, renSg, renBlk, upB]⟩
theorem upper_ok (N : Nat) (t : List Int) (s : Nat) (ht : Bytes 100 t) (hs : SqP N t) (h62 : s < 2 ^ 62) :
    ACalls Try.prog 101 [.agg (sqS N t), .i .i64 s] [] (fun v ms ns => v = .i .i64 (setM (upB N t s.testBit) N) ∧ ms = [] ∧ ns = []) := by
  refine acalls_of_body mix Try.func101 rfl fok101 (Nat.le_of_ble_eq_true rfl) ?_
  unfold abody
  simp only [absE, absL, absF, reduceCtorEq, ↓reduceIte, Nat.reduceEqDiff, Nat.reduceAdd, Nat.reduceLT, Nat.reduceMul, Nat.reduceSub, Nat.reduceLeDiff, Int.reduceLT, Int.reduceLE, Int.reduceEq, Option.isSome_some, implies_true, false_implies, Prod.mk.injEq, ne_eq, not_false_eq_true, not_true_eq_false, ge_iff_le, gt_iff_lt, Int.toNat_natCast, Int.reduceToNat, Int.cast_ofNat_Int, Int.natCast_nonneg, Try.f101]
  refine CallsVia.args [(1, 0), (2, 0)] (those2_ok N t hs.le 138 (upB N t s.testBit) (sqS N t) [(0, .ints .i64 1 [(s : Int)])] (fun ρ => by simp [renSegs, renSg]) (fun ρ => by simp [renSegs, renSg]) (fun z hz => upper1_ok N t s ht hs h62 z hz)) (by simp) (by simp [Mem.get, assoc]) rfl rfl ?_
  rintro _ _ _ ⟨rfl, rfl, rfl⟩
  simp only [absE, absL, absF, reduceCtorEq, ↓reduceIte, Nat.reduceEqDiff, Nat.reduceAdd, Nat.reduceLT, Nat.reduceMul, Nat.reduceSub, Nat.reduceLeDiff, Int.reduceLT, Int.reduceLE, Int.reduceEq, Option.isSome_some, implies_true, false_implies, Prod.mk.injEq, ne_eq, not_false_eq_true, not_true_eq_false, ge_iff_le, gt_iff_lt, Int.toNat_natCast, Int.reduceToNat, Int.cast_ofNat_Int, Int.natCast_nonneg, Try.results101]
  exact ⟨[], by simp, by simp, by simp [renV, renVs, renSegs, renSg]⟩

end Go.Proofs.Ytcaadjjgggjefaa
