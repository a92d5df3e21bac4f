/-
Contracts of functions of the given program, by the abstract walk.
-/
import Derived.Test.YtjmenocghjggcaaAbsY
import Derived.Test.YtjmenocghjggcaaBb
import Derived.Test.YtjmenocghjggcaaOa
import Derived.Test.YtjmenocghjggcaaEe
namespace Go.Proofs.Ytjmenocghjggcaa
open Go Go.Abs
set_option linter.unusedVariables false
set_option linter.unusedSectionVars false
set_option linter.unusedSimpArgs false
set_option maxRecDepth 100000
/-! the rows and the columns as lists -/
def rowsL (t : List Int) (n : Nat) : List (List Int) := (List.range n).map (rowL t)
def colsL (N : Nat) (t : List Int) (n : Nat) : List (List Int) := (List.range n).map (colL N t)
theorem rowsL_len {t : List Int} {n : Nat} : (rowsL t n).length = n := by simp [rowsL]
theorem colsL_len {N : Nat} {t : List Int} {n : Nat} : (colsL N t n).length = n := by simp [colsL]
theorem rowsL_succ {t : List Int} {n : Nat} : rowsL t (n + 1) = rowsL t n ++ [rowL t n] := by simp [rowsL, List.range_succ]
theorem colsL_succ {N : Nat} {t : List Int} {n : Nat} : colsL N t (n + 1) = colsL N t n ++ [colL N t n] := by simp [colsL, List.range_succ]
theorem rowsL_flat {t : List Int} {n : Nat} : (rowsL t n).flatten ++ rowL t n = (rowsL t (n + 1)).flatten := by rw [rowsL_succ, List.flatten_append, List.flatten_singleton]
theorem colsL_flat {N : Nat} {t : List Int} {n : Nat} : (colsL N t n).flatten ++ colL N t n = (colsL N t (n + 1)).flatten := by rw [colsL_succ, List.flatten_append, List.flatten_singleton]
theorem plB_nil : plB [] = .lv true [(0, .ints .u8 0 [])] := rfl
theorem specRows_ok (N : Nat) (t : List Int) (ht : Bytes 100 t) (hs : SqP N t) :
    ACalls Try.prog 80 [.agg (sqS N t)] [] (fun v ms ns => v = .ref (.sl 1 0 0 0 N 10) ∧ ms = [] ∧ ns = [plB (rowsL t N)]) := by
  have hN := hs.le
  refine acalls_of_body mix Try.func80 rfl fok80 (Nat.le_of_ble_eq_true rfl) ?_
  unfold abody
  simp only [absE, absL, absF, reduceCtorEq, ↓reduceIte, Nat.reduceEqDiff, Nat.reduceAdd, Nat.reduceLT, Nat.reduceMul, Nat.reduceSub, Nat.reduceLeDiff, Int.reduceLT, Int.reduceLE, Int.reduceEq, Option.isSome_some, implies_true, false_implies, Prod.mk.injEq, ne_eq, not_false_eq_true, not_true_eq_false, ge_iff_le, gt_iff_lt, Int.toNat_natCast, Int.reduceToNat, Int.cast_ofNat_Int, Int.natCast_nonneg, Try.f80]
  refine awpLoop.intro (fun x : Nat => [(1, .ref (.ptr 1 0 0 0)), (3, .ref (.sl 3 0 0 0 x 10)), (4, .i .i64 x)]) (fun x => ⟨[], [((1, 0), .lv true (sqS N t)), ((3, 0), .lv true [(0, .ints .u8 (x * 10) (rowsL t x).flatten)])], 6⟩)
    (fun x => x ≤ N) (fun x => N - x) 0 (by omega) ⟨[((1,0),(1,0)), ((3,0),(3,0))], rfl, ?_, ?_⟩ ?_
  · simp [wkEnv, lk, renV, renAt, renTo]
  · simp [wkMem, wkLoc, Mem.get, assoc, renBlk, renSegs, renSg, renAt, renTo, rowsL, colsL]
  · intro x hx
    by_cases h : (x : Int) < N
    · have w := wrap_i64s (show x < 2 ^ 62 by omega)
      have w8 := wrap_u8n (show x < 256 by omega)
      have hf := rowsL_flat (t := t) (n := x)
      have m1 : x * 10 + 10 = (x + 1) * 10 := by omega
      simp only [absE, absL, absF, reduceCtorEq, ↓reduceIte, Nat.reduceEqDiff, Nat.reduceAdd, Nat.reduceLT, Nat.reduceMul, Nat.reduceSub, Nat.reduceLeDiff, Int.reduceLT, Int.reduceLE, Int.reduceEq, Option.isSome_some, implies_true, false_implies, Prod.mk.injEq, ne_eq, not_false_eq_true, not_true_eq_false, ge_iff_le, gt_iff_lt, Int.toNat_natCast, Int.reduceToNat, Int.cast_ofNat_Int, Int.natCast_nonneg, h, w8]
      refine CallsVia.none (specRow_ok N t x ht (by omega)) ?_
      rintro _ _ _ ⟨rfl, rfl, rfl⟩
      simp only [absE, absL, absF, reduceCtorEq, ↓reduceIte, Nat.reduceEqDiff, Nat.reduceAdd, Nat.reduceLT, Nat.reduceMul, Nat.reduceSub, Nat.reduceLeDiff, Int.reduceLT, Int.reduceLE, Int.reduceEq, Option.isSome_some, implies_true, false_implies, Prod.mk.injEq, ne_eq, not_false_eq_true, not_true_eq_false, ge_iff_le, gt_iff_lt, Int.toNat_natCast, Int.reduceToNat, Int.cast_ofNat_Int, Int.natCast_nonneg, m1]
      repeat refine And.intro (by omega) ?_
      refine LoopNext.intro (x + 1) (by omega) (by omega) ⟨[((1,0),(1,0)), ((16,0),(3,0))], rfl, ?_, ?_⟩
      · simp [wkEnv, lk, renV, renAt, renTo, w]
      · simp [wkMem, wkLoc, Mem.get, assoc, renBlk, renSegs, renSg, renAt, renTo, hf]
    · obtain rfl : x = N := by omega
      simp only [absE, absL, absF, reduceCtorEq, ↓reduceIte, Nat.reduceEqDiff, Nat.reduceAdd, Nat.reduceLT, Nat.reduceMul, Nat.reduceSub, Nat.reduceLeDiff, Int.reduceLT, Int.reduceLE, Int.reduceEq, Option.isSome_some, implies_true, false_implies, Prod.mk.injEq, ne_eq, not_false_eq_true, not_true_eq_false, ge_iff_le, gt_iff_lt, Int.toNat_natCast, Int.reduceToNat, Int.cast_ofNat_Int, Int.natCast_nonneg, h, Try.results80]
      exact ⟨[(3, 0)], by simp, by simp, by simp [renV, renAt, renFin, idx], by simp, by simp [Mem.get, assoc, renBlk, renSegs, renSg, plB, rowsL_len]⟩
theorem specColumns_ok (N : Nat) (t : List Int) (ht : Bytes 100 t) (hs : SqP N t) :
    ACalls Try.prog 81 [.agg (sqS N t)] [] (fun v ms ns => v = .ref (.sl 1 0 0 0 N 10) ∧ ms = [] ∧ ns = [plB (colsL N t N)]) := by
  have hN := hs.le
  refine acalls_of_body mix Try.func81 rfl fok81 (Nat.le_of_ble_eq_true rfl) ?_
  unfold abody
  simp only [absE, absL, absF, reduceCtorEq, ↓reduceIte, Nat.reduceEqDiff, Nat.reduceAdd, Nat.reduceLT, Nat.reduceMul, Nat.reduceSub, Nat.reduceLeDiff, Int.reduceLT, Int.reduceLE, Int.reduceEq, Option.isSome_some, implies_true, false_implies, Prod.mk.injEq, ne_eq, not_false_eq_true, not_true_eq_false, ge_iff_le, gt_iff_lt, Int.toNat_natCast, Int.reduceToNat, Int.cast_ofNat_Int, Int.natCast_nonneg, Try.f81]
  refine awpLoop.intro (fun x : Nat => [(1, .ref (.ptr 1 0 0 0)), (3, .ref (.sl 3 0 0 0 x 10)), (4, .i .i64 x)]) (fun x => ⟨[], [((1, 0), .lv true (sqS N t)), ((3, 0), .lv true [(0, .ints .u8 (x * 10) (colsL N t x).flatten)])], 6⟩)
    (fun x => x ≤ N) (fun x => N - x) 0 (by omega) ⟨[((1,0),(1,0)), ((3,0),(3,0))], rfl, ?_, ?_⟩ ?_
  · simp [wkEnv, lk, renV, renAt, renTo]
  · simp [wkMem, wkLoc, Mem.get, assoc, renBlk, renSegs, renSg, renAt, renTo, rowsL, colsL]
  · intro x hx
    by_cases h : (x : Int) < N
    · have w := wrap_i64s (show x < 2 ^ 62 by omega)
      have w8 := wrap_u8n (show x < 256 by omega)
      have hf := colsL_flat (N := N) (t := t) (n := x)
      have m1 : x * 10 + 10 = (x + 1) * 10 := by omega
      simp only [absE, absL, absF, reduceCtorEq, ↓reduceIte, Nat.reduceEqDiff, Nat.reduceAdd, Nat.reduceLT, Nat.reduceMul, Nat.reduceSub, Nat.reduceLeDiff, Int.reduceLT, Int.reduceLE, Int.reduceEq, Option.isSome_some, implies_true, false_implies, Prod.mk.injEq, ne_eq, not_false_eq_true, not_true_eq_false, ge_iff_le, gt_iff_lt, Int.toNat_natCast, Int.reduceToNat, Int.cast_ofNat_Int, Int.natCast_nonneg, h, w8]
      refine CallsVia.none (specColumn_ok N t x ht hN (by omega)) ?_
      rintro _ _ _ ⟨rfl, rfl, rfl⟩
      simp only [absE, absL, absF, reduceCtorEq, ↓reduceIte, Nat.reduceEqDiff, Nat.reduceAdd, Nat.reduceLT, Nat.reduceMul, Nat.reduceSub, Nat.reduceLeDiff, Int.reduceLT, Int.reduceLE, Int.reduceEq, Option.isSome_some, implies_true, false_implies, Prod.mk.injEq, ne_eq, not_false_eq_true, not_true_eq_false, ge_iff_le, gt_iff_lt, Int.toNat_natCast, Int.reduceToNat, Int.cast_ofNat_Int, Int.natCast_nonneg, m1]
      repeat refine And.intro (by omega) ?_
      refine LoopNext.intro (x + 1) (by omega) (by omega) ⟨[((1,0),(1,0)), ((16,0),(3,0))], rfl, ?_, ?_⟩
      · simp [wkEnv, lk, renV, renAt, renTo, w]
      · simp [wkMem, wkLoc, Mem.get, assoc, renBlk, renSegs, renSg, renAt, renTo, hf]
    · obtain rfl : x = N := by omega
      simp only [absE, absL, absF, reduceCtorEq, ↓reduceIte, Nat.reduceEqDiff, Nat.reduceAdd, Nat.reduceLT, Nat.reduceMul, Nat.reduceSub, Nat.reduceLeDiff, Int.reduceLT, Int.reduceLE, Int.reduceEq, Option.isSome_some, implies_true, false_implies, Prod.mk.injEq, ne_eq, not_false_eq_true, not_true_eq_false, ge_iff_le, gt_iff_lt, Int.toNat_natCast, Int.reduceToNat, Int.cast_ofNat_Int, Int.natCast_nonneg, h, Try.results81]
      exact ⟨[(3, 0)], by simp, by simp, by simp [renV, renAt, renFin, idx], by simp, by simp [Mem.get, assoc, renBlk, renSegs, renSg, plB, colsL_len]⟩
theorem implRows_ok (N : Nat) (t : List Int) (ht : Bytes 100 t) (hs : SqP N t) :
    ACalls Try.prog 83 [.agg (sqS N t)] [] (fun v ms ns => v = .ref (.sl 1 0 0 0 N 10) ∧ ms = [] ∧ ns = [plB (rowsL t N)]) := by
  have hN := hs.le
  refine acalls_of_body mix Try.func83 rfl fok83 (Nat.le_of_ble_eq_true rfl) ?_
  unfold abody
  simp only [absE, absL, absF, reduceCtorEq, ↓reduceIte, Nat.reduceEqDiff, Nat.reduceAdd, Nat.reduceLT, Nat.reduceMul, Nat.reduceSub, Nat.reduceLeDiff, Int.reduceLT, Int.reduceLE, Int.reduceEq, Option.isSome_some, implies_true, false_implies, Prod.mk.injEq, ne_eq, not_false_eq_true, not_true_eq_false, ge_iff_le, gt_iff_lt, Int.toNat_natCast, Int.reduceToNat, Int.cast_ofNat_Int, Int.natCast_nonneg, Try.f83]
  refine CallsVia.none (elements_ok N t hN) ?_
  rintro _ _ _ ⟨rfl, rfl, rfl⟩
  simp only [absE, absL, absF, reduceCtorEq, ↓reduceIte, Nat.reduceEqDiff, Nat.reduceAdd, Nat.reduceLT, Nat.reduceMul, Nat.reduceSub, Nat.reduceLeDiff, Int.reduceLT, Int.reduceLE, Int.reduceEq, Option.isSome_some, implies_true, false_implies, Prod.mk.injEq, ne_eq, not_false_eq_true, not_true_eq_false, ge_iff_le, gt_iff_lt, Int.toNat_natCast, Int.reduceToNat, Int.cast_ofNat_Int, Int.natCast_nonneg]
  refine awpLoop.intro (fun x : Nat => [(1, .ref (.ptr 1 0 0 0)), (3, .ref (.sl 3 0 0 0 x 10)), (8, .ref (.sl 6 0 0 0 N 1)), (9, .i .i64 N), (10, .i .i64 x)]) (fun x => ⟨[], [((1, 0), .lv true (sqS N t)), ((3, 0), .lv true [(0, .ints .u8 (x * 10) (rowsL t x).flatten)]), ((6, 0), .lv true [(0, .ints .u8 N (bytesTo N))])], 10⟩)
    (fun x => x ≤ N) (fun x => N - x) 0 (by omega) ⟨[((1,0),(1,0)), ((3,0),(3,0)), ((6,0),(6,0))], rfl, ?_, ?_⟩ ?_
  · simp [wkEnv, lk, renV, renAt, renTo]
  · simp [wkMem, wkLoc, Mem.get, assoc, renBlk, renSegs, renSg, renAt, renTo, rowsL, colsL]
  · intro x hx
    by_cases h : (x : Int) < N
    · have w := wrap_i64s (show x < 2 ^ 62 by omega)
      have w8 := wrap_u8n (show x < 256 by omega)
      have hf := rowsL_flat (t := t) (n := x)
      have m1 : x * 10 + 10 = (x + 1) * 10 := by omega
      have b1 : (bytesTo N).getD (0 + x * 1) 0 = (x : Int) := by rw [Nat.zero_add, Nat.mul_one]; exact bytesTo_get (by omega)
      have v1 : 0 + x * 1 < N := by omega
      simp only [absE, absL, absF, reduceCtorEq, ↓reduceIte, Nat.reduceEqDiff, Nat.reduceAdd, Nat.reduceLT, Nat.reduceMul, Nat.reduceSub, Nat.reduceLeDiff, Int.reduceLT, Int.reduceLE, Int.reduceEq, Option.isSome_some, implies_true, false_implies, Prod.mk.injEq, ne_eq, not_false_eq_true, not_true_eq_false, ge_iff_le, gt_iff_lt, Int.toNat_natCast, Int.reduceToNat, Int.cast_ofNat_Int, Int.natCast_nonneg, h, b1, v1]
      refine CallsVia.none (implRow_ok N t x ht (by omega)) ?_
      rintro _ _ _ ⟨rfl, rfl, rfl⟩
      simp only [absE, absL, absF, reduceCtorEq, ↓reduceIte, Nat.reduceEqDiff, Nat.reduceAdd, Nat.reduceLT, Nat.reduceMul, Nat.reduceSub, Nat.reduceLeDiff, Int.reduceLT, Int.reduceLE, Int.reduceEq, Option.isSome_some, implies_true, false_implies, Prod.mk.injEq, ne_eq, not_false_eq_true, not_true_eq_false, ge_iff_le, gt_iff_lt, Int.toNat_natCast, Int.reduceToNat, Int.cast_ofNat_Int, Int.natCast_nonneg, m1]
      repeat refine And.intro (by omega) ?_
      refine LoopNext.intro (x + 1) (by omega) (by omega) ⟨[((1,0),(1,0)), ((19,0),(3,0)), ((6,0),(6,0))], rfl, ?_, ?_⟩
      · simp [wkEnv, lk, renV, renAt, renTo, w]
      · simp [wkMem, wkLoc, Mem.get, assoc, renBlk, renSegs, renSg, renAt, renTo, hf]
    · obtain rfl : x = N := by omega
      simp only [absE, absL, absF, reduceCtorEq, ↓reduceIte, Nat.reduceEqDiff, Nat.reduceAdd, Nat.reduceLT, Nat.reduceMul, Nat.reduceSub, Nat.reduceLeDiff, Int.reduceLT, Int.reduceLE, Int.reduceEq, Option.isSome_some, implies_true, false_implies, Prod.mk.injEq, ne_eq, not_false_eq_true, not_true_eq_false, ge_iff_le, gt_iff_lt, Int.toNat_natCast, Int.reduceToNat, Int.cast_ofNat_Int, Int.natCast_nonneg, h, Try.results83]
      exact ⟨[(3, 0)], by simp, by simp, by simp [renV, renAt, renFin, idx], by simp, by simp [Mem.get, assoc, renBlk, renSegs, renSg, plB, rowsL_len]⟩
theorem implColumns_ok (N : Nat) (t : List Int) (ht : Bytes 100 t) (hs : SqP N t) :
    ACalls Try.prog 84 [.agg (sqS N t)] [] (fun v ms ns => v = .ref (.sl 1 0 0 0 N 10) ∧ ms = [] ∧ ns = [plB (colsL N t N)]) := by
  have hN := hs.le
  refine acalls_of_body mix Try.func84 rfl fok84 (Nat.le_of_ble_eq_true rfl) ?_
  unfold abody
  simp only [absE, absL, absF, reduceCtorEq, ↓reduceIte, Nat.reduceEqDiff, Nat.reduceAdd, Nat.reduceLT, Nat.reduceMul, Nat.reduceSub, Nat.reduceLeDiff, Int.reduceLT, Int.reduceLE, Int.reduceEq, Option.isSome_some, implies_true, false_implies, Prod.mk.injEq, ne_eq, not_false_eq_true, not_true_eq_false, ge_iff_le, gt_iff_lt, Int.toNat_natCast, Int.reduceToNat, Int.cast_ofNat_Int, Int.natCast_nonneg, Try.f84]
  refine CallsVia.none (elements_ok N t hN) ?_
  rintro _ _ _ ⟨rfl, rfl, rfl⟩
  simp only [absE, absL, absF, reduceCtorEq, ↓reduceIte, Nat.reduceEqDiff, Nat.reduceAdd, Nat.reduceLT, Nat.reduceMul, Nat.reduceSub, Nat.reduceLeDiff, Int.reduceLT, Int.reduceLE, Int.reduceEq, Option.isSome_some, implies_true, false_implies, Prod.mk.injEq, ne_eq, not_false_eq_true, not_true_eq_false, ge_iff_le, gt_iff_lt, Int.toNat_natCast, Int.reduceToNat, Int.cast_ofNat_Int, Int.natCast_nonneg]
  refine awpLoop.intro (fun x : Nat => [(1, .ref (.ptr 1 0 0 0)), (3, .ref (.sl 3 0 0 0 x 10)), (8, .ref (.sl 6 0 0 0 N 1)), (9, .i .i64 N), (10, .i .i64 x)]) (fun x => ⟨[], [((1, 0), .lv true (sqS N t)), ((3, 0), .lv true [(0, .ints .u8 (x * 10) (colsL N t x).flatten)]), ((6, 0), .lv true [(0, .ints .u8 N (bytesTo N))])], 10⟩)
    (fun x => x ≤ N) (fun x => N - x) 0 (by omega) ⟨[((1,0),(1,0)), ((3,0),(3,0)), ((6,0),(6,0))], rfl, ?_, ?_⟩ ?_
  · simp [wkEnv, lk, renV, renAt, renTo]
  · simp [wkMem, wkLoc, Mem.get, assoc, renBlk, renSegs, renSg, renAt, renTo, rowsL, colsL]
  · intro x hx
    by_cases h : (x : Int) < N
    · have w := wrap_i64s (show x < 2 ^ 62 by omega)
      have w8 := wrap_u8n (show x < 256 by omega)
      have hf := colsL_flat (N := N) (t := t) (n := x)
      have m1 : x * 10 + 10 = (x + 1) * 10 := by omega
      have b1 : (bytesTo N).getD (0 + x * 1) 0 = (x : Int) := by rw [Nat.zero_add, Nat.mul_one]; exact bytesTo_get (by omega)
      have v1 : 0 + x * 1 < N := by omega
      simp only [absE, absL, absF, reduceCtorEq, ↓reduceIte, Nat.reduceEqDiff, Nat.reduceAdd, Nat.reduceLT, Nat.reduceMul, Nat.reduceSub, Nat.reduceLeDiff, Int.reduceLT, Int.reduceLE, Int.reduceEq, Option.isSome_some, implies_true, false_implies, Prod.mk.injEq, ne_eq, not_false_eq_true, not_true_eq_false, ge_iff_le, gt_iff_lt, Int.toNat_natCast, Int.reduceToNat, Int.cast_ofNat_Int, Int.natCast_nonneg, h, b1, v1]
      refine CallsVia.none (implColumn_ok N t x ht hs (by omega)) ?_
      rintro _ _ _ ⟨rfl, rfl, rfl⟩
      simp only [absE, absL, absF, reduceCtorEq, ↓reduceIte, Nat.reduceEqDiff, Nat.reduceAdd, Nat.reduceLT, Nat.reduceMul, Nat.reduceSub, Nat.reduceLeDiff, Int.reduceLT, Int.reduceLE, Int.reduceEq, Option.isSome_some, implies_true, false_implies, Prod.mk.injEq, ne_eq, not_false_eq_true, not_true_eq_false, ge_iff_le, gt_iff_lt, Int.toNat_natCast, Int.reduceToNat, Int.cast_ofNat_Int, Int.natCast_nonneg, m1]
      repeat refine And.intro (by omega) ?_
      refine LoopNext.intro (x + 1) (by omega) (by omega) ⟨[((1,0),(1,0)), ((19,0),(3,0)), ((6,0),(6,0))], rfl, ?_, ?_⟩
      · simp [wkEnv, lk, renV, renAt, renTo, w]
      · simp [wkMem, wkLoc, Mem.get, assoc, renBlk, renSegs, renSg, renAt, renTo, hf]
    · obtain rfl : x = N := by omega
      simp only [absE, absL, absF, reduceCtorEq, ↓reduceIte, Nat.reduceEqDiff, Nat.reduceAdd, Nat.reduceLT, Nat.reduceMul, Nat.reduceSub, Nat.reduceLeDiff, Int.reduceLT, Int.reduceLE, Int.reduceEq, Option.isSome_some, implies_true, false_implies, Prod.mk.injEq, ne_eq, not_false_eq_true, not_true_eq_false, ge_iff_le, gt_iff_lt, Int.toNat_natCast, Int.reduceToNat, Int.cast_ofNat_Int, Int.natCast_nonneg, h, Try.results84]
      exact ⟨[(3, 0)], by simp, by simp, by simp [renV, renAt, renFin, idx], by simp, by simp [Mem.get, assoc, renBlk, renSegs, renSg, plB, colsL_len]⟩
/-- rows and columns -/
def bothL (N : Nat) (t : List Int) : List (List Int) := rowsL t N ++ colsL N t N
theorem bothL_len {N : Nat} {t : List Int} : (bothL N t).length = N + N := by simp [bothL, rowsL_len, colsL_len]
theorem specBoth_ok (N : Nat) (t : List Int) (ht : Bytes 100 t) (hs : SqP N t) :
    ACalls Try.prog 53 [.agg (sqS N t)] [] (fun v ms ns => v = .ref (.sl 1 0 0 0 (bothL N t).length 10) ∧ ms = [] ∧ ns = [plB (bothL N t)]) := by
  have hN := hs.le
  refine acalls_of_body mix Try.func53 rfl fok53 (Nat.le_of_ble_eq_true rfl) ?_
  unfold abody
  simp only [absE, absL, absF, reduceCtorEq, ↓reduceIte, Nat.reduceEqDiff, Nat.reduceAdd, Nat.reduceLT, Nat.reduceMul, Nat.reduceSub, Nat.reduceLeDiff, Int.reduceLT, Int.reduceLE, Int.reduceEq, Option.isSome_some, implies_true, false_implies, Prod.mk.injEq, ne_eq, not_false_eq_true, not_true_eq_false, ge_iff_le, gt_iff_lt, Int.toNat_natCast, Int.reduceToNat, Int.cast_ofNat_Int, Int.natCast_nonneg, Try.f53]
  refine CallsX.none (specRows_ok N t ht hs) ?_
  simp only [absE, absL, absF, reduceCtorEq, ↓reduceIte, Nat.reduceEqDiff, Nat.reduceAdd, Nat.reduceLT, Nat.reduceMul, Nat.reduceSub, Nat.reduceLeDiff, Int.reduceLT, Int.reduceLE, Int.reduceEq, Option.isSome_some, implies_true, false_implies, Prod.mk.injEq, ne_eq, not_false_eq_true, not_true_eq_false, ge_iff_le, gt_iff_lt, Int.toNat_natCast, Int.reduceToNat, Int.cast_ofNat_Int, Int.natCast_nonneg, plB, rowsL_len]
  repeat refine And.intro (by decide +kernel) ?_
  refine CallsX.none (specColumns_ok N t ht hs) ?_
  simp only [absE, absL, absF, reduceCtorEq, ↓reduceIte, Nat.reduceEqDiff, Nat.reduceAdd, Nat.reduceLT, Nat.reduceMul, Nat.reduceSub, Nat.reduceLeDiff, Int.reduceLT, Int.reduceLE, Int.reduceEq, Option.isSome_some, implies_true, false_implies, Prod.mk.injEq, ne_eq, not_false_eq_true, not_true_eq_false, ge_iff_le, gt_iff_lt, Int.toNat_natCast, Int.reduceToNat, Int.cast_ofNat_Int, Int.natCast_nonneg, plB, rowsL_len, colsL_len]
  repeat refine And.intro (by decide +kernel) ?_
  repeat first | refine And.intro (by omega) ?_ | refine And.intro (by decide +kernel) ?_
  simp only [absE, absL, absF, reduceCtorEq, ↓reduceIte, Nat.reduceEqDiff, Nat.reduceAdd, Nat.reduceLT, Nat.reduceMul, Nat.reduceSub, Nat.reduceLeDiff, Int.reduceLT, Int.reduceLE, Int.reduceEq, Option.isSome_some, implies_true, false_implies, Prod.mk.injEq, ne_eq, not_false_eq_true, not_true_eq_false, ge_iff_le, gt_iff_lt, Int.toNat_natCast, Int.reduceToNat, Int.cast_ofNat_Int, Int.natCast_nonneg, Try.results53]
  have e : (rowsL t N).flatten ++ (colsL N t N).flatten = (bothL N t).flatten := by simp [bothL]
  have e2 : N * 10 + N * 10 = (bothL N t).length * 10 := by rw [bothL_len]; omega
  exact ⟨[(7, 0)], by simp, by simp, by simp [renV, renAt, renFin, idx, bothL_len], by simp, by simp [Mem.get, assoc, renBlk, renSegs, renSg, plB, e, e2]⟩

/-! those of a list that keep the numbers less than one -/
theorem ite_b {c d : Prop} [Decidable c] [Decidable d] {X Y Z : Prop} (h : c → Y → X) (h2 : ¬ c → d) (hy : Y) : if c then X else if d then Y else Z := by
  by_cases hc : c
  · rw [if_pos hc]; exact h hc hy
  · rw [if_neg hc, if_pos (h2 hc)]; exact hy
def kpR (p : List Int) : Nat → Bool
  | 0 => true
  | x + 1 => kpR p x && decide ((pl p x : Int) = (x : Int))
theorem kpR_iff {p : List Int} : ∀ {n}, kpR p n = true ↔ ∀ x, x < n → pl p x = x
  | 0 => by simp [kpR]
  | n + 1 => by
    rw [kpR, Bool.and_eq_true, kpR_iff, decide_eq_true_iff]
    constructor
    · rintro ⟨h1, h2⟩ x hx
      by_cases e : x = n
      · subst e; omega
      · exact h1 x (by omega)
    · intro h; exact ⟨fun x hx => h x (by omega), by rw [h n (by omega)]⟩
def keepL (L : List (List Int)) (k : Nat) : List (List Int) := L.filter fun p => kpR p k
def keepR (L : List (List Int)) (k : Nat) : Nat → List (List Int)
  | 0 => []
  | i + 1 => if kpR (L.getD i []) k then keepR L k i ++ [L.getD i []] else keepR L k i
theorem keepR_take {L : List (List Int)} {k : Nat} : ∀ {i}, i ≤ L.length → keepR L k i = keepL (L.take i) k
  | 0, _ => rfl
  | i + 1, h => by
    rw [keepR, keepR_take (by omega), List.take_add_one, List.getElem?_eq_getElem (by omega)]
    unfold keepL
    rw [List.filter_append]
    have e : L.getD i [] = L[i] := by simp [show i < L.length by omega]
    rw [e]
    by_cases hk : kpR L[i] k = true
    · rw [if_pos hk]; simp [hk]
    · rw [if_neg hk]; simp [hk]
theorem keepR_all {L : List (List Int)} {k : Nat} : keepR L k L.length = keepL L k := by rw [keepR_take (Nat.le_refl _), List.take_length]
theorem keepR_len {L : List (List Int)} {k : Nat} : ∀ {i}, (keepR L k i).length ≤ i
  | 0 => Nat.le_refl _
  | i + 1 => by have := keepR_len (L := L) (k := k) (i := i); rw [keepR]; split <;> simp <;> omega
theorem flat_at {L : List (List Int)} {i x : Nat} (hM : Maps L) (hi : i < L.length) (hx : x < 10) : L.flatten.getD (i * 10 + x) 0 = (L.getD i []).getD x 0 := by
  rw [← flat_get hM hi, getD_sub, if_pos hx]
theorem keep_ok (L : List (List Int)) (k : Nat) (hL : ∀ p ∈ L, Bytes 10 p) (hk : k ≤ 10) (hl : L.length ≤ 1000000) :
    ACalls Try.prog 100 [.ref (.sl 0 0 0 0 L.length 10), .i .i64 k] [plB L] (fun v ms ns => v = .ref (.sl 1 0 0 0 (keepL L k).length 10) ∧ ms = [plB L] ∧ ns = [plB (keepL L k)]) := by
  have hM : Maps L := fun p hp => (hL p hp).len
  unfold plB
  refine acalls_of_body mix Try.func100 rfl fok100 (Nat.le_of_ble_eq_true rfl) ?_
  unfold abody
  simp only [absE, absL, absF, reduceCtorEq, ↓reduceIte, Nat.reduceEqDiff, Nat.reduceAdd, Nat.reduceLT, Nat.reduceMul, Nat.reduceSub, Nat.reduceLeDiff, Int.reduceLT, Int.reduceLE, Int.reduceEq, Option.isSome_some, implies_true, false_implies, Prod.mk.injEq, ne_eq, not_false_eq_true, not_true_eq_false, ge_iff_le, gt_iff_lt, Int.toNat_natCast, Int.reduceToNat, Int.cast_ofNat_Int, Int.natCast_nonneg, Try.f100]
  refine awpLoop.intro (fun i : Nat => [(0, .ref (.sl 0 0 0 0 L.length 10)), (1, .i .i64 k), (5, .ref (.sl 2 0 0 0 (keepR L k i).length 10)), (6, .i .i64 i)]) (fun i => ⟨[.lv true [(0, .ints .u8 (L.length * 10) L.flatten)]], [((2, 0), .lv true [(0, .ints .u8 ((keepR L k i).length * 10) (keepR L k i).flatten)])], 5⟩)
    (fun i => i ≤ L.length) (fun i => L.length - i) 0 (by omega) ⟨[((2,0),(2,0))], rfl, ?_, ?_⟩ ?_
  · simp [wkEnv, lk, renV, renAt, renTo, keepR]
  · simp [wkMem, wkLoc, Mem.get, assoc, renBlk, renSegs, renSg, renAt, renTo, keepR]
  · intro i hi
    by_cases h : (i : Int) < L.length
    · have w := wrap_i64s (show i < 2 ^ 62 by omega)
      have hi2 : i < L.length := by omega
      have hpm := getD_mem hi2
      have hfa := fun x (hx : x < 10) => flat_at hM hi2 hx
      have hfg := flat_get hM hi2
      have hp := hL _ hpm
      have hKl := keepR_len (L := L) (k := k) (i := i)
      have hs1 : keepR L k (i + 1) = if kpR (L.getD i []) k then keepR L k i ++ [L.getD i []] else keepR L k i := rfl
      generalize L.getD i [] = p at hpm hfa hp hfg hs1
      simp only [absE, absL, absF, reduceCtorEq, ↓reduceIte, Nat.reduceEqDiff, Nat.reduceAdd, Nat.reduceLT, Nat.reduceMul, Nat.reduceSub, Nat.reduceLeDiff, Int.reduceLT, Int.reduceLE, Int.reduceEq, Option.isSome_some, implies_true, false_implies, Prod.mk.injEq, ne_eq, not_false_eq_true, not_true_eq_false, ge_iff_le, gt_iff_lt, Int.toNat_natCast, Int.reduceToNat, Int.cast_ofNat_Int, Int.natCast_nonneg, h]
      refine awpLoop.intro (fun x : Nat => [(0, .ref (.sl 0 0 0 0 L.length 10)), (1, .i .i64 k), (5, .ref (.sl 2 0 0 0 (keepR L k i).length 10)), (6, .i .i64 i), (7, .b (kpR p x)), (8, .i .i64 x)]) (fun x => ⟨[.lv true [(0, .ints .u8 (L.length * 10) L.flatten)]], [((2, 0), .lv true [(0, .ints .u8 ((keepR L k i).length * 10) (keepR L k i).flatten)])], 10⟩)
        (fun x => x ≤ k) (fun x => k - x) 0 (by omega) ⟨[((2,0),(2,0))], rfl, ?_, ?_⟩ ?_
      · simp [wkEnv, lk, renV, renAt, renTo, kpR]
      · simp [wkMem, wkLoc, Mem.get, assoc, renBlk, renSegs, renSg, renAt, renTo]
      · intro x hx
        by_cases h' : (x : Int) < k
        · have w' := wrap_i64s (show x < 2 ^ 62 by omega)
          have x10 : (x : Int) < 10 := by omega
          have v1 : 0 + i * 10 + x * 1 < L.length * 10 := by omega
          have e1 : L.flatten.getD (0 + i * 10 + x * 1) 0 = (pl p x : Int) := by rw [Nat.zero_add, Nat.mul_one, hfa x (by omega)]; exact hp.place x
          have wp := wrap_i64n (show pl p x < 2 ^ 62 by have := hp.place_lt x; omega)
          cases hb : kpR p x
          · have hn : kpR p (x + 1) = false := by rw [kpR, hb]; rfl
            simp only [absE, absL, absF, reduceCtorEq, ↓reduceIte, Nat.reduceEqDiff, Nat.reduceAdd, Nat.reduceLT, Nat.reduceMul, Nat.reduceSub, Nat.reduceLeDiff, Int.reduceLT, Int.reduceLE, Int.reduceEq, Option.isSome_some, implies_true, false_implies, Prod.mk.injEq, ne_eq, not_false_eq_true, not_true_eq_false, ge_iff_le, gt_iff_lt, Int.toNat_natCast, Int.reduceToNat, Int.cast_ofNat_Int, Int.natCast_nonneg, h']
            refine LoopNext.intro (x + 1) (by omega) (by omega) ⟨[((2,0),(2,0))], rfl, ?_, ?_⟩
            · simp [wkEnv, lk, renV, renAt, renTo, w', hn]
            · simp [wkMem, wkLoc, Mem.get, assoc, renBlk, renSegs, renSg, renAt, renTo]
          · have hn : kpR p (x + 1) = decide ((pl p x : Int) = (x : Int)) := by rw [kpR, hb]; rfl
            simp only [absE, absL, absF, reduceCtorEq, ↓reduceIte, Nat.reduceEqDiff, Nat.reduceAdd, Nat.reduceLT, Nat.reduceMul, Nat.reduceSub, Nat.reduceLeDiff, Int.reduceLT, Int.reduceLE, Int.reduceEq, Option.isSome_some, implies_true, false_implies, Prod.mk.injEq, ne_eq, not_false_eq_true, not_true_eq_false, ge_iff_le, gt_iff_lt, Int.toNat_natCast, Int.reduceToNat, Int.cast_ofNat_Int, Int.natCast_nonneg, h', x10, h, v1, e1, wp]
            refine LoopNext.intro (x + 1) (by omega) (by omega) ⟨[((2,0),(2,0))], rfl, ?_, ?_⟩
            · simp [wkEnv, lk, renV, renAt, renTo, w', hn]
            · simp [wkMem, wkLoc, Mem.get, assoc, renBlk, renSegs, renSg, renAt, renTo]
        · obtain rfl : x = k := by omega
          cases hb : kpR p x
          · rw [hb] at hs1
            simp only [absE, absL, absF, reduceCtorEq, ↓reduceIte, Nat.reduceEqDiff, Nat.reduceAdd, Nat.reduceLT, Nat.reduceMul, Nat.reduceSub, Nat.reduceLeDiff, Int.reduceLT, Int.reduceLE, Int.reduceEq, Option.isSome_some, implies_true, false_implies, Prod.mk.injEq, ne_eq, not_false_eq_true, not_true_eq_false, ge_iff_le, gt_iff_lt, Int.toNat_natCast, Int.reduceToNat, Int.cast_ofNat_Int, Int.natCast_nonneg, h']
            refine LoopNext.intro (i + 1) (by omega) (by omega) ⟨[((2,0),(2,0))], rfl, ?_, ?_⟩
            · simp [wkEnv, lk, renV, renAt, renTo, w, hs1]
            · simp [wkMem, wkLoc, Mem.get, assoc, renBlk, renSegs, renSg, renAt, renTo, hs1]
          · rw [hb, if_pos rfl] at hs1
            have v1 : 0 + i * 10 + 10 ≤ L.length * 10 := by omega
            have v2 : 0 + i * 10 < L.length * 10 := by omega
            have kp : (L.flatten.drop (0 + i * 10)).take 10 = p := by rw [Nat.zero_add]; exact hfg
            have hpl := hp.len
            have m1 : (keepR L x i).length * 10 + 10 = ((keepR L x i).length + 1) * 10 := by omega
            have fl : (keepR L x i).flatten ++ p = (keepR L x (i + 1)).flatten := by rw [hs1, List.flatten_append, List.flatten_singleton]
            have ln : (keepR L x (i + 1)).length = (keepR L x i).length + 1 := by rw [hs1]; simp
            simp only [absE, absL, absF, reduceCtorEq, ↓reduceIte, Nat.reduceEqDiff, Nat.reduceAdd, Nat.reduceLT, Nat.reduceMul, Nat.reduceSub, Nat.reduceLeDiff, Int.reduceLT, Int.reduceLE, Int.reduceEq, Option.isSome_some, implies_true, false_implies, Prod.mk.injEq, ne_eq, not_false_eq_true, not_true_eq_false, ge_iff_le, gt_iff_lt, Int.toNat_natCast, Int.reduceToNat, Int.cast_ofNat_Int, Int.natCast_nonneg, h', h, v1, v2, kp]
            refine ite_b (fun h10 hy => ?_) (fun h10 => by omega) ?_
            · have e1 : L.flatten = p := by rw [← kp, show 0 + i * 10 = 0 by omega, List.drop_zero, List.take_of_length_le (by rw [flat_len hM]; omega)]
              rw [h10, e1] at hy ⊢
              exact ⟨by omega, rfl, by rw [if_pos rfl]; exact hy⟩
            · repeat refine And.intro (by omega) ?_
              refine LoopNext.intro (i + 1) (by omega) (by omega) ⟨[((20,0),(2,0))], rfl, ?_, ?_⟩
              · simp [wkEnv, lk, renV, renAt, renTo, w, ln]
              · simp [wkMem, wkLoc, Mem.get, assoc, renBlk, renSegs, renSg, renAt, renTo, m1, fl, ln]
    · obtain rfl : i = L.length := by omega
      simp only [absE, absL, absF, reduceCtorEq, ↓reduceIte, Nat.reduceEqDiff, Nat.reduceAdd, Nat.reduceLT, Nat.reduceMul, Nat.reduceSub, Nat.reduceLeDiff, Int.reduceLT, Int.reduceLE, Int.reduceEq, Option.isSome_some, implies_true, false_implies, Prod.mk.injEq, ne_eq, not_false_eq_true, not_true_eq_false, ge_iff_le, gt_iff_lt, Int.toNat_natCast, Int.reduceToNat, Int.cast_ofNat_Int, Int.natCast_nonneg, h, Try.results100]
      exact ⟨[(2, 0)], by simp, by simp, by simp [renV, renAt, renFin, idx, keepR_all], by simp [renBlk, renSegs, renSg], by simp [Mem.get, assoc, renBlk, renSegs, renSg, keepR_all]⟩

/-! the orbit of a number -/
def rwL (b : List Int) (j : Nat) : List Int := (b.drop (0 + j * 10)).take 10
def lvS (base : Nat) (hs : List Bool) (b : List Int) : Segs := [(0, .ints .i64 1 [(base : Int)]), (1, .bools 10 hs), (11, .ints .u8 100 b)]
def qB (Q : List Nat) : Blk := .lv true [(0, .ints .i64 Q.length (Q.map Int.ofNat))]
def InL (L : List (List Int)) : List Int → Prop := fun s => s ∈ L
structure Orb (N : Nat) (L : List (List Int)) (base : Nat) (hs : List Bool) (b : List Int) : Prop where
  hl : hs.length = 10
  bb : Bytes 100 b
  one : hs.getD base false = true ∧ rwL b base = idL N
  ok : ∀ j, hs.getD j false = true → j < N ∧ Gen N (InL L) (rwL b j) ∧ pl (rwL b j) base = j
structure OrbQ (N : Nat) (L : List (List Int)) (base : Nat) (hs : List Bool) (b : List Int) (Q : List Nat) (k i : Nat) : Prop where
  o : Orb N L base hs b
  nd : Q.Nodup
  mem : ∀ j, j ∈ Q ↔ hs.getD j false = true
  done : ∀ m, m < k → ∀ s ∈ L, hs.getD (pl s (Q.getD m 0)) false = true
  cur : ∀ m, m < i → hs.getD (pl (L.getD m []) (Q.getD k 0)) false = true
  kl : k ≤ Q.length
theorem OrbQ.le {N : Nat} {L : List (List Int)} {base : Nat} {hs : List Bool} {b : List Int} {Q : List Nat} {k i : Nat} (h : OrbQ N L base hs b Q k i) : Q.length ≤ N := by
  have := len_le_of_sub (l2 := List.range N) h.nd fun x hx => List.mem_range.2 (h.o.ok x ((h.mem x).1 hx)).1
  simpa using this
theorem OrbQ.qk {N : Nat} {L : List (List Int)} {base : Nat} {hs : List Bool} {b : List Int} {Q : List Nat} {k i : Nat} (h : OrbQ N L base hs b Q k i) (hk : k < Q.length) : Q.getD k 0 < N ∧ hs.getD (Q.getD k 0) false = true := by
  have hm : Q.getD k 0 ∈ Q := by rw [List.getD_eq_getElem?_getD, List.getElem?_eq_getElem hk]; exact List.getElem_mem hk
  have := (h.mem _).1 hm
  exact ⟨(h.o.ok _ this).1, this⟩
theorem rwL_len {b : List Int} {j : Nat} (hb : b.length = 100) (hj : j < 10) : (rwL b j).length = 10 := by unfold rwL; exact sub_length (by omega)
theorem rwL_spl {b r : List Int} {i j : Nat} (hb : b.length = 100) (hr : r.length = 10) (hi : i < 10) (hj : j < 10) : rwL (spl b (0 + i * 10) r) j = if j = i then r else rwL b j := by
  have hle : 0 + i * 10 + r.length ≤ b.length := by omega
  refine ext_getD ?_ fun m hm => ?_
  · rw [rwL_len (by rw [spl_length hle]; exact hb) hj]; split
    · exact hr.symm
    · exact (rwL_len hb hj).symm
  · rw [rwL_len (by rw [spl_length hle]; exact hb) hj] at hm
    unfold rwL
    rw [getD_sub, if_pos hm, getD_spl hle]
    by_cases e : j = i
    · subst e; rw [if_pos (by omega), if_pos rfl]; congr 1; omega
    · rw [if_neg (by omega), if_neg e, getD_sub, if_pos hm]
theorem bytes_spl {b r : List Int} {i : Nat} (hb : Bytes 100 b) (hr : Bytes 10 r) (hi : i < 10) : Bytes 100 (spl b (0 + i * 10) r) := by
  have hle : 0 + i * 10 + r.length ≤ b.length := by rw [hb.len, hr.len]; omega
  refine ⟨by rw [spl_length hle]; exact hb.len, fun m => ?_⟩
  rw [getD_spl hle]
  split
  · exact hr.rng _
  · exact hb.rng _
theorem OrbQ.next {N : Nat} {L : List (List Int)} {base : Nat} {hs : List Bool} {b : List Int} {Q : List Nat} {k i : Nat} (h : OrbQ N L base hs b Q k i) (hx : hs.getD (pl (L.getD i []) (Q.getD k 0)) false = true) : OrbQ N L base hs b Q k (i + 1) :=
  ⟨h.o, h.nd, h.mem, h.done, fun m hm => by
    by_cases e : m = i
    · subst e; exact hx
    · exact h.cur m (by omega), h.kl⟩
theorem OrbQ.turn {N : Nat} {L : List (List Int)} {base : Nat} {hs : List Bool} {b : List Int} {Q : List Nat} {k : Nat} (h : OrbQ N L base hs b Q k L.length) (hk : k < Q.length) : OrbQ N L base hs b Q (k + 1) 0 :=
  ⟨h.o, h.nd, h.mem, fun m hm s hs' => by
    by_cases e : m = k
    · subst e
      obtain ⟨i, hi, rfl⟩ := List.getElem_of_mem hs'
      have := h.cur i hi
      rwa [show L.getD i [] = L[i] by simp [hi]] at this
    · exact h.done m (by omega) s hs', fun m hm => absurd hm (by omega), hk⟩
theorem OrbQ.grow {N : Nat} (hN : N ≤ 10) {L : List (List Int)} (hL : ∀ p ∈ L, Vp N p) {base : Nat} (hb : base < N) {hs : List Bool} {b : List Int} {Q : List Nat} {k i : Nat} (h : OrbQ N L base hs b Q k i) (hk : k < Q.length) (hi : i < L.length) (hx : hs.getD (pl (L.getD i []) (Q.getD k 0)) false = false) :
    OrbQ N L base (hs.set (pl (L.getD i []) (Q.getD k 0)) true) (spl b (0 + pl (L.getD i []) (Q.getD k 0) * 10) (th N (rwL b (Q.getD k 0)) (L.getD i []))) (Q ++ [pl (L.getD i []) (Q.getD k 0)]) k (i + 1) := by
  obtain ⟨hq, hqh⟩ := h.qk hk
  have hpm := getD_mem hi
  have hp := hL _ hpm
  obtain ⟨_, hg, hqb⟩ := h.o.ok _ hqh
  have hgv := hg.vp hN (S := InL L) hL
  have hto := hp.lt hN hq
  have htb : pl (th N (rwL b (Q.getD k 0)) (L.getD i [])) base = pl (L.getD i []) (Q.getD k 0) := by rw [pl_th hN hb, hqb]
  have hgn := Gen.step hg (show InL L _ from hpm)
  have hgt := hgn.vp hN (S := InL L) hL
  have hkd : ∀ m, m < Q.length → (Q ++ [pl (L.getD i []) (Q.getD k 0)]).getD m 0 = Q.getD m 0 := fun m hm => by
    rw [List.getD_eq_getElem?_getD, List.getElem?_append_left hm, ← List.getD_eq_getElem?_getD]
  have hcur := h.cur
  generalize hr : th N (rwL b (Q.getD k 0)) (L.getD i []) = r at htb hgn hgt ⊢
  generalize hte : pl (L.getD i []) (Q.getD k 0) = to at hx hto htb hkd ⊢
  have hset : ∀ j, (hs.set to true).getD j false = if to = j then true else hs.getD j false := fun j => getD_setb (by rw [h.o.hl]; omega)
  have hmono : ∀ j, hs.getD j false = true → (hs.set to true).getD j false = true := fun j hj => by
    rw [hset]; split
    · rfl
    · exact hj
  have hrw : ∀ j, j < 10 → rwL (spl b (0 + to * 10) r) j = if j = to then r else rwL b j := fun j hj => rwL_spl h.o.bb.len hgt.by_.len (by omega) hj
  refine ⟨⟨by rw [List.length_set]; exact h.o.hl, bytes_spl h.o.bb hgt.by_ (by omega), ⟨hmono _ h.o.one.1, ?_⟩, fun j hj => ?_⟩, ?_, fun j => ?_, fun m hm s hs' => ?_, fun m hm => ?_, ?_⟩
  · rw [hrw base (by omega), if_neg (fun e => by rw [← e, h.o.one.1] at hx; cases hx)]; exact h.o.one.2
  · rw [hset] at hj
    by_cases e : to = j
    · subst e
      rw [hrw _ (by omega), if_pos rfl]; exact ⟨hto, hgn, htb⟩
    · rw [if_neg e] at hj
      obtain ⟨h1, h2, h3⟩ := h.o.ok j hj
      rw [hrw _ (by omega), if_neg (fun e2 => e e2.symm)]; exact ⟨h1, h2, h3⟩
  · rw [List.nodup_append]
    refine ⟨h.nd, by simp, fun x hx' y hy e => ?_⟩
    simp at hy
    rw [e, hy, h.mem, hx] at hx'; cases hx'
  · rw [List.mem_append, List.mem_singleton, h.mem, hset]
    by_cases e : to = j
    · subst e; simp
    · rw [if_neg e]; exact ⟨fun h => h.elim id fun h => absurd h.symm e, .inl⟩
  · rw [hkd m (by omega)]; exact hmono _ (h.done m hm s hs')
  · rw [hkd k hk]
    by_cases e : m = i
    · subst e; rw [hte, hset, if_pos rfl]
    · exact hmono _ (hcur m (by omega))
  · rw [List.length_append]; have := h.kl; omega
theorem OrbQ.init {N : Nat} (hN : N ≤ 10) {L : List (List Int)} {base : Nat} (hb : base < N) : OrbQ N L base ((List.replicate 10 false).set (0 + base * 1) true) (spl (List.replicate 100 0) (0 + base * 10) (idL N)) [base] 0 0 := by
  have hz : Bytes 100 (List.replicate 100 (0 : Int)) := ⟨by simp, fun m => by rw [getD_rep0]; omega⟩
  have hi := (vp_id hN).by_
  have hset : ∀ j, ((List.replicate 10 false).set (0 + base * 1) true).getD j false = if base = j then true else false := fun j => by
    rw [Nat.zero_add, Nat.mul_one, getD_setb (by simp; omega), getD_repf]
  have hrw : rwL (spl (List.replicate 100 0) (0 + base * 10) (idL N)) base = idL N := by rw [rwL_spl hz.len hi.len (by omega) (by omega), if_pos rfl]
  refine ⟨⟨by simp, bytes_spl hz hi (by omega), ⟨by rw [hset, if_pos rfl], hrw⟩, fun j hj => ?_⟩, by simp, fun j => ?_, fun m hm => absurd hm (by omega), fun m hm => absurd hm (by omega), by simp⟩
  · rw [hset] at hj
    by_cases e : base = j
    · subst e; rw [hrw]; exact ⟨hb, .one, pl_id hN hb⟩
    · rw [if_neg e] at hj; cases hj
  · rw [hset, List.mem_singleton]
    by_cases e : base = j
    · subst e; simp
    · rw [if_neg e]; exact ⟨fun h => absurd h.symm e, fun h => by cases h⟩
/-- all are reached -/
theorem OrbQ.all {N : Nat} (hN : N ≤ 10) {L : List (List Int)} (hL : ∀ p ∈ L, Vp N p) {base : Nat} (hb : base < N) {hs : List Bool} {b : List Int} {Q : List Nat} (h : OrbQ N L base hs b Q Q.length 0) {j : Nat} : hs.getD j false = true ↔ ∃ p, Gen N (InL L) p ∧ pl p base = j := by
  constructor
  · intro hj
    obtain ⟨_, h2, h3⟩ := h.o.ok j hj
    exact ⟨_, h2, h3⟩
  · rintro ⟨p, hp, rfl⟩
    induction hp with
    | one => rw [pl_id hN hb]; exact h.o.one.1
    | step hp hs' ih =>
      rw [pl_th hN hb]
      have hm := (h.mem _).2 ih
      obtain ⟨m, hm1, hm2⟩ := List.getElem_of_mem hm
      have := h.done m hm1 _ hs'
      rwa [show Q.getD m 0 = Q[m] by simp [hm1], hm2] at this

/-! l04Orbit -/
theorem qmap_get {Q : List Nat} {k : Nat} : (Q.map Int.ofNat).getD (0 + k * 1) 0 = ((Q.getD k 0 : Nat) : Int) := by
  rw [Nat.zero_add, Nat.mul_one, List.getD_eq_getElem?_getD, List.getElem?_map, List.getD_eq_getElem?_getD]
  cases Q[k]? <;> rfl
theorem orbit_ok (N base : Nat) (hN : N ≤ 10) (hb : base < N) (L : List (List Int)) (hL : ∀ p ∈ L, Vp N p) (hl : L.length ≤ 1000000) :
    ACalls Try.prog 99 [.i .i64 base, .ref (.sl 0 0 0 0 L.length 10), .i .i64 N] [plB L] (fun v ms ns => ∃ hs b Q, OrbQ N L base hs b Q Q.length 0 ∧ v = .agg (lvS base hs b) ∧ ms = [plB L] ∧ ns = []) := by
  have hM : Maps L := fun p hp => (hL p hp).by_.len
  have b10 : (base : Int) < 10 := by omega
  have b1 : 0 + base * 10 + 10 ≤ 100 := by omega
  have b2 : 0 + base * 1 < 10 := by omega
  unfold plB
  refine acalls_of_body mix Try.func99 rfl fok99 (Nat.le_of_ble_eq_true rfl) ?_
  unfold abody
  simp only [absE, absL, absF, reduceCtorEq, ↓reduceIte, Nat.reduceEqDiff, Nat.reduceAdd, Nat.reduceLT, Nat.reduceMul, Nat.reduceSub, Nat.reduceLeDiff, Int.reduceLT, Int.reduceLE, Int.reduceEq, Option.isSome_some, implies_true, false_implies, Prod.mk.injEq, ne_eq, not_false_eq_true, not_true_eq_false, ge_iff_le, gt_iff_lt, Int.toNat_natCast, Int.reduceToNat, Int.cast_ofNat_Int, Int.natCast_nonneg, b10, b1, b2, Try.f99]
  refine And.intro (by omega) ?_
  refine CallsVia.none (specSame_ok N hN) ?_
  rintro _ _ _ ⟨rfl, rfl, rfl⟩
  simp only [absE, absL, absF, reduceCtorEq, ↓reduceIte, Nat.reduceEqDiff, Nat.reduceAdd, Nat.reduceLT, Nat.reduceMul, Nat.reduceSub, Nat.reduceLeDiff, Int.reduceLT, Int.reduceLE, Int.reduceEq, Option.isSome_some, implies_true, false_implies, Prod.mk.injEq, ne_eq, not_false_eq_true, not_true_eq_false, ge_iff_le, gt_iff_lt, Int.toNat_natCast, Int.reduceToNat, Int.cast_ofNat_Int, Int.natCast_nonneg, b10, b1, b2]
  have h0 := OrbQ.init (L := L) hN hb
  generalize (List.replicate 10 false).set (0 + base * 1) true = hs0 at h0 ⊢
  generalize spl (List.replicate 100 0) (0 + base * 10) (idL N) = c0 at h0 ⊢
  refine awpLoop.intro (fun s : List Bool × List Int × List Nat × Nat => [(0, .i .i64 base), (1, .ref (.sl 0 0 0 0 L.length 10)), (2, .i .i64 N), (6, .ref (.ptr 1 0 0 0)), (7, .ref (.ptr 4 0 0 0)), (8, .ref (.sl 17 0 0 0 s.2.2.1.length 1)), (9, .i .i64 s.2.2.2)]) (fun s => ⟨[.lv true [(0, .ints .u8 (L.length * 10) L.flatten)]], [((1, 0), .lv true [(0, .ints .i64 1 [0]), (1, .bools 10 (List.replicate 10 false)), (11, .ints .u8 100 (List.replicate 100 0))]), ((4, 0), .lv true (lvS base s.1 s.2.1)), ((17, 0), qB s.2.2.1)], 30⟩)
    (fun s => OrbQ N L base s.1 s.2.1 s.2.2.1 s.2.2.2 0) (fun s => 10 - s.2.2.2) (hs0, c0, [base], 0) h0 ⟨[((1,0),(1,0)), ((4,0),(4,0)), ((17,0),(17,0))], rfl, ?_, ?_⟩ ?_
  · simp [wkEnv, lk, renV, renAt, renTo]
  · simp [wkMem, wkLoc, Mem.get, assoc, renBlk, renSegs, renSg, renAt, renTo, lvS, qB]
  · rintro ⟨hs1, c1, Q1, k⟩ h1
    simp only at h1
    have hle := h1.le
    unfold lvS qB
    by_cases h : (k : Int) < Q1.length
    · have hk : k < Q1.length := by omega
      have w := wrap_i64s (show k < 2 ^ 62 by omega)
      simp only [absE, absL, absF, reduceCtorEq, ↓reduceIte, Nat.reduceEqDiff, Nat.reduceAdd, Nat.reduceLT, Nat.reduceMul, Nat.reduceSub, Nat.reduceLeDiff, Int.reduceLT, Int.reduceLE, Int.reduceEq, Option.isSome_some, implies_true, false_implies, Prod.mk.injEq, ne_eq, not_false_eq_true, not_true_eq_false, ge_iff_le, gt_iff_lt, Int.toNat_natCast, Int.reduceToNat, Int.cast_ofNat_Int, Int.natCast_nonneg, h]
      refine awpLoop.intro (fun s : List Bool × List Int × List Nat × Nat => [(0, .i .i64 base), (1, .ref (.sl 0 0 0 0 L.length 10)), (2, .i .i64 N), (6, .ref (.ptr 1 0 0 0)), (7, .ref (.ptr 4 0 0 0)), (8, .ref (.sl 17 0 0 0 s.2.2.1.length 1)), (9, .i .i64 k), (10, .i .i64 s.2.2.2)]) (fun s => ⟨[.lv true [(0, .ints .u8 (L.length * 10) L.flatten)]], [((1, 0), .lv true [(0, .ints .i64 1 [0]), (1, .bools 10 (List.replicate 10 false)), (11, .ints .u8 100 (List.replicate 100 0))]), ((4, 0), .lv true (lvS base s.1 s.2.1)), ((17, 0), qB s.2.2.1)], 40⟩)
        (fun s => OrbQ N L base s.1 s.2.1 s.2.2.1 k s.2.2.2 ∧ k < s.2.2.1.length ∧ s.2.2.2 ≤ L.length) (fun s => L.length - s.2.2.2) (hs1, c1, Q1, 0) ⟨h1, hk, by simp⟩ ⟨[((1,0),(1,0)), ((4,0),(4,0)), ((17,0),(17,0))], rfl, ?_, ?_⟩ ?_
      · simp [wkEnv, lk, renV, renAt, renTo]
      · simp [wkMem, wkLoc, Mem.get, assoc, renBlk, renSegs, renSg, renAt, renTo, lvS, qB]
      · rintro ⟨hs2, c2, Q2, i⟩ ⟨h2, hk2, hi⟩
        simp only at h2 hk2 hi
        have hle2 := h2.le
        unfold lvS qB
        by_cases h' : (i : Int) < L.length
        · have hi2 : i < L.length := by omega
          have w' := wrap_i64s (show i < 2 ^ 62 by omega)
          obtain ⟨hq, hqh⟩ := h2.qk hk2
          have hp := hL _ (getD_mem hi2)
          have hto := hp.lt hN hq
          have hnx := h2.next
          have hrv := ((h2.o.ok _ hqh).2.1).vp hN (S := InL L) hL
          have hgr := h2.grow hN hL hb hk2 hi2
          have hfc := flat_cell hM hi2 (show Q2.getD k 0 < 10 by omega)
          have hfg := flat_get hM hi2
          have hQm := qmap_get (Q := Q2) (k := k)
          have hql := h2.o.hl
          have hbb := h2.o.bb.len
          generalize L.getD i [] = p at hp hto hnx hgr hfc hfg
          generalize Q2.getD k 0 = q at hq hqh hto hnx hgr hfc hQm hrv
          have e1 : L.flatten.getD (0 + i * 10 + q * 1) 0 = (pl p q : Int) := by rw [Nat.zero_add, Nat.mul_one, hfc]; exact hp.by_.place q
          have wp := wrap_i64n (show pl p q < 2 ^ 62 by omega)
          have v1 : 0 + k * 1 < Q2.length := by omega
          have q10 : (q : Int) < 10 := by omega
          have v2 : 0 + i * 10 + q * 1 < L.length * 10 := by omega
          have t10 : (pl p q : Int) < 10 := by omega
          have v3 : 0 + pl p q * 1 < 10 := by omega
          have hk3 : (k : Int) < Q2.length := by omega
          have eh : hs2.getD (0 + pl p q * 1) false = hs2.getD (pl p q) false := by rw [Nat.zero_add, Nat.mul_one]
          simp only [absE, absL, absF, reduceCtorEq, ↓reduceIte, Nat.reduceEqDiff, Nat.reduceAdd, Nat.reduceLT, Nat.reduceMul, Nat.reduceSub, Nat.reduceLeDiff, Int.reduceLT, Int.reduceLE, Int.reduceEq, Option.isSome_some, implies_true, false_implies, Prod.mk.injEq, ne_eq, not_false_eq_true, not_true_eq_false, ge_iff_le, gt_iff_lt, Int.toNat_natCast, Int.reduceToNat, Int.cast_ofNat_Int, Int.natCast_nonneg, h', hk3, v1, hQm, q10, v2, e1, wp, t10, v3, eh]
          cases hx : hs2.getD (pl p q) false
          · have b3 : 0 + q * 10 + 10 ≤ 100 := by omega
            have b4 : 0 + pl p q * 1 + 1 ≤ 10 := by omega
            have b5 : 0 + pl p q * 10 + 10 ≤ 100 := by omega
            have b6 : 0 + pl p q * 1 ≤ 9 := by omega
            have q9 : (0 + q * 10 + 10 ≤ 100) = True := by simp; omega
            have v4 : 0 + i * 10 + 10 ≤ L.length * 10 := by omega
            have v5 : 0 + i * 10 < L.length * 10 := by omega
            have kp : (L.flatten.drop (0 + i * 10)).take 10 = p := by rw [Nat.zero_add]; exact hfg
            have hrl : (c2.drop (0 + q * 10)).take 10 = rwL c2 q := rfl
            have eset : hs2.set (0 + pl p q * 1) true = hs2.set (pl p q) true := by rw [Nat.zero_add, Nat.mul_one]
            simp only [absE, absL, absF, reduceCtorEq, ↓reduceIte, Nat.reduceEqDiff, Nat.reduceAdd, Nat.reduceLT, Nat.reduceMul, Nat.reduceSub, Nat.reduceLeDiff, Int.reduceLT, Int.reduceLE, Int.reduceEq, Option.isSome_some, implies_true, false_implies, Prod.mk.injEq, ne_eq, not_false_eq_true, not_true_eq_false, ge_iff_le, gt_iff_lt, Int.toNat_natCast, Int.reduceToNat, Int.cast_ofNat_Int, Int.natCast_nonneg, h', hk3, v1, hQm, q10, t10, v3, b3, b4, b5, b6, v4, v5, kp, hrl, eset]
            refine ite_b (fun h10 hy => ?_) (fun h10 => by omega) ?_
            · have e2 : L.flatten = p := by rw [← kp, show 0 + i * 10 = 0 by omega, List.drop_zero, List.take_of_length_le (by rw [flat_len hM]; omega)]
              rw [h10, e2] at hy ⊢
              exact ⟨by omega, hy⟩
            · repeat refine And.intro (by omega) ?_
              refine CallsX.none (specThen_ok N (rwL c2 q) p hrv.by_ hp.by_ hN (fun x hx => by have := hrv.lt hN hx; omega)) ?_
              have gr := hgr hx
              have hcl : (spl c2 (0 + pl p q * 10) (th N (rwL c2 q) p)).length = 100 := gr.o.bb.len
              have hql2 := gr.le
              have fold : mapL (fun i => pl p (pl (rwL c2 q) i)) N = th N (rwL c2 q) p := rfl
              simp only [absE, absL, absF, reduceCtorEq, ↓reduceIte, Nat.reduceEqDiff, Nat.reduceAdd, Nat.reduceLT, Nat.reduceMul, Nat.reduceSub, Nat.reduceLeDiff, Int.reduceLT, Int.reduceLE, Int.reduceEq, Option.isSome_some, implies_true, false_implies, Prod.mk.injEq, ne_eq, not_false_eq_true, not_true_eq_false, ge_iff_le, gt_iff_lt, Int.toNat_natCast, Int.reduceToNat, Int.cast_ofNat_Int, Int.natCast_nonneg, h', hk3, v1, hQm, q10, t10, v3, b3, b4, b5, b6, v4, v5, fold]
              repeat refine And.intro (by decide +kernel) ?_
              repeat first | refine And.intro (by decide +kernel) ?_ | refine And.intro (by omega) ?_
              have m1 : Q2.length * 1 = Q2.length := Nat.mul_one _
              have l3 : (Q2 ++ [pl p q]).length = Q2.length + 1 := by simp
              simp only [absE, absL, absF, reduceCtorEq, ↓reduceIte, Nat.reduceEqDiff, Nat.reduceAdd, Nat.reduceLT, Nat.reduceMul, Nat.reduceSub, Nat.reduceLeDiff, Int.reduceLT, Int.reduceLE, Int.reduceEq, Option.isSome_some, implies_true, false_implies, Prod.mk.injEq, ne_eq, not_false_eq_true, not_true_eq_false, ge_iff_le, gt_iff_lt, Int.toNat_natCast, Int.reduceToNat, Int.cast_ofNat_Int, Int.natCast_nonneg, m1]
              refine LoopNext.intro (hs2.set (pl p q) true, spl c2 (0 + pl p q * 10) (th N (rwL c2 q) p), Q2 ++ [pl p q], i + 1) ⟨gr, by simp only; omega, by simp only; omega⟩ (by simp only; omega) ⟨[((1,0),(1,0)), ((4,0),(4,0)), ((84,0),(17,0))], rfl, ?_, ?_⟩
              · simp [wkEnv, lk, renV, renAt, renTo, w']
              · simp [wkMem, wkLoc, Mem.get, assoc, renBlk, renSegs, renSg, renAt, renTo, lvS, qB]
          · simp only [absE, absL, absF, reduceCtorEq, ↓reduceIte, Nat.reduceEqDiff, Nat.reduceAdd, Nat.reduceLT, Nat.reduceMul, Nat.reduceSub, Nat.reduceLeDiff, Int.reduceLT, Int.reduceLE, Int.reduceEq, Option.isSome_some, implies_true, false_implies, Prod.mk.injEq, ne_eq, not_false_eq_true, not_true_eq_false, ge_iff_le, gt_iff_lt, Int.toNat_natCast, Int.reduceToNat, Int.cast_ofNat_Int, Int.natCast_nonneg]
            refine LoopNext.intro (hs2, c2, Q2, i + 1) ⟨hnx hx, hk2, by simp only; omega⟩ (by simp only; omega) ⟨[((1,0),(1,0)), ((4,0),(4,0)), ((17,0),(17,0))], rfl, ?_, ?_⟩
            · simp [wkEnv, lk, renV, renAt, renTo, w']
            · simp [wkMem, wkLoc, Mem.get, assoc, renBlk, renSegs, renSg, renAt, renTo, lvS, qB]
        · obtain rfl : i = L.length := by omega
          simp only [absE, absL, absF, reduceCtorEq, ↓reduceIte, Nat.reduceEqDiff, Nat.reduceAdd, Nat.reduceLT, Nat.reduceMul, Nat.reduceSub, Nat.reduceLeDiff, Int.reduceLT, Int.reduceLE, Int.reduceEq, Option.isSome_some, implies_true, false_implies, Prod.mk.injEq, ne_eq, not_false_eq_true, not_true_eq_false, ge_iff_le, gt_iff_lt, Int.toNat_natCast, Int.reduceToNat, Int.cast_ofNat_Int, Int.natCast_nonneg, h']
          refine LoopNext.intro (hs2, c2, Q2, k + 1) (h2.turn hk2) (by simp only; omega) ⟨[((1,0),(1,0)), ((4,0),(4,0)), ((17,0),(17,0))], rfl, ?_, ?_⟩
          · simp [wkEnv, lk, renV, renAt, renTo, w]
          · simp [wkMem, wkLoc, Mem.get, assoc, renBlk, renSegs, renSg, renAt, renTo, lvS, qB]
    · obtain rfl : k = Q1.length := by have := h1.kl; omega
      simp only [absE, absL, absF, reduceCtorEq, ↓reduceIte, Nat.reduceEqDiff, Nat.reduceAdd, Nat.reduceLT, Nat.reduceMul, Nat.reduceSub, Nat.reduceLeDiff, Int.reduceLT, Int.reduceLE, Int.reduceEq, Option.isSome_some, implies_true, false_implies, Prod.mk.injEq, ne_eq, not_false_eq_true, not_true_eq_false, ge_iff_le, gt_iff_lt, Int.toNat_natCast, Int.reduceToNat, Int.cast_ofNat_Int, Int.natCast_nonneg, h, Try.results99]
      exact ⟨[], by simp, by simp, hs1, c1, Q1, h1, by simp [renV, renSegs, renSg, lvS], by simp [renBlk, renSegs, renSg], by simp⟩

/-! chains of levels: l04Build -/
abbrev Lv := List Bool × List Int
def chS (k : Nat) : List Lv → Segs
  | [] => []
  | x :: r => (k * 111, .ints .i64 1 [(k : Int)]) :: (k * 111 + 1, .bools 10 x.1) :: (k * 111 + 11, .ints .u8 100 x.2) :: chS (k + 1) r
theorem chS_app : ∀ {CH : List Lv} {k : Nat} {x : Lv}, chS k (CH ++ [x]) = chS k CH ++ shiftSg ((k + CH.length) * 111) (lvS (k + CH.length) x.1 x.2)
  | [], k, x => by simp [chS, lvS, shiftSg]
  | y :: r, k, x => by
    rw [List.cons_append, chS, chS_app, chS, List.length_cons, show k + 1 + r.length = k + (r.length + 1) by omega]; rfl
theorem chS_len : ∀ {CH : List Lv} {k : Nat}, segsLen (chS k CH) = CH.length * 111
  | [], _ => rfl
  | x :: r, k => by simp only [chS, segsLen, Sg.len, chS_len, List.length_cons]; omega
theorem chS_ren {σ : Ren} : ∀ {CH : List Lv} {k : Nat}, renSegs σ (chS k CH) = chS k CH
  | [], _ => rfl
  | x :: r, k => by simp only [chS, renSegs, renSg, chS_ren]
theorem chS_seg : ∀ {CH : List Lv} {k i : Nat}, i < CH.length → seg? (chS k CH) ((k + i) * 111) = some (.ints .i64 1 [((k + i : Nat) : Int)]) ∧ seg? (chS k CH) ((k + i) * 111 + 1) = some (.bools 10 (CH.getD i ([], [])).1) ∧ seg? (chS k CH) ((k + i) * 111 + 11) = some (.ints .u8 100 (CH.getD i ([], [])).2)
  | [], _, _, h => absurd h (by simp)
  | x :: r, k, 0, _ => by
    refine ⟨by simp [chS, seg?], ?_, ?_⟩
    · simp [chS, seg?, show ¬ k * 111 = k * 111 + 1 by omega]
    · simp [chS, seg?, show ¬ k * 111 = k * 111 + 11 by omega]
  | x :: r, k, i + 1, h => by
    obtain ⟨h1, h2, h3⟩ := chS_seg (CH := r) (k := k + 1) (i := i) (by simpa using h)
    rw [show k + 1 + i = k + (i + 1) by omega] at h1 h2 h3
    refine ⟨?_, ?_, ?_⟩
    · rw [chS, seg?, if_neg (by omega), seg?, if_neg (by omega), seg?, if_neg (by omega)]; exact h1
    · rw [chS, seg?, if_neg (by omega), seg?, if_neg (by omega), seg?, if_neg (by omega)]; exact h2
    · rw [chS, seg?, if_neg (by omega), seg?, if_neg (by omega), seg?, if_neg (by omega)]; exact h3
theorem chS_at {CH : List Lv} {i : Nat} (h : i < CH.length) : seg? (chS 0 CH) (0 + (0 + i * 111) + 0) = some (.ints .i64 1 [(i : Int)]) ∧ seg? (chS 0 CH) (0 + (0 + i * 111) + 1) = some (.bools 10 (CH.getD i ([], [])).1) ∧ seg? (chS 0 CH) (0 + (0 + i * 111) + 11) = some (.ints .u8 100 (CH.getD i ([], [])).2) := by
  have := chS_seg (CH := CH) (k := 0) (i := i) h
  simpa only [Nat.zero_add, Nat.add_zero] using this
theorem chS_drop : ∀ {CH : List Lv} {k i : Nat}, i < CH.length → takeSz ((k + i) * 111) (dropTo (chS k CH) ((k + i) * 111)) 111 = some (lvS (k + i) (CH.getD i ([], [])).1 (CH.getD i ([], [])).2)
  | [], _, _, h => absurd h (by simp)
  | x :: r, k, 0, _ => by
    have : ∀ (g : Segs) (s : Nat), takeSz s g 0 = some [] := fun g s => by cases g <;> rfl
    simp [chS, dropTo, takeSz, Sg.len, lvS, this]
  | x :: r, k, i + 1, h => by
    have h1 := chS_drop (CH := r) (k := k + 1) (i := i) (by simpa using h)
    rw [show k + 1 + i = k + (i + 1) by omega] at h1
    rw [chS, dropTo, if_neg (by omega), dropTo, if_neg (by omega), dropTo, if_neg (by omega)]; exact h1
def hasC (CH : List Lv) : HasT := fun k j => (CH.getD k ([], [])).1.getD j false
def byC4 (CH : List Lv) : ByT := fun k j => rwL (CH.getD k ([], [])).2 j
/-- the first levels are the orbits by those that are kept -/
def BuiltQ (N : Nat) (L : List (List Int)) (CH : List Lv) : Prop := CH.length ≤ N ∧ ∀ k, k < CH.length → ∃ Q, OrbQ N (keepL L k) k (CH.getD k ([], [])).1 (CH.getD k ([], [])).2 Q Q.length 0
theorem BuiltQ.snoc {N : Nat} {L : List (List Int)} {CH : List Lv} {hs : List Bool} {b : List Int} {Q : List Nat} (h : BuiltQ N L CH) (hl : CH.length < N) (hq : OrbQ N (keepL L CH.length) CH.length hs b Q Q.length 0) : BuiltQ N L (CH ++ [(hs, b)]) := by
  refine ⟨by rw [List.length_append, List.length_singleton]; exact hl, fun k hk => ?_⟩
  rw [List.length_append, List.length_singleton] at hk
  by_cases e : k = CH.length
  · subst e
    refine ⟨Q, ?_⟩
    rw [List.getD_eq_getElem?_getD, List.getElem?_append_right (Nat.le_refl _), Nat.sub_self]; exact hq
  · obtain ⟨Q', hQ'⟩ := h.2 k (by omega)
    refine ⟨Q', ?_⟩
    rw [List.getD_eq_getElem?_getD, List.getElem?_append_left (by omega), ← List.getD_eq_getElem?_getD]; exact hQ'
theorem keepL_sub {L : List (List Int)} {k : Nat} {p : List Int} (h : p ∈ keepL L k) : p ∈ L ∧ ∀ x, x < k → pl p x = x := by
  unfold keepL at h
  rw [List.mem_filter] at h
  exact ⟨h.1, kpR_iff.1 h.2⟩
theorem build_ok (N : Nat) (hN : N ≤ 10) (L : List (List Int)) (hL : ∀ p ∈ L, Vp N p) (hl : L.length ≤ 1000000) :
    ACalls Try.prog 89 [.ref (.sl 0 0 0 0 L.length 10), .i .i64 N] [plB L] (fun v ms ns => ∃ CH, CH.length = N ∧ BuiltQ N L CH ∧ v = .ref (.sl 1 0 0 0 N 111) ∧ ms = [plB L] ∧ ns = [.lv true (chS 0 CH)]) := by
  refine acalls_of_body mix Try.func89 rfl fok89 (Nat.le_of_ble_eq_true rfl) ?_
  unfold abody
  simp only [absE, absL, absF, reduceCtorEq, ↓reduceIte, Nat.reduceEqDiff, Nat.reduceAdd, Nat.reduceLT, Nat.reduceMul, Nat.reduceSub, Nat.reduceLeDiff, Int.reduceLT, Int.reduceLE, Int.reduceEq, Option.isSome_some, implies_true, false_implies, Prod.mk.injEq, ne_eq, not_false_eq_true, not_true_eq_false, ge_iff_le, gt_iff_lt, Int.toNat_natCast, Int.reduceToNat, Int.cast_ofNat_Int, Int.natCast_nonneg, Try.f89]
  refine awpLoop.intro (fun CH : List Lv => [(0, .ref (.sl 0 0 0 0 L.length 10)), (1, .i .i64 N), (5, .ref (.sl 2 0 0 0 CH.length 111)), (6, .i .i64 CH.length)]) (fun CH => ⟨[plB L], [((2, 0), .lv true (chS 0 CH))], 5⟩)
    (fun CH => BuiltQ N L CH) (fun CH => N - CH.length) [] ⟨by simp, fun k hk => absurd hk (by simp)⟩ ⟨[((2,0),(2,0))], rfl, ?_, ?_⟩ ?_
  · simp [wkEnv, lk, renV, renAt, renTo]
  · simp [wkMem, wkLoc, Mem.get, assoc, renBlk, renSegs, renSg, renAt, renTo, chS, plB]
  · intro CH hC
    have hC1 := hC.1
    by_cases h : (CH.length : Int) < N
    · have w := wrap_i64s (show CH.length < 2 ^ 62 by omega)
      have hk := hL
      simp only [absE, absL, absF, reduceCtorEq, ↓reduceIte, Nat.reduceEqDiff, Nat.reduceAdd, Nat.reduceLT, Nat.reduceMul, Nat.reduceSub, Nat.reduceLeDiff, Int.reduceLT, Int.reduceLE, Int.reduceEq, Option.isSome_some, implies_true, false_implies, Prod.mk.injEq, ne_eq, not_false_eq_true, not_true_eq_false, ge_iff_le, gt_iff_lt, Int.toNat_natCast, Int.reduceToNat, Int.cast_ofNat_Int, Int.natCast_nonneg, h]
      refine CallsVia.args [(0, 0)] (keep_ok L CH.length (fun p hp => (hL p hp).by_) (by omega) hl) (by simp) (by simp [Mem.get, plB]) rfl (by simp [argBlks, Mem.get, plB_ren]) ?_
      rintro _ _ _ ⟨rfl, rfl, rfl⟩
      have hkl : (keepL L CH.length).length ≤ L.length := List.length_filter_le _ _
      simp only [absE, absL, absF, reduceCtorEq, ↓reduceIte, Nat.reduceEqDiff, Nat.reduceAdd, Nat.reduceLT, Nat.reduceMul, Nat.reduceSub, Nat.reduceLeDiff, Int.reduceLT, Int.reduceLE, Int.reduceEq, Option.isSome_some, implies_true, false_implies, Prod.mk.injEq, ne_eq, not_false_eq_true, not_true_eq_false, ge_iff_le, gt_iff_lt, Int.toNat_natCast, Int.reduceToNat, Int.cast_ofNat_Int, Int.natCast_nonneg, plB_ren]
      refine CallsVia.args [(12, 0)] (orbit_ok N CH.length hN (by omega) (keepL L CH.length) (fun p hp => hL p (keepL_sub hp).1) (by omega)) (by simp) (by simp [Mem.get, assoc, plB]) rfl (by simp [argBlks, Mem.get, assoc, plB_ren]) ?_
      rintro _ _ _ ⟨hs, b, Q, hq, rfl, rfl, rfl⟩
      unfold lvS
      simp only [absE, absL, absF, reduceCtorEq, ↓reduceIte, Nat.reduceEqDiff, Nat.reduceAdd, Nat.reduceLT, Nat.reduceMul, Nat.reduceSub, Nat.reduceLeDiff, Int.reduceLT, Int.reduceLE, Int.reduceEq, Option.isSome_some, implies_true, false_implies, Prod.mk.injEq, ne_eq, not_false_eq_true, not_true_eq_false, ge_iff_le, gt_iff_lt, Int.toNat_natCast, Int.reduceToNat, Int.cast_ofNat_Int, Int.natCast_nonneg, plB_ren]
      refine ⟨chS_len, by omega, ?_⟩
      have ea := chS_app (CH := CH) (k := 0) (x := (hs, b))
      simp only [Nat.zero_add, shiftSg, lvS] at ea
      have eln : (CH ++ [(hs, b)]).length = CH.length + 1 := by simp
      refine LoopNext.intro (CH ++ [(hs, b)]) (hC.snoc (by omega) hq) (by omega) ⟨[((16,0),(2,0))], rfl, ?_, ?_⟩
      · simp [wkEnv, lk, renV, renAt, renTo, w]
      · rw [← ea]; simp [wkMem, wkLoc, Mem.get, assoc, renBlk, renSegs, renSg, renTo, plB, chS_ren]
    · obtain rfl : CH.length = N := by omega
      simp only [absE, absL, absF, reduceCtorEq, ↓reduceIte, Nat.reduceEqDiff, Nat.reduceAdd, Nat.reduceLT, Nat.reduceMul, Nat.reduceSub, Nat.reduceLeDiff, Int.reduceLT, Int.reduceLE, Int.reduceEq, Option.isSome_some, implies_true, false_implies, Prod.mk.injEq, ne_eq, not_false_eq_true, not_true_eq_false, ge_iff_le, gt_iff_lt, Int.toNat_natCast, Int.reduceToNat, Int.cast_ofNat_Int, Int.natCast_nonneg, h, Try.results89]
      exact ⟨[(2, 0)], by simp, by simp, CH, rfl, hC, by simp [renV, renAt, renFin, idx], by simp [plB_ren], by simp [Mem.get, assoc, renBlk, chS_ren]⟩

/-! l04Sift -/
/-- what is left of a permutation behind the last d levels -/
def sftP (N : Nat) (has : HasT) (by_ : ByT) : Nat → List Int → List Int
  | 0, p => p
  | d + 1, p => if has (N - (d + 1)) (pl p (N - (d + 1))) = true then sftP N has by_ d (th N p (bk N (by_ (N - (d + 1)) (pl p (N - (d + 1)))))) else p
theorem sftP_lvl {N k : Nat} {has : HasT} {by_ : ByT} (hk : k < N) (p : List Int) : sftP N has by_ (N - k) p = if has k (pl p k) = true then sftP N has by_ (N - (k + 1)) (th N p (bk N (by_ k (pl p k)))) else p := by
  obtain ⟨d, hd⟩ : ∃ d, N - k = d + 1 := ⟨N - k - 1, by omega⟩
  rw [hd, sftP, show N - (d + 1) = k by omega, show N - (k + 1) = d by omega]
theorem sift_ok (N : Nat) (hN : N ≤ 10) (CH : List Lv) (hC : CH.length = N) (hv : ∀ k, k < N → ∀ j, j < N → hasC CH k j = true → Vp N (byC4 CH k j)) (p : List Int) (hp : Vp N p) :
    ACalls Try.prog 102 [.ref (.sl 0 0 0 0 N 111), .agg (plS p), .i .i64 N] [.lv true (chS 0 CH)] (fun v ms ns => (∃ k : Int, v = .tup [.agg (plS (sftP N (hasC CH) (byC4 CH) N p)), .i .i64 k]) ∧ ms = [.lv true (chS 0 CH)] ∧ ns = []) := by
  refine acalls_of_body mix Try.func102 rfl fok102 (Nat.le_of_ble_eq_true rfl) ?_
  unfold abody
  simp only [absE, absL, absF, reduceCtorEq, ↓reduceIte, Nat.reduceEqDiff, Nat.reduceAdd, Nat.reduceLT, Nat.reduceMul, Nat.reduceSub, Nat.reduceLeDiff, Int.reduceLT, Int.reduceLE, Int.reduceEq, Option.isSome_some, implies_true, false_implies, Prod.mk.injEq, ne_eq, not_false_eq_true, not_true_eq_false, ge_iff_le, gt_iff_lt, Int.toNat_natCast, Int.reduceToNat, Int.cast_ofNat_Int, Int.natCast_nonneg, Try.f102]
  refine awpLoop.intro (fun s : List Int × Nat => [(0, .ref (.sl 0 0 0 0 N 111)), (2, .i .i64 N), (4, .ref (.ptr 1 0 0 0)), (6, .ref (.ptr 2 0 0 0)), (8, .i .i64 s.2)]) (fun s => ⟨[.lv true (chS 0 CH)], [((1, 0), .lv true (plS s.1)), ((2, 0), .lv true (plS (List.replicate 10 0)))], 4⟩)
    (fun s => s.2 ≤ N ∧ Vp N s.1 ∧ sftP N (hasC CH) (byC4 CH) N p = sftP N (hasC CH) (byC4 CH) (N - s.2) s.1) (fun s => N - s.2) (p, 0) ⟨by simp, hp, rfl⟩ ⟨[((1,0),(1,0)), ((2,0),(2,0))], rfl, ?_, ?_⟩ ?_
  · simp [wkEnv, lk, renV, renAt, renTo]
  · simp [wkMem, wkLoc, Mem.get, assoc, renBlk, renSegs, renSg, renAt, renTo, chS_ren]
  · rintro ⟨r, k⟩ ⟨hk, hr, hs⟩
    simp only at hk hr hs
    by_cases h : (k : Int) < N
    · have hk2 : k < N := by omega
      have w := wrap_i64s (show k < 2 ^ 62 by omega)
      obtain ⟨g1, g2, g3⟩ := chS_at (CH := CH) (i := k) (by omega)
      have hj := hr.lt hN hk2
      have hvk := hv k hk2 _ hj
      rw [sftP_lvl hk2] at hs
      have e1 : r.getD (0 + k * 1) 0 = (pl r k : Int) := by rw [Nat.zero_add, Nat.mul_one]; exact hr.by_.place k
      have k10 : (k : Int) < 10 := by omega
      have v1 : 0 + k * 1 < 10 := by omega
      have j10 : (pl r k : Int) < 10 := by omega
      have v2 : 0 + pl r k * 1 < 10 := by omega
      have ej : (CH.getD k ([], [])).1.getD (0 + pl r k * 1) false = hasC CH k (pl r k) := by rw [Nat.zero_add, Nat.mul_one]; rfl
      have v3 : 0 + pl r k * 10 + 10 ≤ 100 := by omega
      have eb : ((CH.getD k ([], [])).2.drop (0 + pl r k * 10)).take 10 = byC4 CH k (pl r k) := rfl
      simp only [absE, absL, absF, reduceCtorEq, ↓reduceIte, Nat.reduceEqDiff, Nat.reduceAdd, Nat.reduceLT, Nat.reduceMul, Nat.reduceSub, Nat.reduceLeDiff, Int.reduceLT, Int.reduceLE, Int.reduceEq, Option.isSome_some, implies_true, false_implies, Prod.mk.injEq, ne_eq, not_false_eq_true, not_true_eq_false, ge_iff_le, gt_iff_lt, Int.toNat_natCast, Int.reduceToNat, Int.cast_ofNat_Int, Int.natCast_nonneg, h, g1, g2, g3, k10, v1, e1, j10, v2, ej]
      cases hh : hasC CH k (pl r k)
      · rw [hh, if_neg (by simp)] at hs
        simp only [absE, absL, absF, reduceCtorEq, ↓reduceIte, Nat.reduceEqDiff, Nat.reduceAdd, Nat.reduceLT, Nat.reduceMul, Nat.reduceSub, Nat.reduceLeDiff, Int.reduceLT, Int.reduceLE, Int.reduceEq, Option.isSome_some, implies_true, false_implies, Prod.mk.injEq, ne_eq, not_false_eq_true, not_true_eq_false, ge_iff_le, gt_iff_lt, Int.toNat_natCast, Int.reduceToNat, Int.cast_ofNat_Int, Int.natCast_nonneg, Try.results102]
        exact ⟨[], by simp, by simp, ⟨k, by simp [renV, renVs, renSegs, renSg, hs]⟩, by simp [renBlk, chS_ren], by simp⟩
      · rw [hh, if_pos rfl] at hs
        have hb := hvk hh
        simp only [absE, absL, absF, reduceCtorEq, ↓reduceIte, Nat.reduceEqDiff, Nat.reduceAdd, Nat.reduceLT, Nat.reduceMul, Nat.reduceSub, Nat.reduceLeDiff, Int.reduceLT, Int.reduceLE, Int.reduceEq, Option.isSome_some, implies_true, false_implies, Prod.mk.injEq, ne_eq, not_false_eq_true, not_true_eq_false, ge_iff_le, gt_iff_lt, Int.toNat_natCast, Int.reduceToNat, Int.cast_ofNat_Int, Int.natCast_nonneg, h, g1, g2, g3, k10, v1, e1, j10, v2, v3, eb]
        refine CallsX.none (specBack_ok N (byC4 CH k (pl r k)) hb.by_ hN (fun i hi => by have := hb.lt hN hi; omega)) ?_
        simp only [absE, absL, absF, reduceCtorEq, ↓reduceIte, Nat.reduceEqDiff, Nat.reduceAdd, Nat.reduceLT, Nat.reduceMul, Nat.reduceSub, Nat.reduceLeDiff, Int.reduceLT, Int.reduceLE, Int.reduceEq, Option.isSome_some, implies_true, false_implies, Prod.mk.injEq, ne_eq, not_false_eq_true, not_true_eq_false, ge_iff_le, gt_iff_lt, Int.toNat_natCast, Int.reduceToNat, Int.cast_ofNat_Int, Int.natCast_nonneg]
        repeat refine And.intro (by decide +kernel) ?_
        refine CallsX.none (specThen_ok N r (bkL (pl (byC4 CH k (pl r k))) N) hr.by_ (hb.bk hN).by_ hN (fun i hi => by have := hr.lt hN hi; omega)) ?_
        simp only [absE, absL, absF, reduceCtorEq, ↓reduceIte, Nat.reduceEqDiff, Nat.reduceAdd, Nat.reduceLT, Nat.reduceMul, Nat.reduceSub, Nat.reduceLeDiff, Int.reduceLT, Int.reduceLE, Int.reduceEq, Option.isSome_some, implies_true, false_implies, Prod.mk.injEq, ne_eq, not_false_eq_true, not_true_eq_false, ge_iff_le, gt_iff_lt, Int.toNat_natCast, Int.reduceToNat, Int.cast_ofNat_Int, Int.natCast_nonneg]
        repeat refine And.intro (by decide +kernel) ?_
        have fold : mapL (fun i => pl (bkL (pl (byC4 CH k (pl r k))) N) (pl r i)) N = th N r (bk N (byC4 CH k (pl r k))) := rfl
        simp only [absE, absL, absF, reduceCtorEq, ↓reduceIte, Nat.reduceEqDiff, Nat.reduceAdd, Nat.reduceLT, Nat.reduceMul, Nat.reduceSub, Nat.reduceLeDiff, Int.reduceLT, Int.reduceLE, Int.reduceEq, Option.isSome_some, implies_true, false_implies, Prod.mk.injEq, ne_eq, not_false_eq_true, not_true_eq_false, ge_iff_le, gt_iff_lt, Int.toNat_natCast, Int.reduceToNat, Int.cast_ofNat_Int, Int.natCast_nonneg, fold]
        refine LoopNext.intro (th N r (bk N (byC4 CH k (pl r k))), k + 1) ⟨by simp only; omega, hr.th hN (hb.bk hN), hs⟩ (by simp only; omega) ⟨[((1,0),(1,0)), ((2,0),(2,0))], rfl, ?_, ?_⟩
        · simp [wkEnv, lk, renV, renAt, renTo, w]
        · simp [wkMem, wkLoc, Mem.get, assoc, renBlk, renSegs, renSg, renAt, renTo, chS_ren]
    · obtain rfl : k = N := by omega
      rw [Nat.sub_self] at hs
      simp only [absE, absL, absF, reduceCtorEq, ↓reduceIte, Nat.reduceEqDiff, Nat.reduceAdd, Nat.reduceLT, Nat.reduceMul, Nat.reduceSub, Nat.reduceLeDiff, Int.reduceLT, Int.reduceLE, Int.reduceEq, Option.isSome_some, implies_true, false_implies, Prod.mk.injEq, ne_eq, not_false_eq_true, not_true_eq_false, ge_iff_le, gt_iff_lt, Int.toNat_natCast, Int.reduceToNat, Int.cast_ofNat_Int, Int.natCast_nonneg, h, Try.results102]
      exact ⟨[], by simp, by simp, ⟨k, by simp [renV, renVs, renSegs, renSg, hs, sftP]⟩, by simp [renBlk, chS_ren], by simp⟩

/-! l04Missing -/
theorem chS_zero {CH : List Lv} (h : 0 < CH.length) : seg? (chS 0 CH) 0 = some (.ints .i64 1 [0]) := by
  cases CH with
  | nil => simp at h
  | cons x r => simp [chS, seg?]
theorem chS_all {CH : List Lv} {i : Nat} (h : i < CH.length) : takeSz (0 + (0 + i * 111)) (dropTo (chS 0 CH) (0 + (0 + i * 111))) 111 = some [(0, .ints .i64 1 [(i : Int)]), (1, .bools 10 (CH.getD i ([], [])).1), (11, .ints .u8 100 (CH.getD i ([], [])).2)] := by
  have := chS_drop (CH := CH) (k := 0) (i := i) h
  simpa only [Nat.zero_add, lvS] using this
set_option maxHeartbeats 4000000 in
theorem missing_ok (N : Nat) (hN : N ≤ 10) (h1N : 1 ≤ N) (CH : List Lv) (hC : CH.length = N) (hv : ∀ k, k < N → ∀ j, j < N → hasC CH k j = true → Vp N (byC4 CH k j)) (L : List (List Int)) (hL : ∀ p ∈ L, Vp N p) (hl : L.length ≤ 1000000) :
    ACalls Try.prog 90 [.ref (.sl 0 0 0 0 N 111), .ref (.sl 0 1 0 0 L.length 10), .i .i64 N] [.lv true (chS 0 CH), plB L] (fun v ms ns => (∃ r m, v = .tup [.agg (plS r), .b m] ∧
      (m = true → r ≠ idL N ∧ ∃ k x s, k < N ∧ x < N ∧ s ∈ keepL L k ∧ hasC CH k x = true ∧ r = sftP N (hasC CH) (byC4 CH) N (th N (byC4 CH k x) s)) ∧
      (m = false → ∀ k, k < N → ∀ x, x < N → ∀ s ∈ keepL L k, hasC CH k x = true → sftP N (hasC CH) (byC4 CH) N (th N (byC4 CH k x) s) = idL N)) ∧ ms = [.lv true (chS 0 CH), plB L] ∧ ns = []) := by
  have w0 : IntKind.i64.wrap ((N : Int) - 1) = (N : Int) - 1 := wrap_i64 (by omega) (by omega)
  refine acalls_of_body mix Try.func90 rfl fok90 (Nat.le_of_ble_eq_true rfl) ?_
  unfold abody
  simp only [absE, absL, absF, reduceCtorEq, ↓reduceIte, Nat.reduceEqDiff, Nat.reduceAdd, Nat.reduceLT, Nat.reduceMul, Nat.reduceSub, Nat.reduceLeDiff, Int.reduceLT, Int.reduceLE, Int.reduceEq, Option.isSome_some, implies_true, false_implies, Prod.mk.injEq, ne_eq, not_false_eq_true, not_true_eq_false, ge_iff_le, gt_iff_lt, Int.toNat_natCast, Int.reduceToNat, Int.cast_ofNat_Int, Int.natCast_nonneg, w0, Try.f90]
  refine awpLoop.intro (fun m : Nat => [(0, .ref (.sl 0 0 0 0 N 111)), (1, .ref (.sl 0 1 0 0 L.length 10)), (2, .i .i64 N), (6, .ref (.ptr 1 0 0 0)), (7, .b false), (8, .i .i64 ((m : Int) - 1))]) (fun m => ⟨[.lv true (chS 0 CH), plB L], [((1, 0), .lv true (plS (List.replicate 10 0)))], 6⟩)
    (fun m => m ≤ N ∧ ∀ k, m ≤ k → k < N → ∀ x, x < N → ∀ s ∈ keepL L k, hasC CH k x = true → sftP N (hasC CH) (byC4 CH) N (th N (byC4 CH k x) s) = idL N) (fun m => m) N ⟨by omega, fun k h1 h2 => absurd h1 (by omega)⟩ ⟨[((1,0),(1,0))], rfl, ?_, ?_⟩ ?_
  · simp [wkEnv, lk, renV, renAt, renTo]
  · simp [wkMem, wkLoc, Mem.get, assoc, renBlk, renSegs, renSg, renAt, renTo, chS_ren, plB]
  · rintro m ⟨hm, hdone⟩
    by_cases h : m = 0
    · subst h
      have hx : ¬ (0 : Int) ≤ 0 - 1 := by omega
      simp only [absE, absL, absF, reduceCtorEq, ↓reduceIte, Nat.reduceEqDiff, Nat.reduceAdd, Nat.reduceLT, Nat.reduceMul, Nat.reduceSub, Nat.reduceLeDiff, Int.reduceLT, Int.reduceLE, Int.reduceEq, Option.isSome_some, implies_true, false_implies, Prod.mk.injEq, ne_eq, not_false_eq_true, not_true_eq_false, ge_iff_le, gt_iff_lt, Int.toNat_natCast, Int.reduceToNat, Int.cast_ofNat_Int, Int.natCast_nonneg, hx, Try.results90]
      exact ⟨[], by simp, by simp, ⟨List.replicate 10 0, false, by simp [renV, renVs, renSegs, renSg], fun e => (by cases e), fun _ k hk => hdone k (by omega) hk⟩, by simp [renBlk, renSegs, renSg, plB, chS_ren], by simp⟩
    · obtain ⟨k, rfl⟩ : ∃ k, m = k + 1 := ⟨m - 1, by omega⟩
      have ek : ((k + 1 : Nat) : Int) - 1 = (k : Int) := by omega
      have k0 : (0 : Int) ≤ (k : Int) := by omega
      have g0 := chS_zero (CH := CH) (by omega)
      have ga := chS_all (CH := CH) (i := k) (by omega)
      have kN : (k : Int) < N := by omega
      simp only [absE, absL, absF, reduceCtorEq, ↓reduceIte, Nat.reduceEqDiff, Nat.reduceAdd, Nat.reduceLT, Nat.reduceMul, Nat.reduceSub, Nat.reduceLeDiff, Int.reduceLT, Int.reduceLE, Int.reduceEq, Option.isSome_some, implies_true, false_implies, Prod.mk.injEq, ne_eq, not_false_eq_true, not_true_eq_false, ge_iff_le, gt_iff_lt, Int.toNat_natCast, Int.reduceToNat, Int.cast_ofNat_Int, Int.natCast_nonneg, ek, k0, kN, g0, ga]
      refine CallsX.args [(0, 1)] (keep_ok L k (fun p hp => (hL p hp).by_) (by omega) hl) (by simp) (by simp [Mem.get, plB]) rfl (by simp [argBlks, Mem.get, plB_ren]) ?_
      have hkl : (keepL L k).length ≤ L.length := List.length_filter_le _ _
      have hK : ∀ p ∈ keepL L k, Vp N p ∧ p ∈ keepL L k := fun p hp => ⟨hL p (keepL_sub hp).1, hp⟩
      generalize hown : keepL L k = own at hkl hK ⊢
      simp only [absE, absL, absF, reduceCtorEq, ↓reduceIte, Nat.reduceEqDiff, Nat.reduceAdd, Nat.reduceLT, Nat.reduceMul, Nat.reduceSub, Nat.reduceLeDiff, Int.reduceLT, Int.reduceLE, Int.reduceEq, Option.isSome_some, implies_true, false_implies, Prod.mk.injEq, ne_eq, not_false_eq_true, not_true_eq_false, ge_iff_le, gt_iff_lt, Int.toNat_natCast, Int.reduceToNat, Int.cast_ofNat_Int, Int.natCast_nonneg, plB_ren]
      repeat refine And.intro (by decide +kernel) ?_
      simp only [absE, absL, absF, reduceCtorEq, ↓reduceIte, Nat.reduceEqDiff, Nat.reduceAdd, Nat.reduceLT, Nat.reduceMul, Nat.reduceSub, Nat.reduceLeDiff, Int.reduceLT, Int.reduceLE, Int.reduceEq, Option.isSome_some, implies_true, false_implies, Prod.mk.injEq, ne_eq, not_false_eq_true, not_true_eq_false, ge_iff_le, gt_iff_lt, Int.toNat_natCast, Int.reduceToNat, Int.cast_ofNat_Int, Int.natCast_nonneg]
      refine awpLoop.intro (fun x : Nat => [(0, .ref (.sl 0 0 0 0 N 111)), (1, .ref (.sl 0 1 0 0 L.length 10)), (2, .i .i64 N), (6, .ref (.ptr 1 0 0 0)), (7, .b false), (8, .i .i64 k), (9, .ref (.ptr 15 0 0 0)), (10, .ref (.sl 14 0 0 0 own.length 10)), (11, .i .i64 x)]) (fun x => ⟨[.lv true (chS 0 CH), plB L], [((1, 0), .lv true (plS (List.replicate 10 0))), ((14, 0), plB own), ((15, 0), .lv true (lvS k (CH.getD k ([], [])).1 (CH.getD k ([], [])).2))], 19⟩)
        (fun x => x ≤ N ∧ ∀ x', x' < x → ∀ s ∈ own, hasC CH k x' = true → sftP N (hasC CH) (byC4 CH) N (th N (byC4 CH k x') s) = idL N) (fun x => N - x) 0 ⟨by omega, fun x' h => absurd h (by omega)⟩ ⟨[((1,0),(1,0)), ((14,0),(14,0)), ((15,0),(15,0))], rfl, ?_, ?_⟩ ?_
      · simp [wkEnv, lk, renV, renAt, renTo]
      · simp [wkMem, wkLoc, Mem.get, assoc, renBlk, renSegs, renSg, renAt, renTo, chS_ren, plB, lvS]
      · rintro x ⟨hx, hdx⟩
        by_cases h2 : (x : Int) < N
        · have wx := wrap_i64s (show x < 2 ^ 62 by omega)
          have x10 : (x : Int) < 10 := by omega
          have v1 : 0 + x * 1 < 10 := by omega
          have eh : (CH.getD k ([], [])).1.getD (0 + x * 1) false = hasC CH k x := by rw [Nat.zero_add, Nat.mul_one]; rfl
          simp only [absE, absL, absF, reduceCtorEq, ↓reduceIte, Nat.reduceEqDiff, Nat.reduceAdd, Nat.reduceLT, Nat.reduceMul, Nat.reduceSub, Nat.reduceLeDiff, Int.reduceLT, Int.reduceLE, Int.reduceEq, Option.isSome_some, implies_true, false_implies, Prod.mk.injEq, ne_eq, not_false_eq_true, not_true_eq_false, ge_iff_le, gt_iff_lt, Int.toNat_natCast, Int.reduceToNat, Int.cast_ofNat_Int, Int.natCast_nonneg, h2]
          refine awpLoop.intro (fun i : Nat => [(0, .ref (.sl 0 0 0 0 N 111)), (1, .ref (.sl 0 1 0 0 L.length 10)), (2, .i .i64 N), (6, .ref (.ptr 1 0 0 0)), (7, .b false), (8, .i .i64 k), (9, .ref (.ptr 15 0 0 0)), (10, .ref (.sl 14 0 0 0 own.length 10)), (11, .i .i64 x), (12, .i .i64 i)]) (fun i => ⟨[.lv true (chS 0 CH), plB L], [((1, 0), .lv true (plS (List.replicate 10 0))), ((14, 0), plB own), ((15, 0), .lv true (lvS k (CH.getD k ([], [])).1 (CH.getD k ([], [])).2))], 23⟩)
            (fun i => i ≤ own.length ∧ ∀ i', i' < i → hasC CH k x = true → sftP N (hasC CH) (byC4 CH) N (th N (byC4 CH k x) (own.getD i' [])) = idL N) (fun i => own.length - i) 0 ⟨by omega, fun x' h => absurd h (by omega)⟩ ⟨[((1,0),(1,0)), ((14,0),(14,0)), ((15,0),(15,0))], rfl, ?_, ?_⟩ ?_
          · simp [wkEnv, lk, renV, renAt, renTo]
          · simp [wkMem, wkLoc, Mem.get, assoc, renBlk, renSegs, renSg, renAt, renTo, chS_ren, plB, lvS]
          · rintro i ⟨hi, hdi⟩
            by_cases h3 : (i : Int) < own.length
            · have wi := wrap_i64s (show i < 2 ^ 62 by omega)
              unfold lvS
              simp only [absE, absL, absF, reduceCtorEq, ↓reduceIte, Nat.reduceEqDiff, Nat.reduceAdd, Nat.reduceLT, Nat.reduceMul, Nat.reduceSub, Nat.reduceLeDiff, Int.reduceLT, Int.reduceLE, Int.reduceEq, Option.isSome_some, implies_true, false_implies, Prod.mk.injEq, ne_eq, not_false_eq_true, not_true_eq_false, ge_iff_le, gt_iff_lt, Int.toNat_natCast, Int.reduceToNat, Int.cast_ofNat_Int, Int.natCast_nonneg, h3, x10, v1, eh]
              cases hh : hasC CH k x
              · simp only [absE, absL, absF, reduceCtorEq, ↓reduceIte, Nat.reduceEqDiff, Nat.reduceAdd, Nat.reduceLT, Nat.reduceMul, Nat.reduceSub, Nat.reduceLeDiff, Int.reduceLT, Int.reduceLE, Int.reduceEq, Option.isSome_some, implies_true, false_implies, Prod.mk.injEq, ne_eq, not_false_eq_true, not_true_eq_false, ge_iff_le, gt_iff_lt, Int.toNat_natCast, Int.reduceToNat, Int.cast_ofNat_Int, Int.natCast_nonneg]
                refine LoopNext.intro (x + 1) ⟨by omega, fun x' hx' s hs hhx => ?_⟩ (by omega) ⟨[((1,0),(1,0)), ((14,0),(14,0)), ((15,0),(15,0))], rfl, ?_, ?_⟩
                · by_cases e : x' = x
                  · subst e; rw [hh] at hhx; cases hhx
                  · exact hdx x' (by omega) s hs hhx
                · simp [wkEnv, lk, renV, renAt, renTo, wx]
                · simp [wkMem, wkLoc, Mem.get, assoc, renBlk, renSegs, renSg, renAt, renTo, chS_ren, plB, lvS]
              · have hi2 : i < own.length := by omega
                have hpm := getD_mem hi2
                have hM : Maps own := fun p hp => (hK p hp).1.by_.len
                have hfg := flat_get hM hi2
                obtain ⟨hp, hpk⟩ := hK _ hpm
                have hb := hv k (by omega) x (by omega) hh
                generalize hpi : own.getD i [] = p at hpm hfg hp hpk
                have b1 : 0 + x * 10 ≤ 90 := by omega
                have v4 : 0 + i * 10 + 10 ≤ own.length * 10 := by omega
                have v5 : 0 + i * 10 < own.length * 10 := by omega
                have kp : (own.flatten.drop (0 + i * 10)).take 10 = p := by rw [Nat.zero_add]; exact hfg
                have eb : ((CH.getD k ([], [])).2.drop (0 + x * 10)).take 10 = byC4 CH k x := rfl
                unfold plB
                simp only [absE, absL, absF, reduceCtorEq, ↓reduceIte, Nat.reduceEqDiff, Nat.reduceAdd, Nat.reduceLT, Nat.reduceMul, Nat.reduceSub, Nat.reduceLeDiff, Int.reduceLT, Int.reduceLE, Int.reduceEq, Option.isSome_some, implies_true, false_implies, Prod.mk.injEq, ne_eq, not_false_eq_true, not_true_eq_false, ge_iff_le, gt_iff_lt, Int.toNat_natCast, Int.reduceToNat, Int.cast_ofNat_Int, Int.natCast_nonneg, x10, b1, h3, v4, v5, kp, eb]
                refine ite_b (fun h10 hy => ?_) (fun h10 => by omega) ?_
                · have e2 : own.flatten = p := by rw [← kp, show 0 + i * 10 = 0 by omega, List.drop_zero, List.take_of_length_le (by rw [flat_len hM]; omega)]
                  rw [h10, e2] at hy ⊢
                  exact ⟨by omega, hy⟩
                · repeat refine And.intro (by omega) ?_
                  refine CallsX.none (specThen_ok N (byC4 CH k x) p hb.by_ hp.by_ hN (fun i hi => by have := hb.lt hN hi; omega)) ?_
                  have fold : mapL (fun i => pl p (pl (byC4 CH k x) i)) N = th N (byC4 CH k x) p := rfl
                  simp only [absE, absL, absF, reduceCtorEq, ↓reduceIte, Nat.reduceEqDiff, Nat.reduceAdd, Nat.reduceLT, Nat.reduceMul, Nat.reduceSub, Nat.reduceLeDiff, Int.reduceLT, Int.reduceLE, Int.reduceEq, Option.isSome_some, implies_true, false_implies, Prod.mk.injEq, ne_eq, not_false_eq_true, not_true_eq_false, ge_iff_le, gt_iff_lt, Int.toNat_natCast, Int.reduceToNat, Int.cast_ofNat_Int, Int.natCast_nonneg, fold]
                  repeat refine And.intro (by decide +kernel) ?_
                  simp only [absE, absL, absF, reduceCtorEq, ↓reduceIte, Nat.reduceEqDiff, Nat.reduceAdd, Nat.reduceLT, Nat.reduceMul, Nat.reduceSub, Nat.reduceLeDiff, Int.reduceLT, Int.reduceLE, Int.reduceEq, Option.isSome_some, implies_true, false_implies, Prod.mk.injEq, ne_eq, not_false_eq_true, not_true_eq_false, ge_iff_le, gt_iff_lt, Int.toNat_natCast, Int.reduceToNat, Int.cast_ofNat_Int, Int.natCast_nonneg]
                  refine CallsVia.args [(0, 0)] (sift_ok N hN CH hC hv (th N (byC4 CH k x) p) (hb.th hN hp)) (by simp) (by simp [Mem.get]) rfl (by simp [argBlks, Mem.get, renBlk, chS_ren]) ?_
                  rintro _ _ _ ⟨⟨kk, rfl⟩, rfl, rfl⟩
                  have hdi1 := fun (hr : sftP N (hasC CH) (byC4 CH) N (th N (byC4 CH k x) p) = idL N) (i' : Nat) (hi' : i' < i + 1) => (show true = true → sftP N (hasC CH) (byC4 CH) N (th N (byC4 CH k x) (own.getD i' [])) = idL N from fun h => by
                    by_cases e : i' = i
                    · subst e; rw [hpi]; exact hr
                    · exact hdi i' (by omega) (by rw [hh]))
                  have hfound := fun (hr : sftP N (hasC CH) (byC4 CH) N (th N (byC4 CH k x) p) ≠ idL N) => (⟨hr, k, x, p, by omega, by omega, hown ▸ hpk, hh, rfl⟩ : sftP N (hasC CH) (byC4 CH) N (th N (byC4 CH k x) p) ≠ idL N ∧ ∃ k' x' s, k' < N ∧ x' < N ∧ s ∈ keepL L k' ∧ hasC CH k' x' = true ∧ sftP N (hasC CH) (byC4 CH) N (th N (byC4 CH k x) p) = sftP N (hasC CH) (byC4 CH) N (th N (byC4 CH k' x') s))
                  generalize sftP N (hasC CH) (byC4 CH) N (th N (byC4 CH k x) p) = rest at hdi1 hfound ⊢
                  have hren : ∀ σ : Ren, renSegs σ (chS 0 CH) = chS 0 CH := fun σ => chS_ren
                  simp only [absE, absL, absF, reduceCtorEq, ↓reduceIte, Nat.reduceEqDiff, Nat.reduceAdd, Nat.reduceLT, Nat.reduceMul, Nat.reduceSub, Nat.reduceLeDiff, Int.reduceLT, Int.reduceLE, Int.reduceEq, Option.isSome_some, implies_true, false_implies, Prod.mk.injEq, ne_eq, not_false_eq_true, not_true_eq_false, ge_iff_le, gt_iff_lt, Int.toNat_natCast, Int.reduceToNat, Int.cast_ofNat_Int, Int.natCast_nonneg, renBlk, hren]
                  refine CallsX.none (specSame_ok N hN) ?_
                  simp only [absE, absL, absF, reduceCtorEq, ↓reduceIte, Nat.reduceEqDiff, Nat.reduceAdd, Nat.reduceLT, Nat.reduceMul, Nat.reduceSub, Nat.reduceLeDiff, Int.reduceLT, Int.reduceLE, Int.reduceEq, Option.isSome_some, implies_true, false_implies, Prod.mk.injEq, ne_eq, not_false_eq_true, not_true_eq_false, ge_iff_le, gt_iff_lt, Int.toNat_natCast, Int.reduceToNat, Int.cast_ofNat_Int, Int.natCast_nonneg]
                  repeat refine And.intro (by decide +kernel) ?_
                  refine on_ndec (fun hr => ?_) fun hr => ?_
                  · simp only [absE, absL, absF, reduceCtorEq, ↓reduceIte, Nat.reduceEqDiff, Nat.reduceAdd, Nat.reduceLT, Nat.reduceMul, Nat.reduceSub, Nat.reduceLeDiff, Int.reduceLT, Int.reduceLE, Int.reduceEq, Option.isSome_some, implies_true, false_implies, Prod.mk.injEq, ne_eq, not_false_eq_true, not_true_eq_false, ge_iff_le, gt_iff_lt, Int.toNat_natCast, Int.reduceToNat, Int.cast_ofNat_Int, Int.natCast_nonneg]
                    refine LoopNext.intro (i + 1) ⟨by omega, hdi1 hr⟩ (by omega) ⟨[((1,0),(1,0)), ((14,0),(14,0)), ((15,0),(15,0))], rfl, ?_, ?_⟩
                    · simp [wkEnv, lk, renV, renAt, renTo, wi]
                    · simp [wkMem, wkLoc, Mem.get, assoc, renBlk, renSegs, renSg, renAt, renTo, chS_ren, plB, lvS]
                  · simp only [absE, absL, absF, reduceCtorEq, ↓reduceIte, Nat.reduceEqDiff, Nat.reduceAdd, Nat.reduceLT, Nat.reduceMul, Nat.reduceSub, Nat.reduceLeDiff, Int.reduceLT, Int.reduceLE, Int.reduceEq, Option.isSome_some, implies_true, false_implies, Prod.mk.injEq, ne_eq, not_false_eq_true, not_true_eq_false, ge_iff_le, gt_iff_lt, Int.toNat_natCast, Int.reduceToNat, Int.cast_ofNat_Int, Int.natCast_nonneg, Try.results90]
                    exact ⟨[], by simp, by simp, ⟨rest, true, by simp [renV, renVs, renSegs, renSg], fun _ => hfound hr, fun e => (by cases e)⟩, by simp [renBlk, renSegs, renSg, plB, chS_ren], by simp⟩
            · obtain rfl : i = own.length := by omega
              simp only [absE, absL, absF, reduceCtorEq, ↓reduceIte, Nat.reduceEqDiff, Nat.reduceAdd, Nat.reduceLT, Nat.reduceMul, Nat.reduceSub, Nat.reduceLeDiff, Int.reduceLT, Int.reduceLE, Int.reduceEq, Option.isSome_some, implies_true, false_implies, Prod.mk.injEq, ne_eq, not_false_eq_true, not_true_eq_false, ge_iff_le, gt_iff_lt, Int.toNat_natCast, Int.reduceToNat, Int.cast_ofNat_Int, Int.natCast_nonneg, h3]
              refine LoopNext.intro (x + 1) ⟨by omega, fun x' hx' s hs hhx => ?_⟩ (by omega) ⟨[((1,0),(1,0)), ((14,0),(14,0)), ((15,0),(15,0))], rfl, ?_, ?_⟩
              · by_cases e : x' = x
                · subst e
                  obtain ⟨i, hi', rfl⟩ := List.getElem_of_mem hs
                  have := hdi i hi' hhx
                  rwa [show own.getD i [] = own[i] by simp [hi']] at this
                · exact hdx x' (by omega) s hs hhx
              · simp [wkEnv, lk, renV, renAt, renTo, wx]
              · simp [wkMem, wkLoc, Mem.get, assoc, renBlk, renSegs, renSg, renAt, renTo, chS_ren, plB, lvS]
        · obtain rfl : x = N := by omega
          have wk : IntKind.i64.wrap ((k : Int) - 1) = (k : Int) - 1 := wrap_i64 (by omega) (by omega)
          simp only [absE, absL, absF, reduceCtorEq, ↓reduceIte, Nat.reduceEqDiff, Nat.reduceAdd, Nat.reduceLT, Nat.reduceMul, Nat.reduceSub, Nat.reduceLeDiff, Int.reduceLT, Int.reduceLE, Int.reduceEq, Option.isSome_some, implies_true, false_implies, Prod.mk.injEq, ne_eq, not_false_eq_true, not_true_eq_false, ge_iff_le, gt_iff_lt, Int.toNat_natCast, Int.reduceToNat, Int.cast_ofNat_Int, Int.natCast_nonneg, h2]
          refine LoopNext.intro k ⟨by omega, fun k' h1 h2 x' hx' s hs hhx => ?_⟩ (by omega) ⟨[((1,0),(1,0))], rfl, ?_, ?_⟩
          · by_cases e : k' = k
            · subst e
              rw [hown] at hs
              exact hdx x' hx' s hs hhx
            · exact hdone k' (by omega) h2 x' hx' s hs hhx
          · simp [wkEnv, lk, renV, renAt, renTo, wk]
          · simp [wkMem, wkLoc, Mem.get, assoc, renBlk, renSegs, renSg, renAt, renTo, chS_ren, plB, lvS]

/-! l04Chain: why it ends, and what it ends with -/
open Classical in
noncomputable def cntP (P : Nat → Prop) (l : List Nat) : Nat := (l.filter fun i => decide (P i)).length
theorem cntP_nil {P : Nat → Prop} : cntP P [] = 0 := rfl
theorem cntP_cons {P : Nat → Prop} {a : Nat} {l : List Nat} : (P a → cntP P (a :: l) = cntP P l + 1) ∧ (¬ P a → cntP P (a :: l) = cntP P l) := by
  unfold cntP
  exact ⟨fun h => by simp [List.filter_cons, h], fun h => by simp [List.filter_cons, h]⟩
theorem cntP_le {P : Nat → Prop} : ∀ {l : List Nat}, cntP P l ≤ l.length
  | [] => Nat.le_refl _
  | a :: l => by
    have := cntP_le (P := P) (l := l)
    rcases Classical.em (P a) with h | h
    · rw [cntP_cons.1 h, List.length_cons]; omega
    · rw [cntP_cons.2 h, List.length_cons]; omega
theorem cntP_mono {P Q : Nat → Prop} (h : ∀ i, P i → Q i) : ∀ {l : List Nat}, cntP P l ≤ cntP Q l
  | [] => Nat.le_refl _
  | a :: l => by
    have := cntP_mono h (l := l)
    rcases Classical.em (P a) with h1 | h1
    · rw [cntP_cons.1 h1, cntP_cons.1 (h a h1)]; omega
    · rcases Classical.em (Q a) with h2 | h2
      · rw [cntP_cons.2 h1, cntP_cons.1 h2]; omega
      · rw [cntP_cons.2 h1, cntP_cons.2 h2]; exact this
theorem cntP_lt {P Q : Nat → Prop} (h : ∀ i, P i → Q i) {x : Nat} (hq : Q x) (hp : ¬ P x) : ∀ {l : List Nat}, x ∈ l → cntP P l < cntP Q l
  | [], hx => absurd hx (by simp)
  | a :: l, hx => by
    rcases Classical.em (a = x) with e | e
    · subst e
      have := cntP_mono h (l := l)
      rw [cntP_cons.2 hp, cntP_cons.1 hq]; omega
    · have := cntP_lt h hq hp (l := l) (by simpa [Ne.symm e] using hx)
      rcases Classical.em (P a) with h1 | h1
      · rw [cntP_cons.1 h1, cntP_cons.1 (h a h1)]; omega
      · rcases Classical.em (Q a) with h2 | h2
        · rw [cntP_cons.2 h1, cntP_cons.1 h2]; omega
        · rw [cntP_cons.2 h1, cntP_cons.2 h2]; exact this
/-- the number j is reached from k by those of a list that keep the numbers less than k -/
def Hits (N : Nat) (L : List (List Int)) (k j : Nat) : Prop := ∃ p, Gen N (InL (keepL L k)) p ∧ pl p k = j
noncomputable def cntH (N : Nat) (L : List (List Int)) : Nat := cntP (fun i => i / 10 < N ∧ Hits N L (i / 10) (i % 10)) (List.range 100)
theorem cntH_le {N : Nat} {L : List (List Int)} : cntH N L ≤ 100 := by have := cntP_le (P := fun i => i / 10 < N ∧ Hits N L (i / 10) (i % 10)) (l := List.range 100); rwa [List.length_range] at this
theorem keepL_mem {L : List (List Int)} {k : Nat} {p : List Int} : p ∈ keepL L k ↔ p ∈ L ∧ ∀ x, x < k → pl p x = x := by
  unfold keepL; rw [List.mem_filter, kpR_iff]
section
variable {N : Nat} (hN : N ≤ 10)
include hN
theorem Hits.mono {L L' : List (List Int)} (hL' : ∀ p ∈ L', Vp N p) (h : ∀ p ∈ L, p ∈ L') {k j : Nat} : Hits N L k j → Hits N L' k j := by
  rintro ⟨p, hp, e⟩
  have hv : ∀ s, InL (keepL L' k) s → Vp N s := fun s hs => hL' s (keepL_mem.1 hs).1
  exact ⟨p, hp.sub hN hv fun s hs => Gen.of hN hv (keepL_mem.2 ⟨h s (keepL_mem.1 hs).1, (keepL_mem.1 hs).2⟩), e⟩
theorem gen_fix {L : List (List Int)} (hL : ∀ p ∈ L, Vp N p) {k : Nat} (hk : k ≤ N) {p : List Int} (h : Gen N (InL (keepL L k)) p) : ∀ i, i < k → pl p i = i := by
  induction h with
  | one => intro i hi; exact pl_id hN (by omega)
  | step _ hs ih => exact fix_th hN hk ih (keepL_mem.1 hs).2
theorem BuiltQ.hits {L : List (List Int)} (hL : ∀ p ∈ L, Vp N p) {CH : List Lv} (hC : CH.length = N) (hB : BuiltQ N L CH) {k : Nat} (hk : k < N) {j : Nat} : hasC CH k j = true ↔ Hits N L k j := by
  obtain ⟨Q, hQ⟩ := hB.2 k (by omega)
  exact hQ.all hN (fun p hp => hL p (keepL_mem.1 hp).1) hk
theorem BuiltQ.chain {L : List (List Int)} (hL : ∀ p ∈ L, Vp N p) {CH : List Lv} (hC : CH.length = N) (hB : BuiltQ N L CH) : Chain N (hasC CH) (byC4 CH) ∧ ∀ k, k < N → ∀ j, hasC CH k j = true → Gen N (InL (keepL L k)) (byC4 CH k j) := by
  have hg : ∀ k, k < N → ∀ j, hasC CH k j = true → Gen N (InL (keepL L k)) (byC4 CH k j) ∧ pl (byC4 CH k j) k = j := fun k hk j hj => by
    obtain ⟨Q, hQ⟩ := hB.2 k (by omega)
    exact (hQ.o.ok j hj).2
  refine ⟨⟨fun k hk => ?_, fun k hk j hj hh => ?_⟩, fun k hk j hj => (hg k hk j hj).1⟩
  · obtain ⟨Q, hQ⟩ := hB.2 k (by omega)
    exact hQ.o.one
  · obtain ⟨h1, h2⟩ := hg k hk j hh
    exact ⟨h1.vp hN fun s hs => hL s (keepL_mem.1 hs).1, gen_fix hN hL (by omega) h1, h2⟩
/-- what is left behind the levels is the identity, or a level lacks it -/
theorem Chain.left {has : HasT} {by_ : ByT} (hc : Chain N has by_) {S : List Int → Prop} (hS : ∀ s, S s → Vp N s) (hg : ∀ k, k < N → ∀ j, has k j = true → Gen N S (by_ k j)) : ∀ d, d ≤ N → ∀ p, Gen N S p → (∀ i, i < N - d → pl p i = i) →
    Gen N S (sftP N has by_ d p) ∧ ((sft N has by_ d p = true ∧ sftP N has by_ d p = idL N) ∨ ∃ k, k < N ∧ (∀ i, i < k → pl (sftP N has by_ d p) i = i) ∧ has k (pl (sftP N has by_ d p) k) = false) := by
  intro d
  induction d with
  | zero =>
    intro _ p hp hf
    exact ⟨hp, .inl ⟨rfl, (hp.vp hN hS).ext hN (vp_id hN) fun i hi => by rw [pl_id hN hi]; exact hf i (by omega)⟩⟩
  | succ d ih =>
    intro hd p hp hf
    have hk : N - (d + 1) < N := by omega
    rw [sftP, sft]
    generalize hkk : N - (d + 1) = k at hk hf ⊢
    cases hh : has k (pl p k)
    · rw [if_neg (by simp)]
      exact ⟨hp, .inr ⟨k, hk, hf, hh⟩⟩
    · rw [if_pos rfl, Bool.true_and]
      obtain ⟨r1, r2⟩ := hc.rest hN hk (hp.vp hN hS) hf hh
      refine ih (by omega) _ (hp.mul hN hS ((hg k hk _ hh).bk hN hS)) fun i hi => r2 i (by omega)
theorem Chain.none {has : HasT} {by_ : ByT} (hc : Chain N has by_) {S : List Int → Prop} (hS : ∀ s, S s → Vp N s) (hg : ∀ k, k < N → ∀ j, has k j = true → Gen N S (by_ k j)) {p : List Int} (hp : Gen N S p) (h : sftP N has by_ N p = idL N) : sft N has by_ N p = true := by
  rcases (hc.left hN hS hg N (Nat.le_refl _) p hp fun i hi => absurd hi (by omega)).2 with ⟨h1, _⟩ | ⟨k, hk, _, h2⟩
  · exact h1
  · rw [h, pl_id hN hk, (hc.id_ k hk).1] at h2; cases h2
/-- the levels that a permutation keeps -/
theorem Chain.down {has : HasT} {by_ : ByT} (hc : Chain N has by_) {p : List Int} (hp : Vp N p) (hs : sft N has by_ N p = true) {k : Nat} (hk : k ≤ N) (hf : ∀ i, i < k → pl p i = i) : sft N has by_ (N - k) p = true := by
  have down : ∀ m, m ≤ k → sft N has by_ (N - m) p = true := by
    intro m
    induction m with
    | zero => intro _; rw [Nat.sub_zero]; exact hs
    | succ m ih =>
      intro hm
      have := ih (by omega)
      rw [sft_lvl hN (show m < N by omega), Bool.and_eq_true, hf m (by omega), (hc.id_ m (by omega)).2, bk_id hN, th_id hN hp] at this
      exact this.2
  exact down k (Nat.le_refl k)
/-- a list to which what is left of a product is added reaches more -/
theorem cntH_lt {L : List (List Int)} (hL : ∀ p ∈ L, Vp N p) {CH : List Lv} (hC : CH.length = N) (hB : BuiltQ N L CH) {r : List Int} (hr : Vp N r) {k : Nat} (hk : k < N) (hf : ∀ i, i < k → pl r i = i) (hh : hasC CH k (pl r k) = false) : cntH N L < cntH N (L ++ [r]) := by
  have hL' : ∀ p ∈ L ++ [r], Vp N p := fun p hp => by
    rcases List.mem_append.1 hp with h | h
    · exact hL p h
    · rw [List.mem_singleton.1 h]; exact hr
  have hj := hr.lt hN hk
  have e1 : (k * 10 + pl r k) / 10 = k := by omega
  have e2 : (k * 10 + pl r k) % 10 = pl r k := by omega
  refine cntP_lt (x := k * 10 + pl r k) (fun i h => ⟨h.1, h.2.mono hN hL' fun p hp => List.mem_append_left _ hp⟩) ?_ ?_ (List.mem_range.2 (by omega))
  · rw [e1, e2]
    refine ⟨hk, r, Gen.of hN (fun s hs => hL' s (keepL_mem.1 hs).1) (keepL_mem.2 ⟨by simp, hf⟩), rfl⟩
  · rw [e1, e2]
    rintro ⟨_, h⟩
    rw [(hB.hits hN hL hC hk).2 h] at hh; cases hh
end
/-- a chain that has a group's orbits -/
def OrbC (N : Nat) (L : List (List Int)) (has : HasT) : Prop := ∀ k, k < N → ∀ j, j < 10 → (has k j = true ↔ ∃ p, Gen N (InL L) p ∧ (∀ i, i < k → pl p i = i) ∧ pl p k = j)
theorem chain_done {N : Nat} (hN : N ≤ 10) (h1N : 1 ≤ N) {L L' : List (List Int)} (hL : ∀ p ∈ L, Vp N p) (hsub : ∀ p ∈ L, p ∈ L') (hG : ∀ p ∈ L', Gen N (InL L) p) {CH : List Lv} (hC : CH.length = N) (hB : BuiltQ N L' CH)
    (hm : ∀ k, k < N → ∀ x, x < N → ∀ s ∈ keepL L' k, hasC CH k x = true → sftP N (hasC CH) (byC4 CH) N (th N (byC4 CH k x) s) = idL N) : OrbC N L (hasC CH) := by
  have hL' : ∀ p ∈ L', Vp N p := fun p hp => (hG p hp).vp hN (S := InL L) hL
  obtain ⟨hc, hg⟩ := hB.chain hN hL' hC
  have hS : ∀ s, InL L' s → Vp N s := hL'
  have hgS : ∀ k, k < N → ∀ j, hasC CH k j = true → Gen N (InL L') (byC4 CH k j) := fun k hk j hj => (hg k hk j hj).sub hN hS fun s hs => Gen.of hN hS (keepL_mem.1 hs).1
  have hsft : ∀ k, k < N → ∀ x, x < N → ∀ s ∈ keepL L' k, hasC CH k x = true → sft N (hasC CH) (byC4 CH) N (th N (byC4 CH k x) s) = true := fun k hk x hx s hs hh =>
    hc.none hN hS hgS ((hgS k hk x hh).step (keepL_mem.1 hs).1) (hm k hk x hx s hs hh)
  have hcl : Closed N (hasC CH) (byC4 CH) (fun k => InL (keepL L' k)) := ⟨fun k s hs => ⟨hL' s (keepL_mem.1 hs).1, (keepL_mem.1 hs).2⟩, fun k hk j _ hj => hg k hk j hj,
    fun k hk s hs => Gen.of hN (fun s hs => hL' s (keepL_mem.1 hs).1) (keepL_mem.2 ⟨(keepL_mem.1 hs).1, fun x hx => (keepL_mem.1 hs).2 x (by omega)⟩),
    fun k hk j s hj hh hs => by
      obtain ⟨g1, g2, _⟩ := hc.ok k hk j hj hh
      exact hc.down hN (g1.th hN (hL' s (keepL_mem.1 hs).1)) (hsft k hk j hj s hs hh) (by omega) (fix_th hN (by omega) g2 (keepL_mem.1 hs).2)⟩
  intro k hk j _
  by_cases hj : j < N
  case neg =>
    refine ⟨fun h => absurd ?_ hj, fun ⟨p, h1, _, h3⟩ => absurd ?_ hj⟩
    · obtain ⟨p, h1, h2⟩ := (hB.hits hN hL' hC hk).1 h
      rw [← h2]; exact (h1.vp hN fun s hs => hL' s (keepL_mem.1 hs).1).lt hN hk
    · rw [← h3]; exact (h1.vp hN (S := InL L) hL).lt hN hk
  refine hc.orbit hN hcl (L := InL L) hL (fun k hk j hj hh => (hgS k hk j hh).sub hN hL hG) (fun s hs => ?_) hk hj
  have h0 := hsft 0 (by omega) 0 (by omega) s (keepL_mem.2 ⟨hsub s hs, fun x hx => absurd hx (by omega)⟩) (hc.id_ 0 (by omega)).1
  rwa [(hc.id_ 0 (by omega)).2, id_th hN (hL s hs)] at h0

/-! l04Chain -/
set_option maxHeartbeats 1000000 in
theorem chain_ok (N : Nat) (hN : N ≤ 10) (h1N : 1 ≤ N) (L : List (List Int)) (hL : ∀ p ∈ L, Vp N p) (hl : L.length ≤ 1000) :
    ACalls Try.prog 79 [.ref (.sl 0 0 0 0 L.length 10), .i .i64 N] [plB L] (fun v ms ns => ∃ CH, CH.length = N ∧ OrbC N L (hasC CH) ∧ v = .ref (.sl 1 0 0 0 N 111) ∧ ms = [plB L] ∧ ns = [.lv true (chS 0 CH)]) := by
  have hM : Maps L := fun p hp => (hL p hp).by_.len
  have m1 : L.length * 10 = L.length * 10 := rfl
  refine acalls_of_body mix Try.func79 rfl fok79 (Nat.le_of_ble_eq_true rfl) ?_
  unfold abody
  simp only [absE, absL, absF, reduceCtorEq, ↓reduceIte, Nat.reduceEqDiff, Nat.reduceAdd, Nat.reduceLT, Nat.reduceMul, Nat.reduceSub, Nat.reduceLeDiff, Int.reduceLT, Int.reduceLE, Int.reduceEq, Option.isSome_some, implies_true, false_implies, Prod.mk.injEq, ne_eq, not_false_eq_true, not_true_eq_false, ge_iff_le, gt_iff_lt, Int.toNat_natCast, Int.reduceToNat, Int.cast_ofNat_Int, Int.natCast_nonneg, plB, Try.f79]
  repeat refine And.intro (by omega) ?_
  refine awpLoop.intro (fun L' : List (List Int) => [(0, .ref (.sl 2 0 0 0 L'.length 10)), (1, .i .i64 N)]) (fun L' => ⟨[plB L], [((2, 0), plB L')], 6⟩)
    (fun L' => (∀ p ∈ L, p ∈ L') ∧ (∀ p ∈ L', Gen N (InL L) p) ∧ L'.length ≤ L.length + cntH N L') (fun L' => 100 - cntH N L') L ⟨fun p hp => hp, fun p hp => Gen.of hN (S := InL L) hL hp, by omega⟩ ⟨[((4,0),(2,0))], rfl, ?_, ?_⟩ ?_
  · simp [wkEnv, lk, renV, renAt, renTo]
  · simp [wkMem, wkLoc, Mem.get, assoc, renBlk, renSegs, renSg, renAt, renTo, plB]
  · rintro L' ⟨hsub, hG, hlen⟩
    have hc100 := cntH_le (N := N) (L := L')
    have hL' : ∀ p ∈ L', Vp N p := fun p hp => (hG p hp).vp hN (S := InL L) hL
    simp only [absE, absL, absF, reduceCtorEq, ↓reduceIte, Nat.reduceEqDiff, Nat.reduceAdd, Nat.reduceLT, Nat.reduceMul, Nat.reduceSub, Nat.reduceLeDiff, Int.reduceLT, Int.reduceLE, Int.reduceEq, Option.isSome_some, implies_true, false_implies, Prod.mk.injEq, ne_eq, not_false_eq_true, not_true_eq_false, ge_iff_le, gt_iff_lt, Int.toNat_natCast, Int.reduceToNat, Int.cast_ofNat_Int, Int.natCast_nonneg]
    refine CallsVia.args [(2, 0)] (build_ok N hN L' hL' (by omega)) (by simp) (by simp [Mem.get, assoc, plB]) rfl (by simp [argBlks, Mem.get, assoc, plB_ren]) ?_
    rintro _ _ _ ⟨CH, hC, hB, rfl, rfl, rfl⟩
    obtain ⟨hc, hg⟩ := hB.chain hN hL' hC
    have hren : ∀ σ : Ren, renBlk σ (.lv true (chS 0 CH)) = .lv true (chS 0 CH) := fun σ => by rw [renBlk, chS_ren]
    simp only [absE, absL, absF, reduceCtorEq, ↓reduceIte, Nat.reduceEqDiff, Nat.reduceAdd, Nat.reduceLT, Nat.reduceMul, Nat.reduceSub, Nat.reduceLeDiff, Int.reduceLT, Int.reduceLE, Int.reduceEq, Option.isSome_some, implies_true, false_implies, Prod.mk.injEq, ne_eq, not_false_eq_true, not_true_eq_false, ge_iff_le, gt_iff_lt, Int.toNat_natCast, Int.reduceToNat, Int.cast_ofNat_Int, Int.natCast_nonneg, plB_ren, hren]
    refine CallsVia.args [(8, 0), (2, 0)] (missing_ok N hN h1N CH hC (fun k hk j hj hh => (hc.ok k hk j hj hh).1) L' hL' (by omega)) (by simp) (by simp [Mem.get, assoc, plB]) rfl (by simp [argBlks, Mem.get, assoc, plB_ren, hren]) ?_
    rintro _ _ _ ⟨⟨r, m, rfl, hm1, hm2⟩, rfl, rfl⟩
    simp only [absE, absL, absF, reduceCtorEq, ↓reduceIte, Nat.reduceEqDiff, Nat.reduceAdd, Nat.reduceLT, Nat.reduceMul, Nat.reduceSub, Nat.reduceLeDiff, Int.reduceLT, Int.reduceLE, Int.reduceEq, Option.isSome_some, implies_true, false_implies, Prod.mk.injEq, ne_eq, not_false_eq_true, not_true_eq_false, ge_iff_le, gt_iff_lt, Int.toNat_natCast, Int.reduceToNat, Int.cast_ofNat_Int, Int.natCast_nonneg, plB_ren, hren]
    cases hmm : m
    · simp only [absE, absL, absF, reduceCtorEq, ↓reduceIte, Nat.reduceEqDiff, Nat.reduceAdd, Nat.reduceLT, Nat.reduceMul, Nat.reduceSub, Nat.reduceLeDiff, Int.reduceLT, Int.reduceLE, Int.reduceEq, Option.isSome_some, implies_true, false_implies, Prod.mk.injEq, ne_eq, not_false_eq_true, not_true_eq_false, ge_iff_le, gt_iff_lt, Int.toNat_natCast, Int.reduceToNat, Int.cast_ofNat_Int, Int.natCast_nonneg, Try.results79]
      exact ⟨[(8, 0)], by simp, by simp, CH, hC, chain_done hN h1N hL hsub hG hC hB (hm2 hmm), by simp [renV, renAt, renFin, idx], by simp [plB, renBlk, renSegs, renSg], by simp [Mem.get, assoc, hren]⟩
    · obtain ⟨hne, k, x, s, hk, hx, hs, hh, hr⟩ := hm1 hmm
      have hS : ∀ s, InL L' s → Vp N s := hL'
      have hgS : ∀ k, k < N → ∀ j, hasC CH k j = true → Gen N (InL L') (byC4 CH k j) := fun k hk j hj => (hg k hk j hj).sub hN hS fun s hs => Gen.of hN hS (keepL_mem.1 hs).1
      obtain ⟨q1, q2⟩ := hc.left hN hS hgS N (Nat.le_refl _) _ ((hgS k hk x hh).step (keepL_mem.1 hs).1) (fun i hi => absurd hi (by omega))
      rw [← hr] at q1 q2
      obtain ⟨k', hk', hf', hh'⟩ : ∃ k, k < N ∧ (∀ i, i < k → pl r i = i) ∧ hasC CH k (pl r k) = false := by
        rcases q2 with ⟨_, e⟩ | h
        · exact absurd e hne
        · exact h
      have hrv := q1.vp hN hS
      have hlt := cntH_lt hN hL' hC hB hrv hk' hf' hh'
      have hrl := hrv.by_.len
      have eln : (L' ++ [r]).length = L'.length + 1 := by simp
      have efl : (L' ++ [r]).flatten = L'.flatten ++ r := by simp
      have m2 : (L'.length + 1) * 10 = L'.length * 10 + 10 := by omega
      simp only [absE, absL, absF, reduceCtorEq, ↓reduceIte, Nat.reduceEqDiff, Nat.reduceAdd, Nat.reduceLT, Nat.reduceMul, Nat.reduceSub, Nat.reduceLeDiff, Int.reduceLT, Int.reduceLE, Int.reduceEq, Option.isSome_some, implies_true, false_implies, Prod.mk.injEq, ne_eq, not_false_eq_true, not_true_eq_false, ge_iff_le, gt_iff_lt, Int.toNat_natCast, Int.reduceToNat, Int.cast_ofNat_Int, Int.natCast_nonneg, plB]
      repeat refine And.intro (by omega) ?_
      refine LoopNext.intro (L' ++ [r]) ⟨fun p hp => List.mem_append_left _ (hsub p hp), fun p hp => ?_, by omega⟩ (by have := cntH_le (N := N) (L := L' ++ [r]); omega) ⟨[((25,0),(2,0))], rfl, ?_, ?_⟩
      · rcases List.mem_append.1 hp with h | h
        · exact hG p h
        · rw [List.mem_singleton.1 h]; exact q1.sub hN (S' := InL L) hL hG
      · simp [wkEnv, lk, renV, renAt, renTo]
      · simp [wkMem, wkLoc, Mem.get, assoc, renBlk, renSegs, renSg, renAt, renTo, plB, efl, m2]

/-! l04Order -/
def cntV (f : Nat → Bool) : Nat → Nat
  | 0 => 0
  | x + 1 => cntV f x + if f x = true then 1 else 0
theorem cntV_le {f : Nat → Bool} : ∀ {x}, cntV f x ≤ x
  | 0 => Nat.le_refl _
  | x + 1 => by have := cntV_le (f := f) (x := x); rw [cntV]; split <;> omega
theorem cntV_congr {f g : Nat → Bool} : ∀ {x}, (∀ i, i < x → f i = g i) → cntV f x = cntV g x
  | 0, _ => rfl
  | x + 1, h => by rw [cntV, cntV, cntV_congr fun i hi => h i (by omega), h x (by omega)]
def ordF (has : HasT) : Nat → Nat
  | 0 => 1
  | k + 1 => ordF has k * cntV (has k) 10
theorem ordF_le {has : HasT} : ∀ {k}, ordF has k ≤ 10 ^ k
  | 0 => Nat.le_refl _
  | k + 1 => by rw [ordF, Nat.pow_succ]; exact Nat.mul_le_mul ordF_le cntV_le
theorem ordF_congr {f g : HasT} : ∀ {k}, (∀ i, i < k → ∀ j, j < 10 → f i j = g i j) → ordF f k = ordF g k
  | 0, _ => rfl
  | k + 1, h => by rw [ordF, ordF, ordF_congr fun i hi => h i (by omega), cntV_congr fun j hj => h k (by omega) j hj]
theorem ordF_small {has : HasT} {k : Nat} (hk : k ≤ 10) : ordF has k ≤ 10000000000 :=
  Nat.le_trans ordF_le (Nat.le_trans (Nat.pow_le_pow_right (by decide) hk) (by decide))
open Classical in
noncomputable def ordN (N : Nat) (L : List (List Int)) : Nat := ordF (fun k j => decide (∃ p, Gen N (InL L) p ∧ (∀ i, i < k → pl p i = i) ∧ pl p k = j)) N
theorem OrbC.ord {N : Nat} {L : List (List Int)} {has : HasT} (h : OrbC N L has) : ordF has N = ordN N L := by
  unfold ordN
  refine ordF_congr fun k hk j hj => ?_
  rw [Bool.eq_iff_iff, h k hk j hj]
  exact (@decide_eq_true_iff _ (_)).symm
theorem order_ok (N : Nat) (hN : N ≤ 10) (h1N : 1 ≤ N) (L : List (List Int)) (hL : ∀ p ∈ L, Vp N p) (hl : L.length ≤ 1000) :
    ACalls Try.prog 52 [.ref (.sl 0 0 0 0 L.length 10), .i .i64 N] [plB L] (fun v ms ns => v = .i .i64 (ordN N L : Nat) ∧ ms = [plB L] ∧ ns = []) := by
  refine acalls_of_body mix Try.func52 rfl fok52 (Nat.le_of_ble_eq_true rfl) ?_
  unfold abody
  simp only [absE, absL, absF, reduceCtorEq, ↓reduceIte, Nat.reduceEqDiff, Nat.reduceAdd, Nat.reduceLT, Nat.reduceMul, Nat.reduceSub, Nat.reduceLeDiff, Int.reduceLT, Int.reduceLE, Int.reduceEq, Option.isSome_some, implies_true, false_implies, Prod.mk.injEq, ne_eq, not_false_eq_true, not_true_eq_false, ge_iff_le, gt_iff_lt, Int.toNat_natCast, Int.reduceToNat, Int.cast_ofNat_Int, Int.natCast_nonneg, Try.f52]
  refine CallsVia.args [(0, 0)] (chain_ok N hN h1N L hL hl) (by simp) (by simp [Mem.get, plB]) rfl (by simp [argBlks, Mem.get, plB_ren]) ?_
  rintro _ _ _ ⟨CH, hC, hO, rfl, rfl, rfl⟩
  have hren : ∀ σ : Ren, renBlk σ (.lv true (chS 0 CH)) = .lv true (chS 0 CH) := fun σ => by rw [renBlk, chS_ren]
  simp only [absE, absL, absF, reduceCtorEq, ↓reduceIte, Nat.reduceEqDiff, Nat.reduceAdd, Nat.reduceLT, Nat.reduceMul, Nat.reduceSub, Nat.reduceLeDiff, Int.reduceLT, Int.reduceLE, Int.reduceEq, Option.isSome_some, implies_true, false_implies, Prod.mk.injEq, ne_eq, not_false_eq_true, not_true_eq_false, ge_iff_le, gt_iff_lt, Int.toNat_natCast, Int.reduceToNat, Int.cast_ofNat_Int, Int.natCast_nonneg, plB_ren, hren]
  refine awpLoop.intro (fun k : Nat => [(5, .ref (.sl 4 0 0 0 N 111)), (6, .i .i64 (ordF (hasC CH) k : Nat)), (7, .i .i64 k)]) (fun k => ⟨[plB L], [((4, 0), .lv true (chS 0 CH))], 8⟩)
    (fun k => k ≤ N) (fun k => N - k) 0 (by omega) ⟨[((4,0),(4,0))], rfl, ?_, ?_⟩ ?_
  · simp [wkEnv, lk, renV, renAt, renTo, ordF]
  · simp [wkMem, wkLoc, Mem.get, assoc, hren, plB_ren]
  · intro k hk
    by_cases h : (k : Int) < N
    · have w := wrap_i64s (show k < 2 ^ 62 by omega)
      obtain ⟨g1, g2, g3⟩ := chS_at (CH := CH) (i := k) (by omega)
      simp only [absE, absL, absF, reduceCtorEq, ↓reduceIte, Nat.reduceEqDiff, Nat.reduceAdd, Nat.reduceLT, Nat.reduceMul, Nat.reduceSub, Nat.reduceLeDiff, Int.reduceLT, Int.reduceLE, Int.reduceEq, Option.isSome_some, implies_true, false_implies, Prod.mk.injEq, ne_eq, not_false_eq_true, not_true_eq_false, ge_iff_le, gt_iff_lt, Int.toNat_natCast, Int.reduceToNat, Int.cast_ofNat_Int, Int.natCast_nonneg, h]
      refine awpLoop.intro (fun x : Nat => [(5, .ref (.sl 4 0 0 0 N 111)), (6, .i .i64 (ordF (hasC CH) k : Nat)), (7, .i .i64 k), (8, .i .i64 (cntV (hasC CH k) x : Nat)), (9, .i .i64 x)]) (fun x => ⟨[plB L], [((4, 0), .lv true (chS 0 CH))], 14⟩)
        (fun x => x ≤ 10) (fun x => 10 - x) 0 (by omega) ⟨[((4,0),(4,0))], rfl, ?_, ?_⟩ ?_
      · simp [wkEnv, lk, renV, renAt, renTo, cntV]
      · simp [wkMem, wkLoc, Mem.get, assoc, hren, plB_ren]
      · intro x hx
        have hcl := cntV_le (f := hasC CH k) (x := x)
        by_cases h2 : (x : Int) < 10
        · have wx := wrap_i64s (show x < 2 ^ 62 by omega)
          have wc := wrap_i64s (show cntV (hasC CH k) x < 2 ^ 62 by omega)
          have v1 : 0 + x * 1 < 10 := by omega
          have eh : (CH.getD k ([], [])).1.getD (0 + x * 1) false = hasC CH k x := by rw [Nat.zero_add, Nat.mul_one]; rfl
          have hc1 : cntV (hasC CH k) (x + 1) = cntV (hasC CH k) x + if hasC CH k x = true then 1 else 0 := rfl
          simp only [absE, absL, absF, reduceCtorEq, ↓reduceIte, Nat.reduceEqDiff, Nat.reduceAdd, Nat.reduceLT, Nat.reduceMul, Nat.reduceSub, Nat.reduceLeDiff, Int.reduceLT, Int.reduceLE, Int.reduceEq, Option.isSome_some, implies_true, false_implies, Prod.mk.injEq, ne_eq, not_false_eq_true, not_true_eq_false, ge_iff_le, gt_iff_lt, Int.toNat_natCast, Int.reduceToNat, Int.cast_ofNat_Int, Int.natCast_nonneg, h, h2, g2, v1, eh]
          cases hh : hasC CH k x
          · simp only [absE, absL, absF, reduceCtorEq, ↓reduceIte, Nat.reduceEqDiff, Nat.reduceAdd, Nat.reduceLT, Nat.reduceMul, Nat.reduceSub, Nat.reduceLeDiff, Int.reduceLT, Int.reduceLE, Int.reduceEq, Option.isSome_some, implies_true, false_implies, Prod.mk.injEq, ne_eq, not_false_eq_true, not_true_eq_false, ge_iff_le, gt_iff_lt, Int.toNat_natCast, Int.reduceToNat, Int.cast_ofNat_Int, Int.natCast_nonneg]
            rw [hh, if_neg (by simp), Nat.add_zero] at hc1
            refine LoopNext.intro (x + 1) (by omega) (by omega) ⟨[((4,0),(4,0))], rfl, ?_, ?_⟩
            · simp [wkEnv, lk, renV, renAt, renTo, wx, hc1]
            · simp [wkMem, wkLoc, Mem.get, assoc, hren, plB_ren]
          · simp only [absE, absL, absF, reduceCtorEq, ↓reduceIte, Nat.reduceEqDiff, Nat.reduceAdd, Nat.reduceLT, Nat.reduceMul, Nat.reduceSub, Nat.reduceLeDiff, Int.reduceLT, Int.reduceLE, Int.reduceEq, Option.isSome_some, implies_true, false_implies, Prod.mk.injEq, ne_eq, not_false_eq_true, not_true_eq_false, ge_iff_le, gt_iff_lt, Int.toNat_natCast, Int.reduceToNat, Int.cast_ofNat_Int, Int.natCast_nonneg]
            rw [hh, if_pos rfl] at hc1
            refine LoopNext.intro (x + 1) (by omega) (by omega) ⟨[((4,0),(4,0))], rfl, ?_, ?_⟩
            · simp [wkEnv, lk, renV, renAt, renTo, wx, hc1, wc]
            · simp [wkMem, wkLoc, Mem.get, assoc, hren, plB_ren]
        · obtain rfl : x = 10 := by omega
          have ho : ordF (hasC CH) k * cntV (hasC CH k) 10 ≤ 10000000000 := ordF_small (has := hasC CH) (k := k + 1) (by omega)
          have wm : IntKind.i64.wrap ((ordF (hasC CH) k : Int) * (cntV (hasC CH k) 10 : Int)) = ((ordF (hasC CH) (k + 1) : Nat) : Int) := by
            rw [← Int.natCast_mul]
            exact wrap_i64n (by omega)
          simp only [absE, absL, absF, reduceCtorEq, ↓reduceIte, Nat.reduceEqDiff, Nat.reduceAdd, Nat.reduceLT, Nat.reduceMul, Nat.reduceSub, Nat.reduceLeDiff, Int.reduceLT, Int.reduceLE, Int.reduceEq, Option.isSome_some, implies_true, false_implies, Prod.mk.injEq, ne_eq, not_false_eq_true, not_true_eq_false, ge_iff_le, gt_iff_lt, Int.toNat_natCast, Int.reduceToNat, Int.cast_ofNat_Int, Int.natCast_nonneg, h2]
          refine LoopNext.intro (k + 1) (by omega) (by omega) ⟨[((4,0),(4,0))], rfl, ?_, ?_⟩
          · simp [wkEnv, lk, renV, renAt, renTo, w, wm]
          · simp [wkMem, wkLoc, Mem.get, assoc, hren, plB_ren]
    · obtain rfl : k = N := by omega
      simp only [absE, absL, absF, reduceCtorEq, ↓reduceIte, Nat.reduceEqDiff, Nat.reduceAdd, Nat.reduceLT, Nat.reduceMul, Nat.reduceSub, Nat.reduceLeDiff, Int.reduceLT, Int.reduceLE, Int.reduceEq, Option.isSome_some, implies_true, false_implies, Prod.mk.injEq, ne_eq, not_false_eq_true, not_true_eq_false, ge_iff_le, gt_iff_lt, Int.toNat_natCast, Int.reduceToNat, Int.cast_ofNat_Int, Int.natCast_nonneg, h, Try.results52]
      exact ⟨[], by simp, by simp, by simp [renV, hO.ord], by simp [plB_ren], by simp⟩

/-! spec.MultiplicationOrder -/
theorem rowL_vp {N : Nat} {t : List Int} (ht : Bytes 100 t) (hs : SqP N t) {x : Nat} (hx : x < N) : Vp N (rowL t x) := by
  have hN := hs.le
  refine ⟨rowL_bytes ht (by omega), fun i hi => ?_⟩
  have := hs.rowP hx i hi
  unfold permAt at this ⊢
  rw [pl_rowL hi]
  split at this
  · rename_i h
    rw [if_pos h]
    exact ⟨this.1, fun j hj => by rw [pl_rowL (by omega)]; exact this.2 j hj⟩
  · rename_i h; rw [if_neg h]; exact this
theorem colL_vp {N : Nat} {t : List Int} (hs : SqP N t) {x : Nat} (hx : x < N) : Vp N (colL N t x) :=
  vp_mapL hs.le (fun i hi => hs.cl_lt hi hx) fun i j hi hj e => (hs.colP hx).inj hs.le hi hj e
theorem bothL_vp {N : Nat} {t : List Int} (ht : Bytes 100 t) (hs : SqP N t) : ∀ p ∈ bothL N t, Vp N p := by
  intro p hp
  rcases List.mem_append.1 hp with h | h
  · obtain ⟨x, hx, rfl⟩ := List.mem_map.1 h; exact rowL_vp ht hs (List.mem_range.1 hx)
  · obtain ⟨x, hx, rfl⟩ := List.mem_map.1 h; exact colL_vp hs (List.mem_range.1 hx)
noncomputable def mulR (n : Int) (t : List Int) : AV := if sqB n t = true then .tup [.i .i64 (ordN n.toNat (bothL n.toNat t) : Nat), .i .i64 0] else .tup [.i .i64 0, .i .i64 1]
theorem mul_form (n : Int) (t : List Int) (ht : Bytes 100 t) : ∃ k e, mulR n t = .tup [.i .i64 k, .i .i64 e] := by
  unfold mulR; split
  · exact ⟨_, _, rfl⟩
  · exact ⟨_, _, rfl⟩
theorem specMul_ok (n : Int) (t : List Int) (ht : Bytes 100 t) : ACalls Try.prog 22 [.agg (sqS n t)] [] (fun v ms ns => v = mulR n t ∧ ms = [] ∧ ns = []) := by
  by_cases h : SqP n t
  · have hb := sqB_true h
    obtain ⟨N, rfl⟩ : ∃ N : Nat, n = N := ⟨n.toNat, by have := h.1; omega⟩
    have e : mulR N t = .tup [.i .i64 (ordN N (bothL N t) : Nat), .i .i64 0] := by unfold mulR; rw [if_pos hb, Int.toNat_natCast]
    have hl : (bothL N t).length ≤ 1000 := by rw [bothL_len]; have := h.le; omega
    rw [e]
    refine acalls_of_body mix Try.func22 rfl fok22 (Nat.le_of_ble_eq_true rfl) ?_
    unfold abody
    simp only [absE, absL, absF, reduceCtorEq, ↓reduceIte, Nat.reduceEqDiff, Nat.reduceAdd, Nat.reduceLT, Nat.reduceMul, Nat.reduceSub, Nat.reduceLeDiff, Int.reduceLT, Int.reduceLE, Int.reduceEq, Option.isSome_some, implies_true, false_implies, Prod.mk.injEq, ne_eq, not_false_eq_true, not_true_eq_false, ge_iff_le, gt_iff_lt, Int.toNat_natCast, Int.reduceToNat, Int.cast_ofNat_Int, Int.natCast_nonneg, Try.f22]
    refine CallsVia.none (l01Is_ok N t ht) ?_
    rintro _ _ _ ⟨rfl, rfl, rfl⟩
    simp only [absE, absL, absF, reduceCtorEq, ↓reduceIte, Nat.reduceEqDiff, Nat.reduceAdd, Nat.reduceLT, Nat.reduceMul, Nat.reduceSub, Nat.reduceLeDiff, Int.reduceLT, Int.reduceLE, Int.reduceEq, Option.isSome_some, implies_true, false_implies, Prod.mk.injEq, ne_eq, not_false_eq_true, not_true_eq_false, ge_iff_le, gt_iff_lt, Int.toNat_natCast, Int.reduceToNat, Int.cast_ofNat_Int, Int.natCast_nonneg, hb]
    refine CallsX.none (specBoth_ok N t ht h) ?_
    simp only [absE, absL, absF, reduceCtorEq, ↓reduceIte, Nat.reduceEqDiff, Nat.reduceAdd, Nat.reduceLT, Nat.reduceMul, Nat.reduceSub, Nat.reduceLeDiff, Int.reduceLT, Int.reduceLE, Int.reduceEq, Option.isSome_some, implies_true, false_implies, Prod.mk.injEq, ne_eq, not_false_eq_true, not_true_eq_false, ge_iff_le, gt_iff_lt, Int.toNat_natCast, Int.reduceToNat, Int.cast_ofNat_Int, Int.natCast_nonneg, plB_ren]
    repeat refine And.intro (by decide +kernel) ?_
    refine CallsX.args [(8, 0)] (order_ok N h.le h.pos (bothL N t) (bothL_vp ht h) hl) (by simp) (by simp [Mem.get, assoc, plB]) rfl (by simp [argBlks, Mem.get, assoc, plB_ren]) ?_
    simp only [absE, absL, absF, reduceCtorEq, ↓reduceIte, Nat.reduceEqDiff, Nat.reduceAdd, Nat.reduceLT, Nat.reduceMul, Nat.reduceSub, Nat.reduceLeDiff, Int.reduceLT, Int.reduceLE, Int.reduceEq, Option.isSome_some, implies_true, false_implies, Prod.mk.injEq, ne_eq, not_false_eq_true, not_true_eq_false, ge_iff_le, gt_iff_lt, Int.toNat_natCast, Int.reduceToNat, Int.cast_ofNat_Int, Int.natCast_nonneg, plB_ren]
    repeat refine And.intro (by decide +kernel) ?_
    simp only [absE, absL, absF, reduceCtorEq, ↓reduceIte, Nat.reduceEqDiff, Nat.reduceAdd, Nat.reduceLT, Nat.reduceMul, Nat.reduceSub, Nat.reduceLeDiff, Int.reduceLT, Int.reduceLE, Int.reduceEq, Option.isSome_some, implies_true, false_implies, Prod.mk.injEq, ne_eq, not_false_eq_true, not_true_eq_false, ge_iff_le, gt_iff_lt, Int.toNat_natCast, Int.reduceToNat, Int.cast_ofNat_Int, Int.natCast_nonneg, Try.results22]
    exact ⟨[], by simp, by simp, by simp [renV, renVs], by simp, by simp⟩
  · have hb := sqB_false h
    have e : mulR n t = .tup [.i .i64 0, .i .i64 1] := by unfold mulR; rw [hb, if_neg (by simp)]
    rw [e]
    refine acalls_of_body mix Try.func22 rfl fok22 (Nat.le_of_ble_eq_true rfl) ?_
    unfold abody
    simp only [absE, absL, absF, reduceCtorEq, ↓reduceIte, Nat.reduceEqDiff, Nat.reduceAdd, Nat.reduceLT, Nat.reduceMul, Nat.reduceSub, Nat.reduceLeDiff, Int.reduceLT, Int.reduceLE, Int.reduceEq, Option.isSome_some, implies_true, false_implies, Prod.mk.injEq, ne_eq, not_false_eq_true, not_true_eq_false, ge_iff_le, gt_iff_lt, Int.toNat_natCast, Int.reduceToNat, Int.cast_ofNat_Int, Int.natCast_nonneg, Try.f22]
    refine CallsVia.none (l01Is_ok n t ht) ?_
    rintro _ _ _ ⟨rfl, rfl, rfl⟩
    simp only [absE, absL, absF, reduceCtorEq, ↓reduceIte, Nat.reduceEqDiff, Nat.reduceAdd, Nat.reduceLT, Nat.reduceMul, Nat.reduceSub, Nat.reduceLeDiff, Int.reduceLT, Int.reduceLE, Int.reduceEq, Option.isSome_some, implies_true, false_implies, Prod.mk.injEq, ne_eq, not_false_eq_true, not_true_eq_false, ge_iff_le, gt_iff_lt, Int.toNat_natCast, Int.reduceToNat, Int.cast_ofNat_Int, Int.natCast_nonneg, hb, Try.results22]
    exact ⟨[], by simp, by simp, by simp [renV, renVs, renSegs, renSg]⟩

end Go.Proofs.Ytjmenocghjggcaa
