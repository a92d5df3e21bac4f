/-
Contracts of functions of the given program, by the abstract walk.
-/
import Derived.Test.YtoccbgffekhcaaaAbsY
import Derived.Test.YtoccbgffekhcaaaFa
import Derived.Test.YtoccbgffekhcaaaDq
namespace Go.Proofs.Ytoccbgffekhcaaa
open Go Go.Abs
set_option linter.unusedVariables false
set_option linter.unusedSectionVars false
set_option linter.unusedSimpArgs false
set_option maxRecDepth 100000
/-! lists of bytes in the laws -/
theorem toBytes_nil : ACalls Try.prog 38 [.ref .nils] [] (fun v ms ns => v = .ref (.sl 1 0 0 0 0 1) ∧ ms = [] ∧ ns = [.lv true [(0, .ints .u8 0 [])]]) := by
  refine acalls_of_body mix Try.func38 rfl fok38 (Nat.le_of_ble_eq_true rfl) ?_
  unfold abody
  simp only [absE, absL, absF, reduceCtorEq, ↓reduceIte, Nat.reduceEqDiff, Nat.reduceAdd, Nat.reduceLT, Nat.reduceMul, Nat.reduceSub, Nat.reduceLeDiff, Int.reduceLT, Int.reduceLE, Int.reduceEq, Option.isSome_some, implies_true, false_implies, Prod.mk.injEq, ne_eq, not_false_eq_true, not_true_eq_false, ge_iff_le, gt_iff_lt, Int.toNat_natCast, Int.reduceToNat, Int.cast_ofNat_Int, Int.natCast_nonneg, Try.f38]
  repeat refine And.intro (by decide) ?_
  refine awpLoop.intro (fun i : Nat => [(0, .ref .nils), (3, .ref (.sl 4 0 0 0 0 1)), (4, .i .i64 0)]) (fun i => ⟨[], [((4, 0), .lv true ([(0, .ints .u8 0 [])]))], 7⟩) (fun i => i = 0) (fun i => 0) 0 rfl ⟨[((4,0),(4,0))], rfl, ?_, ?_⟩ ?_
  · simp [wkEnv, lk, renV, renAt, renTo, zeroArr]
  · simp [wkMem, wkLoc, Mem.get, assoc, renBlk, renSegs, renSg, renTo, zeroArr]
  · rintro i rfl
    simp only [absE, absL, absF, reduceCtorEq, ↓reduceIte, Nat.reduceEqDiff, Nat.reduceAdd, Nat.reduceLT, Nat.reduceMul, Nat.reduceSub, Nat.reduceLeDiff, Int.reduceLT, Int.reduceLE, Int.reduceEq, Option.isSome_some, implies_true, false_implies, Prod.mk.injEq, ne_eq, not_false_eq_true, not_true_eq_false, ge_iff_le, gt_iff_lt, Int.toNat_natCast, Int.reduceToNat, Int.cast_ofNat_Int, Int.natCast_nonneg, Int.lt_irrefl, Try.results38]
    exact ⟨[(4, 0)], by simp, by simp, by simp [renV, renAt, renFin, idx], by simp, by simp [renBlk, renSegs, renSg, Mem.get, assoc]⟩
theorem toBytes_sl0 : ACalls Try.prog 38 [.ref .sl0] [] (fun v ms ns => v = .ref (.sl 1 0 0 0 0 1) ∧ ms = [] ∧ ns = [.lv true [(0, .ints .u8 0 [])]]) := by
  refine acalls_of_body mix Try.func38 rfl fok38 (Nat.le_of_ble_eq_true rfl) ?_
  unfold abody
  simp only [absE, absL, absF, reduceCtorEq, ↓reduceIte, Nat.reduceEqDiff, Nat.reduceAdd, Nat.reduceLT, Nat.reduceMul, Nat.reduceSub, Nat.reduceLeDiff, Int.reduceLT, Int.reduceLE, Int.reduceEq, Option.isSome_some, implies_true, false_implies, Prod.mk.injEq, ne_eq, not_false_eq_true, not_true_eq_false, ge_iff_le, gt_iff_lt, Int.toNat_natCast, Int.reduceToNat, Int.cast_ofNat_Int, Int.natCast_nonneg, Try.f38]
  repeat refine And.intro (by decide) ?_
  refine awpLoop.intro (fun i : Nat => [(0, .ref .sl0), (3, .ref (.sl 4 0 0 0 0 1)), (4, .i .i64 0)]) (fun i => ⟨[], [((4, 0), .lv true ([(0, .ints .u8 0 [])]))], 7⟩) (fun i => i = 0) (fun i => 0) 0 rfl ⟨[((4,0),(4,0))], rfl, ?_, ?_⟩ ?_
  · simp [wkEnv, lk, renV, renAt, renTo, zeroArr]
  · simp [wkMem, wkLoc, Mem.get, assoc, renBlk, renSegs, renSg, renTo, zeroArr]
  · rintro i rfl
    simp only [absE, absL, absF, reduceCtorEq, ↓reduceIte, Nat.reduceEqDiff, Nat.reduceAdd, Nat.reduceLT, Nat.reduceMul, Nat.reduceSub, Nat.reduceLeDiff, Int.reduceLT, Int.reduceLE, Int.reduceEq, Option.isSome_some, implies_true, false_implies, Prod.mk.injEq, ne_eq, not_false_eq_true, not_true_eq_false, ge_iff_le, gt_iff_lt, Int.toNat_natCast, Int.reduceToNat, Int.cast_ofNat_Int, Int.natCast_nonneg, Int.lt_irrefl, Try.results38]
    exact ⟨[(4, 0)], by simp, by simp, by simp [renV, renAt, renFin, idx], by simp, by simp [renBlk, renSegs, renSg, Mem.get, assoc]⟩
theorem toBytes_ok (k : Nat) (xs : List Int) (rw : Bool) (hx : xs.length = k) (hk : k ≤ 2 ^ 20) :
    ACalls Try.prog 38 [.ref (.sl 0 0 0 0 k 1)] [.lv rw [(0, .ints .u8 k xs)]] (fun v ms ns => v = .ref (.sl 1 0 0 0 k 1) ∧ ms = [.lv rw [(0, .ints .u8 k xs)]] ∧ ns = [.lv true [(0, .ints .u8 k xs)]]) := by
  have hk8 : (k : Int) * 1 ≤ 140737488355328 := by omega
  refine acalls_of_body mix Try.func38 rfl fok38 (Nat.le_of_ble_eq_true rfl) ?_
  unfold abody
  simp only [absE, absL, absF, reduceCtorEq, ↓reduceIte, Nat.reduceEqDiff, Nat.reduceAdd, Nat.reduceLT, Nat.reduceMul, Nat.reduceSub, Nat.reduceLeDiff, Int.reduceLT, Int.reduceLE, Int.reduceEq, Option.isSome_some, implies_true, false_implies, Prod.mk.injEq, ne_eq, not_false_eq_true, not_true_eq_false, ge_iff_le, gt_iff_lt, Int.toNat_natCast, Int.reduceToNat, Int.cast_ofNat_Int, Int.natCast_nonneg, hk8, Try.f38]
  refine awpLoop.intro (fun i : Nat => [(0, .ref (.sl 0 0 0 0 k 1)), (3, .ref (.sl 4 0 0 0 k 1)), (4, .i .i64 i)]) (fun i => ⟨[.lv rw [(0, .ints .u8 k xs)]], [((4, 0), .lv true ([(0, .ints .u8 k (copyL xs k i))]))], 7⟩)
    (fun i => i ≤ k) (fun i => k - i) 0 (by omega) ⟨[((4,0),(4,0))], rfl, ?_, ?_⟩ ?_
  · simp [wkEnv, lk, renV, renAt, renTo, zeroArr, copyL_zero]
  · simp [wkMem, wkLoc, Mem.get, assoc, renBlk, renSegs, renSg, renTo, zeroArr, copyL_zero]
  · intro i hi
    by_cases h : (i : Int) < k
    · have w := wrap_i64s (show i < 2 ^ 62 by omega)
      have v1 : 0 + i * 1 < k := by omega
      have v2 : 0 + i * 1 + 1 ≤ k := by omega
      have e2 : (copyL xs k i).set (0 + i * 1) (xs.getD (0 + i * 1) 0) = copyL xs k (i + 1) := by rw [Nat.zero_add, Nat.mul_one]; exact copyL_next hx (by omega)
      by_cases hk1 : 1 = k
      · subst hk1
        obtain rfl : i = 0 := by omega
        have e3 : [xs.getD 0 0] = copyL xs 1 (0 + 1) := by
          match xs, hx with
          | [x], _ => simp [copyL]
        have w0 : IntKind.i64.wrap 1 = 1 := by decide
        simp only [absE, absL, absF, reduceCtorEq, ↓reduceIte, Nat.reduceEqDiff, Nat.reduceAdd, Nat.reduceLT, Nat.reduceMul, Nat.reduceSub, Nat.reduceLeDiff, Int.reduceLT, Int.reduceLE, Int.reduceEq, Option.isSome_some, implies_true, false_implies, Prod.mk.injEq, ne_eq, not_false_eq_true, not_true_eq_false, ge_iff_le, gt_iff_lt, Int.toNat_natCast, Int.reduceToNat, Int.cast_ofNat_Int, Int.natCast_nonneg, h]
        repeat refine And.intro (by omega) ?_
        refine LoopNext.intro (0 + 1) (by omega) (by omega) ⟨[((4,0),(4,0))], rfl, ?_, ?_⟩
        · simp [wkEnv, lk, renV, renAt, renTo, w0]
        · rw [← e3]; simp [wkMem, wkLoc, Mem.get, assoc, renBlk, renSegs, renSg, renTo]
      · simp only [absE, absL, absF, reduceCtorEq, ↓reduceIte, Nat.reduceEqDiff, Nat.reduceAdd, Nat.reduceLT, Nat.reduceMul, Nat.reduceSub, Nat.reduceLeDiff, Int.reduceLT, Int.reduceLE, Int.reduceEq, Option.isSome_some, implies_true, false_implies, Prod.mk.injEq, ne_eq, not_false_eq_true, not_true_eq_false, ge_iff_le, gt_iff_lt, Int.toNat_natCast, Int.reduceToNat, Int.cast_ofNat_Int, Int.natCast_nonneg, h, v1, v2, e2, hk1]
        refine LoopNext.intro (i + 1) (by omega) (by omega) ⟨[((4,0),(4,0))], rfl, ?_, ?_⟩
        · simp [wkEnv, lk, renV, renAt, renTo, w]
        · simp [wkMem, wkLoc, Mem.get, assoc, renBlk, renSegs, renSg, renTo, w]
    · have hk2 : i = k := by omega
      subst hk2
      have e := copyL_all hx
      simp only [absE, absL, absF, reduceCtorEq, ↓reduceIte, Nat.reduceEqDiff, Nat.reduceAdd, Nat.reduceLT, Nat.reduceMul, Nat.reduceSub, Nat.reduceLeDiff, Int.reduceLT, Int.reduceLE, Int.reduceEq, Option.isSome_some, implies_true, false_implies, Prod.mk.injEq, ne_eq, not_false_eq_true, not_true_eq_false, ge_iff_le, gt_iff_lt, Int.toNat_natCast, Int.reduceToNat, Int.cast_ofNat_Int, Int.natCast_nonneg, h, Try.results38]
      exact ⟨[(4, 0)], by simp, by simp, by simp [renV, renAt, renFin, idx], by simp [renBlk, renSegs, renSg], by simp [renBlk, renSegs, renSg, Mem.get, assoc, e]⟩
theorem eqBytes_ok (k : Nat) (xs : List Int) (hx : xs.length = k) (hk : k < 2 ^ 40) :
    ACalls Try.prog 40 [.ref (.sl 0 0 0 0 k 1), .ref (.sl 0 1 0 0 k 1)] [.lv true [(0, .ints .u8 k xs)], .lv true [(0, .ints .u8 k xs)]] (fun v ms ns => v = .b true ∧ ms = [.lv true [(0, .ints .u8 k xs)], .lv true [(0, .ints .u8 k xs)]] ∧ ns = []) := by
  refine acalls_of_body mix Try.func40 rfl fok40 (Nat.le_of_ble_eq_true rfl) ?_
  unfold abody
  simp only [absE, absL, absF, reduceCtorEq, ↓reduceIte, Nat.reduceEqDiff, Nat.reduceAdd, Nat.reduceLT, Nat.reduceMul, Nat.reduceSub, Nat.reduceLeDiff, Int.reduceLT, Int.reduceLE, Int.reduceEq, Option.isSome_some, implies_true, false_implies, Prod.mk.injEq, ne_eq, not_false_eq_true, not_true_eq_false, ge_iff_le, gt_iff_lt, Int.toNat_natCast, Int.reduceToNat, Int.cast_ofNat_Int, Int.natCast_nonneg, Try.f40]
  refine awpLoop.intro (fun i : Nat => [(0, .ref (.sl 0 0 0 0 k 1)), (1, .ref (.sl 0 1 0 0 k 1)), (5, .i .i64 i)]) (fun i => ⟨[.lv true [(0, .ints .u8 k xs)], .lv true [(0, .ints .u8 k xs)]], [], 8⟩)
    (fun i => i ≤ k) (fun i => k - i) 0 (by omega) ⟨[], rfl, ?_, ?_⟩ ?_
  · simp [wkEnv, lk, renV, renAt, renTo]
  · simp [wkMem, wkLoc, Mem.get, assoc, renBlk, renSegs, renSg, renTo]
  · intro i hi
    by_cases h : (i : Int) < k
    · have w := wrap_i64s (show i < 2 ^ 62 by omega)
      have v1 : 0 + i * 1 < k := by omega
      simp only [absE, absL, absF, reduceCtorEq, ↓reduceIte, Nat.reduceEqDiff, Nat.reduceAdd, Nat.reduceLT, Nat.reduceMul, Nat.reduceSub, Nat.reduceLeDiff, Int.reduceLT, Int.reduceLE, Int.reduceEq, Option.isSome_some, implies_true, false_implies, Prod.mk.injEq, ne_eq, not_false_eq_true, not_true_eq_false, ge_iff_le, gt_iff_lt, Int.toNat_natCast, Int.reduceToNat, Int.cast_ofNat_Int, Int.natCast_nonneg, h, v1]
      refine LoopNext.intro (i + 1) (by omega) (by omega) ⟨[], rfl, ?_, ?_⟩
      · simp [wkEnv, lk, renV, renAt, renTo, w]
      · simp [wkMem, wkLoc, Mem.get, assoc, renBlk, renSegs, renSg, renTo, w]
    · simp only [absE, absL, absF, reduceCtorEq, ↓reduceIte, Nat.reduceEqDiff, Nat.reduceAdd, Nat.reduceLT, Nat.reduceMul, Nat.reduceSub, Nat.reduceLeDiff, Int.reduceLT, Int.reduceLE, Int.reduceEq, Option.isSome_some, implies_true, false_implies, Prod.mk.injEq, ne_eq, not_false_eq_true, not_true_eq_false, ge_iff_le, gt_iff_lt, Int.toNat_natCast, Int.reduceToNat, Int.cast_ofNat_Int, Int.natCast_nonneg, h, Try.results40]
      exact ⟨[], by simp, by simp, by simp [renV, renVs, renSegs, renSg, renBlk]⟩

end Go.Proofs.Ytoccbgffekhcaaa
