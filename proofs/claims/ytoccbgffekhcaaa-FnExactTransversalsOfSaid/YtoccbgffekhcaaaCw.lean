/-
Contracts of functions of the given program, by the abstract walk.
-/
import Derived.Test.YtoccbgffekhcaaaAbsY
import Derived.Test.YtoccbgffekhcaaaFc
namespace Go.Proofs.Ytoccbgffekhcaaa
open Go Go.Abs
set_option linter.unusedVariables false
set_option linter.unusedSectionVars false
set_option linter.unusedSimpArgs false
set_option maxRecDepth 100000
theorem within_ok (n l h : Int) : ACalls Try.prog 101 [.i .i64 n, .i .i64 l, .i .i64 h] [] (fun r ms ns => r = .b (decide (l ≤ n ∧ n ≤ h)) ∧ ms = [] ∧ ns = []) := by
  refine acalls_of_body mix Try.func101 rfl fok101 (Nat.le_of_ble_eq_true rfl) ?_
  unfold abody
  by_cases h1 : l ≤ n
  · simp only [absE, absL, absF, reduceCtorEq, ↓reduceIte, Nat.reduceEqDiff, Nat.reduceAdd, Nat.reduceLT, Nat.reduceMul, Nat.reduceSub, Nat.reduceLeDiff, Int.reduceLT, Int.reduceLE, Int.reduceEq, Option.isSome_some, implies_true, false_implies, Prod.mk.injEq, ne_eq, not_false_eq_true, not_true_eq_false, ge_iff_le, gt_iff_lt, Int.toNat_natCast, Int.reduceToNat, Int.cast_ofNat_Int, Int.natCast_nonneg, h1, Try.f101]
    exact ⟨[], by simp, by simp, by simp [renV]; omega⟩
  · simp only [absE, absL, absF, reduceCtorEq, ↓reduceIte, Nat.reduceEqDiff, Nat.reduceAdd, Nat.reduceLT, Nat.reduceMul, Nat.reduceSub, Nat.reduceLeDiff, Int.reduceLT, Int.reduceLE, Int.reduceEq, Option.isSome_some, implies_true, false_implies, Prod.mk.injEq, ne_eq, not_false_eq_true, not_true_eq_false, ge_iff_le, gt_iff_lt, Int.toNat_natCast, Int.reduceToNat, Int.cast_ofNat_Int, Int.natCast_nonneg, h1, Try.f101]
    exact ⟨[], by simp, by simp, by simp [renV]; omega⟩

theorem l01In_ok (n l h : Int) : ACalls Try.prog 99 [.i .i64 n, .i .i64 l, .i .i64 h] [] (fun r ms ns => r = .b (decide (l ≤ n ∧ n ≤ h)) ∧ ms = [] ∧ ns = []) := by
  refine acalls_of_body mix Try.func99 rfl fok99 (Nat.le_of_ble_eq_true rfl) ?_
  unfold abody
  by_cases h1 : l ≤ n
  · simp only [absE, absL, absF, reduceCtorEq, ↓reduceIte, Nat.reduceEqDiff, Nat.reduceAdd, Nat.reduceLT, Nat.reduceMul, Nat.reduceSub, Nat.reduceLeDiff, Int.reduceLT, Int.reduceLE, Int.reduceEq, Option.isSome_some, implies_true, false_implies, Prod.mk.injEq, ne_eq, not_false_eq_true, not_true_eq_false, ge_iff_le, gt_iff_lt, Int.toNat_natCast, Int.reduceToNat, Int.cast_ofNat_Int, Int.natCast_nonneg, h1, Try.f99]
    exact ⟨[], by simp, by simp, by simp [renV]; omega⟩
  · simp only [absE, absL, absF, reduceCtorEq, ↓reduceIte, Nat.reduceEqDiff, Nat.reduceAdd, Nat.reduceLT, Nat.reduceMul, Nat.reduceSub, Nat.reduceLeDiff, Int.reduceLT, Int.reduceLE, Int.reduceEq, Option.isSome_some, implies_true, false_implies, Prod.mk.injEq, ne_eq, not_false_eq_true, not_true_eq_false, ge_iff_le, gt_iff_lt, Int.toNat_natCast, Int.reduceToNat, Int.cast_ofNat_Int, Int.natCast_nonneg, h1, Try.f99]
    exact ⟨[], by simp, by simp, by simp [renV]; omega⟩


end Go.Proofs.Ytoccbgffekhcaaa
