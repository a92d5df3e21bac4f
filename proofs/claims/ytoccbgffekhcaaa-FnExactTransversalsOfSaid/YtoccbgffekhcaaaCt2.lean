/-
Contracts of functions of the given program, by the abstract walk.
-/
import Derived.Test.YtoccbgffekhcaaaAbsY
import Derived.Test.YtoccbgffekhcaaaCt
namespace Go.Proofs.Ytoccbgffekhcaaa
open Go Go.Abs
set_option linter.unusedVariables false
set_option linter.unusedSectionVars false
set_option linter.unusedSimpArgs false
set_option maxRecDepth 100000
theorem toTable_ok (t : List Int) (ht : t.length = 100) : ACalls Try.prog 58 [.agg (tbS t)] [] (fun r ms ns => r = .agg (tbS t) ∧ ms = [] ∧ ns = []) := by
  refine acalls_of_body mix Try.func58 rfl fok58 (Nat.le_of_ble_eq_true rfl) ?_
  unfold abody
  simp only [absE, absL, absF, reduceCtorEq, ↓reduceIte, Nat.reduceEqDiff, Nat.reduceAdd, Nat.reduceLT, Nat.reduceMul, Nat.reduceSub, Nat.reduceLeDiff, Int.reduceLT, Int.reduceLE, Int.reduceEq, Option.isSome_some, implies_true, false_implies, Prod.mk.injEq, ne_eq, not_false_eq_true, not_true_eq_false, ge_iff_le, gt_iff_lt, Int.toNat_natCast, Int.reduceToNat, Int.cast_ofNat_Int, Int.natCast_nonneg, Try.f58]
  refine awpLoop.intro (fun a : Nat × List Int => [(1, .ref (.ptr 1 0 0 0)), (2, .ref (.ptr 2 0 0 0)), (3, .ref (.ptr 3 0 0 0)), (4, .i .i64 a.1)]) (fun a => ⟨[], [((1, 0), .lv true (tbS t)), ((2, 0), .lv true (tbS (List.replicate 100 0))), ((3, 0), .lv true (tbS a.2))], 4⟩)
    (fun a => a.1 ≤ 10 ∧ a.2.length = 100 ∧ ∀ j, j < a.1 * 10 → a.2.getD j 0 = t.getD j 0) (fun a => 10 - a.1) (0, List.replicate 100 0) ⟨by omega, by simp, fun x' h => absurd h (by simp)⟩ ⟨[((1,0),(1,0)), ((2,0),(2,0)), ((3,0),(3,0))], rfl, ?_, ?_⟩ ?_
  · simp [wkEnv, lk, renV, renAt, renTo]
  · simp [wkMem, wkLoc, Mem.get, assoc, renBlk, renSegs, renSg, renTo]
  · rintro ⟨i, o⟩ ⟨hi, ho, hp⟩
    simp only at hi ho hp
    by_cases h : (i : Int) < 10
    · have w : IntKind.i64.wrap ((i : Int) + 1) = ((i + 1 : Nat) : Int) := by rw [wrap_i64 (by omega) (by omega)]; omega
      have hl : ((t.drop (0 + i * 10)).take 10).length = 10 := sub_length (by omega)
      simp only [absE, absL, absF, reduceCtorEq, ↓reduceIte, Nat.reduceEqDiff, Nat.reduceAdd, Nat.reduceLT, Nat.reduceMul, Nat.reduceSub, Nat.reduceLeDiff, Int.reduceLT, Int.reduceLE, Int.reduceEq, Option.isSome_some, implies_true, false_implies, Prod.mk.injEq, ne_eq, not_false_eq_true, not_true_eq_false, ge_iff_le, gt_iff_lt, Int.toNat_natCast, Int.reduceToNat, Int.cast_ofNat_Int, Int.natCast_nonneg, h]
      refine ⟨by omega, CallsVia.none (toByteA10_ok _ hl) ?_⟩
      rintro _ _ _ ⟨rfl, rfl, rfl⟩
      simp only [absE, absL, absF, reduceCtorEq, ↓reduceIte, Nat.reduceEqDiff, Nat.reduceAdd, Nat.reduceLT, Nat.reduceMul, Nat.reduceSub, Nat.reduceLeDiff, Int.reduceLT, Int.reduceLE, Int.reduceEq, Option.isSome_some, implies_true, false_implies, Prod.mk.injEq, ne_eq, not_false_eq_true, not_true_eq_false, ge_iff_le, gt_iff_lt, Int.toNat_natCast, Int.reduceToNat, Int.cast_ofNat_Int, Int.natCast_nonneg, h]
      refine ⟨by omega, LoopNext.intro (i + 1, spl o (0 + i * 10) ((t.drop (0 + i * 10)).take 10)) ⟨by simp only; omega, by rw [spl_length (by omega)]; exact ho, fun j hj => ?_⟩ (by simp only; omega) ⟨[((1,0),(1,0)), ((2,0),(2,0)), ((3,0),(3,0))], rfl, ?_, ?_⟩⟩
      · rw [getD_spl (by omega), getD_sub, hl]
        simp only at hj
        by_cases e : 0 + i * 10 ≤ j
        · rw [if_pos (by omega), if_pos (by omega)]; congr 1; omega
        · rw [if_neg (by omega)]; exact hp j (by omega)
      · simp [wkEnv, lk, renV, renAt, renTo, w]
      · simp [wkMem, wkLoc, Mem.get, assoc, renBlk, renSegs, renSg, renTo]
    · simp only [absE, absL, absF, reduceCtorEq, ↓reduceIte, Nat.reduceEqDiff, Nat.reduceAdd, Nat.reduceLT, Nat.reduceMul, Nat.reduceSub, Nat.reduceLeDiff, Int.reduceLT, Int.reduceLE, Int.reduceEq, Option.isSome_some, implies_true, false_implies, Prod.mk.injEq, ne_eq, not_false_eq_true, not_true_eq_false, ge_iff_le, gt_iff_lt, Int.toNat_natCast, Int.reduceToNat, Int.cast_ofNat_Int, Int.natCast_nonneg, h, Try.results58]
      have : o = t := ext_getD (by omega) fun j hj => hp j (by omega)
      subst this
      exact ⟨[], by simp, by simp, by simp [renV, renSegs, renSg]⟩

theorem toSquare_ok (n : Int) (t : List Int) (ht : t.length = 100) : ACalls Try.prog 16 [.agg (sqS n t)] [] (fun r ms ns => r = .agg (sqS n t) ∧ ms = [] ∧ ns = []) := by
  refine acalls_of_body mix Try.func16 rfl fok16 (Nat.le_of_ble_eq_true rfl) ?_
  unfold abody
  simp only [absE, absL, absF, reduceCtorEq, ↓reduceIte, Nat.reduceEqDiff, Nat.reduceAdd, Nat.reduceLT, Nat.reduceMul, Nat.reduceSub, Nat.reduceLeDiff, Int.reduceLT, Int.reduceLE, Int.reduceEq, Option.isSome_some, implies_true, false_implies, Prod.mk.injEq, ne_eq, not_false_eq_true, not_true_eq_false, ge_iff_le, gt_iff_lt, Int.toNat_natCast, Int.reduceToNat, Int.cast_ofNat_Int, Int.natCast_nonneg, Try.f16]
  refine CallsVia.none (toTable_ok t ht) ?_
  rintro _ _ _ ⟨rfl, rfl, rfl⟩
  simp only [absE, absL, absF, reduceCtorEq, ↓reduceIte, Nat.reduceEqDiff, Nat.reduceAdd, Nat.reduceLT, Nat.reduceMul, Nat.reduceSub, Nat.reduceLeDiff, Int.reduceLT, Int.reduceLE, Int.reduceEq, Option.isSome_some, implies_true, false_implies, Prod.mk.injEq, ne_eq, not_false_eq_true, not_true_eq_false, ge_iff_le, gt_iff_lt, Int.toNat_natCast, Int.reduceToNat, Int.cast_ofNat_Int, Int.natCast_nonneg, Try.results16]
  exact ⟨[], by simp, by simp, by simp [renV, renSegs, renSg]⟩


end Go.Proofs.Ytoccbgffekhcaaa
