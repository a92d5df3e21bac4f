/-
Contracts of functions of the given program, by the abstract walk.
-/
import Derived.Test.YtjmjkajpalbakaaAbsV
import Derived.Test.YtjmjkajpalbakaaCs
import Derived.Test.YtjmjkajpalbakaaCt2
import Derived.Test.YtjmjkajpalbakaaCe
namespace Go.Proofs.Ytjmjkajpalbakaa
open Go Go.Abs
set_option linter.unusedVariables false
set_option linter.unusedSectionVars false
set_option linter.unusedSimpArgs false
set_option linter.defProp false
set_option maxRecDepth 100000
theorem law_ok (n : Int) (t p q r : List Int) (ht : Bytes 100 t) (hp : Bytes 10 p) (hq : Bytes 10 q) (hr : Bytes 10 r) : ACalls Try.prog 4 [.agg (sqS n t), .agg (trS p q r)] [] (fun v ms ns => v = .b true ∧ ms = [] ∧ ns = []) := by
  refine acalls_of_body mix Try.func4 rfl fok4 (Nat.le_of_ble_eq_true rfl) ?_
  unfold abody
  simp only [absE, absL, absF, reduceCtorEq, ↓reduceIte, Nat.reduceEqDiff, Nat.reduceAdd, Nat.reduceLT, Nat.reduceMul, Nat.reduceSub, Nat.reduceLeDiff, Int.reduceLT, Int.reduceLE, Int.reduceEq, Option.isSome_some, implies_true, false_implies, Prod.mk.injEq, ne_eq, not_false_eq_true, not_true_eq_false, ge_iff_le, gt_iff_lt, Int.toNat_natCast, Int.cast_ofNat_Int, Int.natCast_nonneg, Try.f4]
  refine CallsX.none (toSquare_ok n t ht.len) ?_
  simp only [absE, absL, absF, reduceCtorEq, ↓reduceIte, Nat.reduceEqDiff, Nat.reduceAdd, Nat.reduceLT, Nat.reduceMul, Nat.reduceSub, Nat.reduceLeDiff, Int.reduceLT, Int.reduceLE, Int.reduceEq, Option.isSome_some, implies_true, false_implies, Prod.mk.injEq, ne_eq, not_false_eq_true, not_true_eq_false, ge_iff_le, gt_iff_lt, Int.toNat_natCast, Int.cast_ofNat_Int, Int.natCast_nonneg]
  refine CallsX.none (toTriple_ok p q r hp.len hq.len hr.len) ?_
  simp only [absE, absL, absF, reduceCtorEq, ↓reduceIte, Nat.reduceEqDiff, Nat.reduceAdd, Nat.reduceLT, Nat.reduceMul, Nat.reduceSub, Nat.reduceLeDiff, Int.reduceLT, Int.reduceLE, Int.reduceEq, Option.isSome_some, implies_true, false_implies, Prod.mk.injEq, ne_eq, not_false_eq_true, not_true_eq_false, ge_iff_le, gt_iff_lt, Int.toNat_natCast, Int.cast_ofNat_Int, Int.natCast_nonneg]
  refine CallsX.none (specIsotopeOf_ok n t p q r ht hp hq hr) ?_
  cases hb : (sqB n t && (permB n p && permB n q && permB n r))
  · simp only [absE, absL, absF, reduceCtorEq, ↓reduceIte, Nat.reduceEqDiff, Nat.reduceAdd, Nat.reduceLT, Nat.reduceMul, Nat.reduceSub, Nat.reduceLeDiff, Int.reduceLT, Int.reduceLE, Int.reduceEq, Option.isSome_some, implies_true, false_implies, Prod.mk.injEq, ne_eq, not_false_eq_true, not_true_eq_false, ge_iff_le, gt_iff_lt, Int.toNat_natCast, Int.cast_ofNat_Int, Int.natCast_nonneg]
    refine ⟨by decide, CallsX.none (toSquare_ok n t ht.len) ?_⟩
    simp only [absE, absL, absF, reduceCtorEq, ↓reduceIte, Nat.reduceEqDiff, Nat.reduceAdd, Nat.reduceLT, Nat.reduceMul, Nat.reduceSub, Nat.reduceLeDiff, Int.reduceLT, Int.reduceLE, Int.reduceEq, Option.isSome_some, implies_true, false_implies, Prod.mk.injEq, ne_eq, not_false_eq_true, not_true_eq_false, ge_iff_le, gt_iff_lt, Int.toNat_natCast, Int.cast_ofNat_Int, Int.natCast_nonneg]
    refine CallsX.none (toTriple_ok p q r hp.len hq.len hr.len) ?_
    simp only [absE, absL, absF, reduceCtorEq, ↓reduceIte, Nat.reduceEqDiff, Nat.reduceAdd, Nat.reduceLT, Nat.reduceMul, Nat.reduceSub, Nat.reduceLeDiff, Int.reduceLT, Int.reduceLE, Int.reduceEq, Option.isSome_some, implies_true, false_implies, Prod.mk.injEq, ne_eq, not_false_eq_true, not_true_eq_false, ge_iff_le, gt_iff_lt, Int.toNat_natCast, Int.cast_ofNat_Int, Int.natCast_nonneg]
    refine CallsX.none (implIsotopeOf_ok n t p q r ht hp hq hr) ?_
    simp only [absE, absL, absF, reduceCtorEq, ↓reduceIte, Nat.reduceEqDiff, Nat.reduceAdd, Nat.reduceLT, Nat.reduceMul, Nat.reduceSub, Nat.reduceLeDiff, Int.reduceLT, Int.reduceLE, Int.reduceEq, Option.isSome_some, implies_true, false_implies, Prod.mk.injEq, ne_eq, not_false_eq_true, not_true_eq_false, ge_iff_le, gt_iff_lt, Int.toNat_natCast, Int.cast_ofNat_Int, Int.natCast_nonneg, hb]
    refine ⟨by decide, CallsVia.none (eqSquare_ok _ _ _ _ (by simp) (by simp)) ?_⟩
    rintro _ _ _ ⟨rfl, rfl, rfl⟩
    simp only [absE, absL, absF, reduceCtorEq, ↓reduceIte, Nat.reduceEqDiff, Nat.reduceAdd, Nat.reduceLT, Nat.reduceMul, Nat.reduceSub, Nat.reduceLeDiff, Int.reduceLT, Int.reduceLE, Int.reduceEq, Option.isSome_some, implies_true, false_implies, Prod.mk.injEq, ne_eq, not_false_eq_true, not_true_eq_false, ge_iff_le, gt_iff_lt, Int.toNat_natCast, Int.cast_ofNat_Int, Int.natCast_nonneg, and_self, Try.results4]
    exact fin_b rfl rfl
  · simp only [absE, absL, absF, reduceCtorEq, ↓reduceIte, Nat.reduceEqDiff, Nat.reduceAdd, Nat.reduceLT, Nat.reduceMul, Nat.reduceSub, Nat.reduceLeDiff, Int.reduceLT, Int.reduceLE, Int.reduceEq, Option.isSome_some, implies_true, false_implies, Prod.mk.injEq, ne_eq, not_false_eq_true, not_true_eq_false, ge_iff_le, gt_iff_lt, Int.toNat_natCast, Int.cast_ofNat_Int, Int.natCast_nonneg]
    refine ⟨by decide, CallsX.none (toSquare_ok n t ht.len) ?_⟩
    simp only [absE, absL, absF, reduceCtorEq, ↓reduceIte, Nat.reduceEqDiff, Nat.reduceAdd, Nat.reduceLT, Nat.reduceMul, Nat.reduceSub, Nat.reduceLeDiff, Int.reduceLT, Int.reduceLE, Int.reduceEq, Option.isSome_some, implies_true, false_implies, Prod.mk.injEq, ne_eq, not_false_eq_true, not_true_eq_false, ge_iff_le, gt_iff_lt, Int.toNat_natCast, Int.cast_ofNat_Int, Int.natCast_nonneg]
    refine CallsX.none (toTriple_ok p q r hp.len hq.len hr.len) ?_
    simp only [absE, absL, absF, reduceCtorEq, ↓reduceIte, Nat.reduceEqDiff, Nat.reduceAdd, Nat.reduceLT, Nat.reduceMul, Nat.reduceSub, Nat.reduceLeDiff, Int.reduceLT, Int.reduceLE, Int.reduceEq, Option.isSome_some, implies_true, false_implies, Prod.mk.injEq, ne_eq, not_false_eq_true, not_true_eq_false, ge_iff_le, gt_iff_lt, Int.toNat_natCast, Int.cast_ofNat_Int, Int.natCast_nonneg]
    refine CallsX.none (implIsotopeOf_ok n t p q r ht hp hq hr) ?_
    simp only [absE, absL, absF, reduceCtorEq, ↓reduceIte, Nat.reduceEqDiff, Nat.reduceAdd, Nat.reduceLT, Nat.reduceMul, Nat.reduceSub, Nat.reduceLeDiff, Int.reduceLT, Int.reduceLE, Int.reduceEq, Option.isSome_some, implies_true, false_implies, Prod.mk.injEq, ne_eq, not_false_eq_true, not_true_eq_false, ge_iff_le, gt_iff_lt, Int.toNat_natCast, Int.cast_ofNat_Int, Int.natCast_nonneg, hb]
    refine ⟨by decide, CallsVia.none (eqSquare_ok _ _ _ _ (isoT_len _) (isoT_len _)) ?_⟩
    rintro _ _ _ ⟨rfl, rfl, rfl⟩
    simp only [absE, absL, absF, reduceCtorEq, ↓reduceIte, Nat.reduceEqDiff, Nat.reduceAdd, Nat.reduceLT, Nat.reduceMul, Nat.reduceSub, Nat.reduceLeDiff, Int.reduceLT, Int.reduceLE, Int.reduceEq, Option.isSome_some, implies_true, false_implies, Prod.mk.injEq, ne_eq, not_false_eq_true, not_true_eq_false, ge_iff_le, gt_iff_lt, Int.toNat_natCast, Int.cast_ofNat_Int, Int.natCast_nonneg, and_self, Try.results4]
    exact fin_b rfl rfl

end Go.Proofs.Ytjmjkajpalbakaa
