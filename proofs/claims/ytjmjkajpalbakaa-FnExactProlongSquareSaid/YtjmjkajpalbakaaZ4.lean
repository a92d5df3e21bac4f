/-
Contracts of functions of the given program, by the abstract walk.
-/
import Derived.Test.YtjmjkajpalbakaaAbsV
import Derived.Test.YtjmjkajpalbakaaDw
import Derived.Test.YtjmjkajpalbakaaCt2
import Derived.Test.YtjmjkajpalbakaaCe
namespace Go.Proofs.Ytjmjkajpalbakaa
open Go Go.Abs
set_option linter.unusedVariables false
set_option linter.unusedSectionVars false
set_option linter.unusedSimpArgs false
set_option maxRecDepth 100000
theorem lawProlong_ok (n : Int) (t c : List Int) (ht : Bytes 100 t) (hc : Bytes 10 c) : ACalls Try.prog 6 [.agg (sqS n t), .agg (plS c)] [] (fun v ms ns => v = .b true ∧ ms = [] ∧ ns = []) := by
  refine acalls_of_body mix Try.func6 rfl fok6 (Nat.le_of_ble_eq_true rfl) ?_
  have key : ∃ m s e, s.length = 100 ∧ (if sqB n t && permB n c then (if tvB n.toNat t c then (if n = 10 then AV.tup [.agg (sqS 0 (List.replicate 100 0)), .i .i64 3] else .tup [.agg (sqS (n + 1) (prEnd n.toNat t c)), .i .i64 0]) else .tup [.agg (sqS 0 (List.replicate 100 0)), .i .i64 5]) else .tup [.agg (sqS 0 (List.replicate 100 0)), .i .i64 1]) = AV.tup [.agg (sqS m s), .i .i64 e] := by
    have hl : (prEnd n.toNat t c).length = 100 := by simp [prEnd, prT_len, ht.len]
    split
    · split
      · split
        · exact ⟨_, _, _, by simp, rfl⟩
        · exact ⟨_, _, _, hl, rfl⟩
      · exact ⟨_, _, _, by simp, rfl⟩
    · exact ⟨_, _, _, by simp, rfl⟩
  obtain ⟨m, s, e, hs, hkey⟩ := key
  have hspec := specProlong_ok n t c ht hc
  have himpl := implProlong_ok n t c ht hc
  rw [hkey] at hspec himpl
  unfold abody
  simp only [absE, absL, absF, reduceCtorEq, ↓reduceIte, Nat.reduceEqDiff, Nat.reduceAdd, Nat.reduceLT, Nat.reduceMul, Nat.reduceSub, Nat.reduceLeDiff, Int.reduceLT, Int.reduceLE, Int.reduceEq, Option.isSome_some, implies_true, false_implies, Prod.mk.injEq, ne_eq, not_false_eq_true, not_true_eq_false, ge_iff_le, gt_iff_lt, Int.toNat_natCast, Int.cast_ofNat_Int, Int.natCast_nonneg, Try.f6]
  refine CallsX.none (toSquare_ok n t ht.len) ?_
  simp only [absE, absL, absF, reduceCtorEq, ↓reduceIte, Nat.reduceEqDiff, Nat.reduceAdd, Nat.reduceLT, Nat.reduceMul, Nat.reduceSub, Nat.reduceLeDiff, Int.reduceLT, Int.reduceLE, Int.reduceEq, Option.isSome_some, implies_true, false_implies, Prod.mk.injEq, ne_eq, not_false_eq_true, not_true_eq_false, ge_iff_le, gt_iff_lt, Int.toNat_natCast, Int.cast_ofNat_Int, Int.natCast_nonneg]
  refine CallsX.none (toPlaces_ok c hc.len) ?_
  simp only [absE, absL, absF, reduceCtorEq, ↓reduceIte, Nat.reduceEqDiff, Nat.reduceAdd, Nat.reduceLT, Nat.reduceMul, Nat.reduceSub, Nat.reduceLeDiff, Int.reduceLT, Int.reduceLE, Int.reduceEq, Option.isSome_some, implies_true, false_implies, Prod.mk.injEq, ne_eq, not_false_eq_true, not_true_eq_false, ge_iff_le, gt_iff_lt, Int.toNat_natCast, Int.cast_ofNat_Int, Int.natCast_nonneg]
  refine CallsX.none hspec ?_
  simp only [absE, absL, absF, reduceCtorEq, ↓reduceIte, Nat.reduceEqDiff, Nat.reduceAdd, Nat.reduceLT, Nat.reduceMul, Nat.reduceSub, Nat.reduceLeDiff, Int.reduceLT, Int.reduceLE, Int.reduceEq, Option.isSome_some, implies_true, false_implies, Prod.mk.injEq, ne_eq, not_false_eq_true, not_true_eq_false, ge_iff_le, gt_iff_lt, Int.toNat_natCast, Int.cast_ofNat_Int, Int.natCast_nonneg]
  refine ⟨by decide, CallsX.none (toSquare_ok n t ht.len) ?_⟩
  simp only [absE, absL, absF, reduceCtorEq, ↓reduceIte, Nat.reduceEqDiff, Nat.reduceAdd, Nat.reduceLT, Nat.reduceMul, Nat.reduceSub, Nat.reduceLeDiff, Int.reduceLT, Int.reduceLE, Int.reduceEq, Option.isSome_some, implies_true, false_implies, Prod.mk.injEq, ne_eq, not_false_eq_true, not_true_eq_false, ge_iff_le, gt_iff_lt, Int.toNat_natCast, Int.cast_ofNat_Int, Int.natCast_nonneg]
  refine CallsX.none (toPlaces_ok c hc.len) ?_
  simp only [absE, absL, absF, reduceCtorEq, ↓reduceIte, Nat.reduceEqDiff, Nat.reduceAdd, Nat.reduceLT, Nat.reduceMul, Nat.reduceSub, Nat.reduceLeDiff, Int.reduceLT, Int.reduceLE, Int.reduceEq, Option.isSome_some, implies_true, false_implies, Prod.mk.injEq, ne_eq, not_false_eq_true, not_true_eq_false, ge_iff_le, gt_iff_lt, Int.toNat_natCast, Int.cast_ofNat_Int, Int.natCast_nonneg]
  refine CallsX.none himpl ?_
  simp only [absE, absL, absF, reduceCtorEq, ↓reduceIte, Nat.reduceEqDiff, Nat.reduceAdd, Nat.reduceLT, Nat.reduceMul, Nat.reduceSub, Nat.reduceLeDiff, Int.reduceLT, Int.reduceLE, Int.reduceEq, Option.isSome_some, implies_true, false_implies, Prod.mk.injEq, ne_eq, not_false_eq_true, not_true_eq_false, ge_iff_le, gt_iff_lt, Int.toNat_natCast, Int.cast_ofNat_Int, Int.natCast_nonneg]
  refine ⟨by decide, CallsVia.none (eqSquare_ok _ _ _ _ hs hs) ?_⟩
  rintro _ _ _ ⟨rfl, rfl, rfl⟩
  simp only [absE, absL, absF, reduceCtorEq, ↓reduceIte, Nat.reduceEqDiff, Nat.reduceAdd, Nat.reduceLT, Nat.reduceMul, Nat.reduceSub, Nat.reduceLeDiff, Int.reduceLT, Int.reduceLE, Int.reduceEq, Option.isSome_some, implies_true, false_implies, Prod.mk.injEq, ne_eq, not_false_eq_true, not_true_eq_false, ge_iff_le, gt_iff_lt, Int.toNat_natCast, Int.cast_ofNat_Int, Int.natCast_nonneg, and_self, Try.results6]
  exact fin_b rfl rfl

end Go.Proofs.Ytjmjkajpalbakaa
