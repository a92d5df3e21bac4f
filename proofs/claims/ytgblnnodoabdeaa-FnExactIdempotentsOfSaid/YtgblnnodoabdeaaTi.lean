/-
Contracts of functions of the given program, by the abstract walk.
-/
import Derived.Test.YtgblnnodoabdeaaAbsY
import Derived.Test.YtgblnnodoabdeaaTh
namespace Go.Proofs.Ytgblnnodoabdeaa
open Go Go.Abs
set_option linter.unusedVariables false
set_option linter.unusedSectionVars false
set_option linter.unusedSimpArgs false
set_option maxRecDepth 100000
/-! IdempotentsOf: the program -/
theorem implIdm_no (n : Int) (t : List Int) (p : Int) (ht : Bytes 100 t) (h : limC n t p ≠ 0) :
    ACalls Try.prog 17 [.agg (sqS n t), .i .i64 p] [] (fun v ms ns => v = .tup [.ref .nils, .i .i64 (limC n t p)] ∧ ms = [] ∧ ns = []) := by
  refine acalls_of_body mix Try.func17 rfl fok17 (Nat.le_of_ble_eq_true rfl) ?_
  unfold abody
  simp only [absE, absL, absF, reduceCtorEq, ↓reduceIte, Nat.reduceEqDiff, Nat.reduceAdd, Nat.reduceLT, Nat.reduceMul, Nat.reduceSub, Nat.reduceLeDiff, Int.reduceLT, Int.reduceLE, Int.reduceEq, Option.isSome_some, implies_true, false_implies, Prod.mk.injEq, ne_eq, not_false_eq_true, not_true_eq_false, ge_iff_le, gt_iff_lt, Int.toNat_natCast, Int.reduceToNat, Int.cast_ofNat_Int, Int.natCast_nonneg, Try.f17]
  refine CallsVia.none (ringCode0_ok n t p ht) ?_
  rintro _ _ _ ⟨rfl, rfl, rfl⟩
  by_cases h0 : rcd0 n t p = 0
  · obtain ⟨hs, hl, hp⟩ := rcd0_zero h0
    obtain ⟨N, rfl⟩ : ∃ N : Nat, n = N := ⟨n.toNat, by have := hs.1; omega⟩
    obtain ⟨P, rfl, hP1, hP2⟩ := hp.nat
    have hN := hs.le
    have hbig : 20000 < P ^ N := by
      apply Decidable.byContradiction; intro hn
      exact h (by unfold limC; rw [if_neg (fun hh => hn (by simpa using hh.2)), h0])
    have e : limC N t P = 3 := by unfold limC; rw [if_pos ⟨h0, by simpa using hbig⟩]
    have hS := sums_no N t P 60 hN hP1 hP2 hbig
    unfold sMs at hS
    simp only [absE, absL, absF, reduceCtorEq, ↓reduceIte, Nat.reduceEqDiff, Nat.reduceAdd, Nat.reduceLT, Nat.reduceMul, Nat.reduceSub, Nat.reduceLeDiff, Int.reduceLT, Int.reduceLE, Int.reduceEq, Option.isSome_some, implies_true, false_implies, Prod.mk.injEq, ne_eq, not_false_eq_true, not_true_eq_false, ge_iff_le, gt_iff_lt, Int.toNat_natCast, Int.reduceToNat, Int.cast_ofNat_Int, Int.natCast_nonneg, h0]
    refine CallsVia.args [(1, 0), (2, 0), (12, 0), (11, 0)] hS (by simp) (by simp [Mem.get, assoc]) rfl rfl ?_
    rintro _ _ _ ⟨rfl, rfl, rfl⟩
    simp only [absE, absL, absF, reduceCtorEq, ↓reduceIte, Nat.reduceEqDiff, Nat.reduceAdd, Nat.reduceLT, Nat.reduceMul, Nat.reduceSub, Nat.reduceLeDiff, Int.reduceLT, Int.reduceLE, Int.reduceEq, Option.isSome_some, implies_true, false_implies, Prod.mk.injEq, ne_eq, not_false_eq_true, not_true_eq_false, ge_iff_le, gt_iff_lt, Int.toNat_natCast, Int.reduceToNat, Int.cast_ofNat_Int, Int.natCast_nonneg, Try.results17]
    exact ⟨[], by simp, by simp, by simp [renV, renVs, renAt, e]⟩
  · have e := limC_0 h0
    simp only [absE, absL, absF, reduceCtorEq, ↓reduceIte, Nat.reduceEqDiff, Nat.reduceAdd, Nat.reduceLT, Nat.reduceMul, Nat.reduceSub, Nat.reduceLeDiff, Int.reduceLT, Int.reduceLE, Int.reduceEq, Option.isSome_some, implies_true, false_implies, Prod.mk.injEq, ne_eq, not_false_eq_true, not_true_eq_false, ge_iff_le, gt_iff_lt, Int.toNat_natCast, Int.reduceToNat, Int.cast_ofNat_Int, Int.natCast_nonneg, h0, Try.results17]
    exact ⟨[], by simp, by simp, by simp [renV, renVs, renAt, e]⟩

end Go.Proofs.Ytgblnnodoabdeaa
