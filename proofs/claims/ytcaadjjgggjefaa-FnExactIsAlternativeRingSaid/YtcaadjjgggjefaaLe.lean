/-
Contracts of functions of the given program, by the abstract walk.
-/
import Derived.Test.YtcaadjjgggjefaaAbsY
import Derived.Test.YtcaadjjgggjefaaLd
namespace Go.Proofs.Ytcaadjjgggjefaa
open Go Go.Abs
set_option linter.unusedVariables false
set_option linter.unusedSectionVars false
set_option linter.unusedSimpArgs false
set_option maxRecDepth 100000
noncomputable def altAV (n : Int) (t : List Int) (p : Int) : AV := if rcd0 n t p = 0 then .tup [.b (!anyB n.toNat (altS p n.toNat t)), .i .i64 0] else .tup [.b false, .i .i64 (rcd0 n t p)]
theorem alt_form (n : Int) (t : List Int) (p : Int) (ht : Bytes 100 t) (_ : -2 ^ 63 ≤ p ∧ p < 2 ^ 63) : ∃ b e, altAV n t p = .tup [.b b, .i .i64 e] := by
  unfold altAV; split <;> exact ⟨_, _, rfl⟩
theorem rcd0_zero {n : Int} {t : List Int} {p : Int} (h : rcd0 n t p = 0) : SqP n t ∧ PrP p := by
  unfold rcd0 at h
  split at h
  · rename_i h1
    split at h
    · rename_i h2
      refine ⟨?_, of_decide_eq_true h2⟩
      simp only [loopB, Bool.and_eq_true] at h1; exact sqB_iff.1 h1.1
    · omega
  · omega
theorem implAlt_ok (n : Int) (t : List Int) (p : Int) (ht : Bytes 100 t) (_ : -2 ^ 63 ≤ p ∧ p < 2 ^ 63) : ACalls Try.prog 39 [.agg (sqS n t), .i .i64 p] [] (fun v ms ns => v = altAV n t p ∧ ms = [] ∧ ns = []) := by
  unfold altAV
  refine acalls_of_body mix Try.func39 rfl fok39 (Nat.le_of_ble_eq_true rfl) ?_
  unfold abody
  simp only [absE, absL, absF, reduceCtorEq, ↓reduceIte, Nat.reduceEqDiff, Nat.reduceAdd, Nat.reduceLT, Nat.reduceMul, Nat.reduceSub, Nat.reduceLeDiff, Int.reduceLT, Int.reduceLE, Int.reduceEq, Option.isSome_some, implies_true, false_implies, Prod.mk.injEq, ne_eq, not_false_eq_true, not_true_eq_false, ge_iff_le, gt_iff_lt, Int.toNat_natCast, Int.reduceToNat, Int.cast_ofNat_Int, Int.natCast_nonneg, Try.f39]
  refine CallsVia.none (ringCode0_ok n t p ht) ?_
  rintro _ _ _ ⟨rfl, rfl, rfl⟩
  by_cases h : rcd0 n t p = 0
  · obtain ⟨hs, hp⟩ := rcd0_zero h
    obtain ⟨N, rfl⟩ : ∃ N : Nat, n = N := ⟨n.toNat, by have := hs.1; omega⟩
    simp only [absE, absL, absF, reduceCtorEq, ↓reduceIte, Nat.reduceEqDiff, Nat.reduceAdd, Nat.reduceLT, Nat.reduceMul, Nat.reduceSub, Nat.reduceLeDiff, Int.reduceLT, Int.reduceLE, Int.reduceEq, Option.isSome_some, implies_true, false_implies, Prod.mk.injEq, ne_eq, not_false_eq_true, not_true_eq_false, ge_iff_le, gt_iff_lt, Int.toNat_natCast, Int.reduceToNat, Int.cast_ofNat_Int, Int.natCast_nonneg, h]
    refine CallsVia.none (isAlternative_ok N t p ht hs hp) ?_
    rintro _ _ _ ⟨rfl, rfl, rfl⟩
    simp only [absE, absL, absF, reduceCtorEq, ↓reduceIte, Nat.reduceEqDiff, Nat.reduceAdd, Nat.reduceLT, Nat.reduceMul, Nat.reduceSub, Nat.reduceLeDiff, Int.reduceLT, Int.reduceLE, Int.reduceEq, Option.isSome_some, implies_true, false_implies, Prod.mk.injEq, ne_eq, not_false_eq_true, not_true_eq_false, ge_iff_le, gt_iff_lt, Int.toNat_natCast, Int.reduceToNat, Int.cast_ofNat_Int, Int.natCast_nonneg, Try.results39]
    exact ⟨[], by simp, by simp, by simp [renV, renVs, renSegs, renSg, h]⟩
  · simp only [absE, absL, absF, reduceCtorEq, ↓reduceIte, Nat.reduceEqDiff, Nat.reduceAdd, Nat.reduceLT, Nat.reduceMul, Nat.reduceSub, Nat.reduceLeDiff, Int.reduceLT, Int.reduceLE, Int.reduceEq, Option.isSome_some, implies_true, false_implies, Prod.mk.injEq, ne_eq, not_false_eq_true, not_true_eq_false, ge_iff_le, gt_iff_lt, Int.toNat_natCast, Int.reduceToNat, Int.cast_ofNat_Int, Int.natCast_nonneg, h, Try.results39]
    exact ⟨[], by simp, by simp, by simp [renV, renVs, renSegs, renSg, h]⟩
theorem specAlt_ok (n : Int) (t : List Int) (p : Int) (ht : Bytes 100 t) (_ : -2 ^ 63 ≤ p ∧ p < 2 ^ 63) : ACalls Try.prog 38 [.agg (sqS n t), .i .i64 p] [] (fun v ms ns => v = altAV n t p ∧ ms = [] ∧ ns = []) := by
  unfold altAV
  refine acalls_of_body mix Try.func38 rfl fok38 (Nat.le_of_ble_eq_true rfl) ?_
  unfold abody
  simp only [absE, absL, absF, reduceCtorEq, ↓reduceIte, Nat.reduceEqDiff, Nat.reduceAdd, Nat.reduceLT, Nat.reduceMul, Nat.reduceSub, Nat.reduceLeDiff, Int.reduceLT, Int.reduceLE, Int.reduceEq, Option.isSome_some, implies_true, false_implies, Prod.mk.injEq, ne_eq, not_false_eq_true, not_true_eq_false, ge_iff_le, gt_iff_lt, Int.toNat_natCast, Int.reduceToNat, Int.cast_ofNat_Int, Int.natCast_nonneg, Try.f38]
  refine CallsVia.none (l10Code0_ok n t p ht) ?_
  rintro _ _ _ ⟨rfl, rfl, rfl⟩
  by_cases h : rcd0 n t p = 0
  · obtain ⟨hs, hp⟩ := rcd0_zero h
    obtain ⟨N, rfl⟩ : ∃ N : Nat, n = N := ⟨n.toNat, by have := hs.1; omega⟩
    simp only [absE, absL, absF, reduceCtorEq, ↓reduceIte, Nat.reduceEqDiff, Nat.reduceAdd, Nat.reduceLT, Nat.reduceMul, Nat.reduceSub, Nat.reduceLeDiff, Int.reduceLT, Int.reduceLE, Int.reduceEq, Option.isSome_some, implies_true, false_implies, Prod.mk.injEq, ne_eq, not_false_eq_true, not_true_eq_false, ge_iff_le, gt_iff_lt, Int.toNat_natCast, Int.reduceToNat, Int.cast_ofNat_Int, Int.natCast_nonneg, h]
    refine CallsVia.none (l10Alternative_ok N t p ht hs hp) ?_
    rintro _ _ _ ⟨rfl, rfl, rfl⟩
    simp only [absE, absL, absF, reduceCtorEq, ↓reduceIte, Nat.reduceEqDiff, Nat.reduceAdd, Nat.reduceLT, Nat.reduceMul, Nat.reduceSub, Nat.reduceLeDiff, Int.reduceLT, Int.reduceLE, Int.reduceEq, Option.isSome_some, implies_true, false_implies, Prod.mk.injEq, ne_eq, not_false_eq_true, not_true_eq_false, ge_iff_le, gt_iff_lt, Int.toNat_natCast, Int.reduceToNat, Int.cast_ofNat_Int, Int.natCast_nonneg, Try.results38]
    exact ⟨[], by simp, by simp, by simp [renV, renVs, renSegs, renSg, h]⟩
  · simp only [absE, absL, absF, reduceCtorEq, ↓reduceIte, Nat.reduceEqDiff, Nat.reduceAdd, Nat.reduceLT, Nat.reduceMul, Nat.reduceSub, Nat.reduceLeDiff, Int.reduceLT, Int.reduceLE, Int.reduceEq, Option.isSome_some, implies_true, false_implies, Prod.mk.injEq, ne_eq, not_false_eq_true, not_true_eq_false, ge_iff_le, gt_iff_lt, Int.toNat_natCast, Int.reduceToNat, Int.cast_ofNat_Int, Int.natCast_nonneg, h, Try.results38]
    exact ⟨[], by simp, by simp, by simp [renV, renVs, renSegs, renSg, h]⟩

end Go.Proofs.Ytcaadjjgggjefaa
