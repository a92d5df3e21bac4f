/-
Contracts of functions of the given program, by the abstract walk.
-/
import Derived.Test.YtjmenocghjggcaaAbsY
import Derived.Test.YtjmenocghjggcaaWn
namespace Go.Proofs.Ytjmenocghjggcaa
open Go Go.Abs
set_option linter.unusedVariables false
set_option linter.unusedSectionVars false
set_option linter.unusedSimpArgs false
set_option maxRecDepth 100000
/-! CountUnits: both sides whole -/
noncomputable def cnR (n : Int) (t : List Int) (p : Int) : AV := if limC n t p = 0 then .tup [.i .i64 (cnU n.toNat t p.toNat (p.toNat ^ n.toNat) : Nat), .i .i64 0] else .tup [.i .i64 0, .i .i64 (limC n t p)]
theorem limC_nat {n : Int} {t : List Int} {p : Int} (h : limC n t p = 0) : ∃ N P : Nat, n = N ∧ p = P ∧ rcd0 n t p = 0 ∧ SqP n t ∧ PrP p ∧ 2 ≤ P ∧ P ≤ 7 ∧ P ^ N ≤ 20000 := by
  have hr : rcd0 n t p = 0 := by
    unfold limC at h; split at h
    · omega
    · exact h
  obtain ⟨hs, _, hp⟩ := rcd0_zero hr
  obtain ⟨N, rfl⟩ : ∃ N : Nat, n = N := ⟨n.toNat, by have := hs.1; omega⟩
  obtain ⟨P, rfl, hP1, hP2⟩ := hp.nat
  refine ⟨N, P, rfl, rfl, hr, hs, hp, hP1, hP2, ?_⟩
  apply Decidable.byContradiction; intro hn
  unfold limC at h
  rw [if_pos ⟨hr, by simpa using (show 20000 < P ^ N by omega)⟩] at h
  cases h
theorem specCnU_ok (n : Int) (t : List Int) (p : Int) (ht : Bytes 100 t) (hp : -2 ^ 63 ≤ p ∧ p < 2 ^ 63) :
    ACalls Try.prog 8 [.agg (sqS n t), .i .i64 p] [] (fun v ms ns => v = cnR n t p ∧ ms = [] ∧ ns = []) := by
  unfold cnR
  by_cases h : limC n t p = 0
  · obtain ⟨N, P, rfl, rfl, _⟩ := limC_nat h
    rw [if_pos h]
    exact specCnU_yes N t P ht h
  · rw [if_neg h]; exact specCnU_no n t p ht h
set_option maxHeartbeats 1000000 in
theorem implCnU_ok (n : Int) (t : List Int) (p : Int) (ht : Bytes 100 t) (hp : -2 ^ 63 ≤ p ∧ p < 2 ^ 63) :
    ACalls Try.prog 10 [.agg (sqS n t), .i .i64 p] [] (fun v ms ns => v = cnR n t p ∧ ms = [] ∧ ns = []) := by
  refine acalls_of_body mix Try.func10 rfl fok10 (Nat.le_of_ble_eq_true rfl) ?_
  unfold abody
  simp only [absE, absL, absF, reduceCtorEq, ↓reduceIte, Nat.reduceEqDiff, Nat.reduceAdd, Nat.reduceLT, Nat.reduceMul, Nat.reduceSub, Nat.reduceLeDiff, Int.reduceLT, Int.reduceLE, Int.reduceEq, Option.isSome_some, implies_true, false_implies, Prod.mk.injEq, ne_eq, not_false_eq_true, not_true_eq_false, ge_iff_le, gt_iff_lt, Int.toNat_natCast, Int.reduceToNat, Int.cast_ofNat_Int, Int.natCast_nonneg, Try.f10]
  refine CallsVia.none (ringCode0_ok n t p ht) ?_
  rintro _ _ _ ⟨rfl, rfl, rfl⟩
  by_cases h0 : rcd0 n t p = 0
  · obtain ⟨hs, hl, hpp⟩ := rcd0_zero h0
    obtain ⟨N, rfl⟩ : ∃ N : Nat, n = N := ⟨n.toNat, by have := hs.1; omega⟩
    obtain ⟨P, rfl, hP1, hP2⟩ := hpp.nat
    have hN := hs.le
    simp only [absE, absL, absF, reduceCtorEq, ↓reduceIte, Nat.reduceEqDiff, Nat.reduceAdd, Nat.reduceLT, Nat.reduceMul, Nat.reduceSub, Nat.reduceLeDiff, Int.reduceLT, Int.reduceLE, Int.reduceEq, Option.isSome_some, implies_true, false_implies, Prod.mk.injEq, ne_eq, not_false_eq_true, not_true_eq_false, ge_iff_le, gt_iff_lt, Int.toNat_natCast, Int.reduceToNat, Int.cast_ofNat_Int, Int.natCast_nonneg, h0]
    by_cases hbig : 20000 < P ^ N
    · have e : limC N t P = 3 := by unfold limC; rw [if_pos ⟨h0, by simpa using hbig⟩]
      have e2 : cnR N t P = .tup [.i .i64 0, .i .i64 3] := by unfold cnR; rw [if_neg (by rw [e]; decide), e]
      have hS := sumsU_no N t P 32 hN hP1 hP2 hbig
      unfold uMs at hS
      refine CallsVia.args [(1, 0), (2, 0), (11, 0)] hS (by simp) (by simp [Mem.get, assoc]) rfl rfl ?_
      rintro _ _ _ ⟨rfl, rfl, rfl⟩
      simp only [absE, absL, absF, reduceCtorEq, ↓reduceIte, Nat.reduceEqDiff, Nat.reduceAdd, Nat.reduceLT, Nat.reduceMul, Nat.reduceSub, Nat.reduceLeDiff, Int.reduceLT, Int.reduceLE, Int.reduceEq, Option.isSome_some, implies_true, false_implies, Prod.mk.injEq, ne_eq, not_false_eq_true, not_true_eq_false, ge_iff_le, gt_iff_lt, Int.toNat_natCast, Int.reduceToNat, Int.cast_ofNat_Int, Int.natCast_nonneg, Try.results10]
      exact ⟨[], by simp, by simp, by simp [renV, renVs, e2], by simp, by simp⟩
    · have e : limC N t P = 0 := by unfold limC; rw [if_neg (fun hh => hbig (by simpa using hh.2)), h0]
      have e2 : cnR N t P = .tup [.i .i64 (cnU N t P (P ^ N) : Nat), .i .i64 0] := by unfold cnR; rw [if_pos e]; rfl
      have hS := sumsU_yes N t P ht hs hpp hP1 hP2 (by omega)
      unfold uMs at hS
      refine CallsVia.args [(1, 0), (2, 0), (11, 0)] hS (by simp) (by simp [Mem.get, assoc]) rfl rfl ?_
      rintro _ _ _ ⟨rfl, rfl, rfl⟩
      simp only [absE, absL, absF, reduceCtorEq, ↓reduceIte, Nat.reduceEqDiff, Nat.reduceAdd, Nat.reduceLT, Nat.reduceMul, Nat.reduceSub, Nat.reduceLeDiff, Int.reduceLT, Int.reduceLE, Int.reduceEq, Option.isSome_some, implies_true, false_implies, Prod.mk.injEq, ne_eq, not_false_eq_true, not_true_eq_false, ge_iff_le, gt_iff_lt, Int.toNat_natCast, Int.reduceToNat, Int.cast_ofNat_Int, Int.natCast_nonneg, Try.results10]
      exact ⟨[], by simp, by simp, by simp [renV, renVs, e2], by simp, by simp⟩
  · have e := limC_0 h0
    have e2 : cnR n t p = .tup [.i .i64 0, .i .i64 (rcd0 n t p)] := by unfold cnR; rw [if_neg (by rw [e]; exact h0), e]
    simp only [absE, absL, absF, reduceCtorEq, ↓reduceIte, Nat.reduceEqDiff, Nat.reduceAdd, Nat.reduceLT, Nat.reduceMul, Nat.reduceSub, Nat.reduceLeDiff, Int.reduceLT, Int.reduceLE, Int.reduceEq, Option.isSome_some, implies_true, false_implies, Prod.mk.injEq, ne_eq, not_false_eq_true, not_true_eq_false, ge_iff_le, gt_iff_lt, Int.toNat_natCast, Int.reduceToNat, Int.cast_ofNat_Int, Int.natCast_nonneg, h0, Try.results10]
    exact ⟨[], by simp, by simp, by simp [renV, renVs, e2], by simp, by simp⟩
theorem cnR_form (n : Int) (t : List Int) (p : Int) (ht : Bytes 100 t) (hp : -2 ^ 63 ≤ p ∧ p < 2 ^ 63) : ∃ k e, cnR n t p = .tup [.i .i64 k, .i .i64 e] := by
  unfold cnR; split
  · exact ⟨_, _, rfl⟩
  · exact ⟨_, _, rfl⟩

end Go.Proofs.Ytjmenocghjggcaa
