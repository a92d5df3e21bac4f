/-
Contracts of functions of the given program, by the abstract walk.
-/
import Derived.Test.YtgblnnodoabdeaaAbsY
import Derived.Test.YtgblnnodoabdeaaTb
namespace Go.Proofs.Ytgblnnodoabdeaa
open Go Go.Abs
set_option linter.unusedVariables false
set_option linter.unusedSectionVars false
set_option linter.unusedSimpArgs false
set_option maxRecDepth 100000
/-! how many sums there are -/
theorem l10Many_ok (N P : Nat) (hP : 2 ≤ P) (hP2 : P ≤ 100) (hN : N ≤ 10) :
    ACalls Try.prog 53 [.i .i64 N, .i .i64 P] [] (fun v ms ns => v = .i .i64 (min (P ^ N) 20001 : Nat) ∧ ms = [] ∧ ns = []) := by
  have hP0 : 0 < P := by omega
  refine acalls_of_body mix Try.func53 rfl fok53 (Nat.le_of_ble_eq_true rfl) ?_
  unfold abody
  simp only [absE, absL, absF, reduceCtorEq, ↓reduceIte, Nat.reduceEqDiff, Nat.reduceAdd, Nat.reduceLT, Nat.reduceMul, Nat.reduceSub, Nat.reduceLeDiff, Int.reduceLT, Int.reduceLE, Int.reduceEq, Option.isSome_some, implies_true, false_implies, Prod.mk.injEq, ne_eq, not_false_eq_true, not_true_eq_false, ge_iff_le, gt_iff_lt, Int.toNat_natCast, Int.reduceToNat, Int.cast_ofNat_Int, Int.natCast_nonneg, Try.f53]
  refine awpLoop.intro (fun k : Nat => [(0, .i .i64 ((N : Int) - k)), (1, .i .i64 P), (5, .i .i64 ((P ^ k : Nat) : Int))]) (fun k => ⟨[], [], 10⟩)
    (fun k => k ≤ N ∧ P ^ k ≤ 2000000) (fun k => N - k) 0 ⟨by omega, by rw [Nat.pow_zero]; decide⟩ ⟨[], rfl, ?_, ?_⟩ ?_
  · simp [wkEnv, lk, renV, renAt, renTo]
  · simp [wkMem, wkLoc]
  · rintro k ⟨hk, hb⟩
    by_cases h : k < N
    · have g1 : (0 : Int) < (N : Int) - k := by omega
      by_cases h2 : P ^ k ≤ 20000
      · have g2 : ((P ^ k : Nat) : Int) ≤ 20000 := by omega
        have hpp : P ^ k * P = P ^ (k + 1) := (Nat.pow_succ ..).symm
        have hlt : P ^ (k + 1) ≤ 2000000 := by rw [← hpp]; exact Nat.le_trans (Nat.mul_le_mul h2 hP2) (by decide)
        have wp : IntKind.i64.wrap (((P ^ k : Nat) : Int) * P) = ((P ^ (k + 1) : Nat) : Int) := by rw [← Int.natCast_mul, hpp]; exact wrap_i64n (by omega)
        have wn : IntKind.i64.wrap ((N : Int) - k - 1) = (N : Int) - ((k + 1 : Nat) : Int) := by rw [wrap_i64 (by omega) (by omega)]; omega
        simp only [absE, absL, absF, reduceCtorEq, ↓reduceIte, Nat.reduceEqDiff, Nat.reduceAdd, Nat.reduceLT, Nat.reduceMul, Nat.reduceSub, Nat.reduceLeDiff, Int.reduceLT, Int.reduceLE, Int.reduceEq, Option.isSome_some, implies_true, false_implies, Prod.mk.injEq, ne_eq, not_false_eq_true, not_true_eq_false, ge_iff_le, gt_iff_lt, Int.toNat_natCast, Int.reduceToNat, Int.cast_ofNat_Int, Int.natCast_nonneg, g1, g2, wp, wn]
        refine LoopNext.intro (k + 1) ⟨by omega, hlt⟩ (by omega) ⟨[], rfl, ?_, ?_⟩
        · simp [wkEnv, lk, renV, renAt, renTo]
        · simp [wkMem, wkLoc]
      · have g2 : ¬ ((P ^ k : Nat) : Int) ≤ 20000 := by omega
        have hge : P ^ k ≤ P ^ N := Nat.pow_le_pow_right hP0 hk
        have em : ((min (P ^ N) 20001 : Nat) : Int) = 20001 := by omega
        have em2 : min ((P ^ k : Nat) : Int) 20001 = 20001 := by omega
        simp only [absE, absL, absF, reduceCtorEq, ↓reduceIte, Nat.reduceEqDiff, Nat.reduceAdd, Nat.reduceLT, Nat.reduceMul, Nat.reduceSub, Nat.reduceLeDiff, Int.reduceLT, Int.reduceLE, Int.reduceEq, Option.isSome_some, implies_true, false_implies, Prod.mk.injEq, ne_eq, not_false_eq_true, not_true_eq_false, ge_iff_le, gt_iff_lt, Int.toNat_natCast, Int.reduceToNat, Int.cast_ofNat_Int, Int.natCast_nonneg, g1, g2, Try.results53]
        rw [em2, em]
        exact ⟨[], by simp, by simp, by simp [renV]⟩
    · have hkN : k = N := by omega
      subst hkN
      have g1 : ¬ (0 : Int) < (k : Int) - k := by omega
      have em : ((min (P ^ k) 20001 : Nat) : Int) = min ((P ^ k : Nat) : Int) 20001 := by omega
      simp only [absE, absL, absF, reduceCtorEq, ↓reduceIte, Nat.reduceEqDiff, Nat.reduceAdd, Nat.reduceLT, Nat.reduceMul, Nat.reduceSub, Nat.reduceLeDiff, Int.reduceLT, Int.reduceLE, Int.reduceEq, Option.isSome_some, implies_true, false_implies, Prod.mk.injEq, ne_eq, not_false_eq_true, not_true_eq_false, ge_iff_le, gt_iff_lt, Int.toNat_natCast, Int.reduceToNat, Int.cast_ofNat_Int, Int.natCast_nonneg, g1, Try.results53]
      rw [em]
      exact ⟨[], by simp, by simp, by simp only [renV, List.map_nil, and_self]⟩
noncomputable def limC (n : Int) (t : List Int) (p : Int) : Int := if rcd0 n t p = 0 ∧ 20000 < p.toNat ^ n.toNat then 3 else rcd0 n t p
theorem limC_0 {n : Int} {t : List Int} {p : Int} (h : rcd0 n t p ≠ 0) : limC n t p = rcd0 n t p := by unfold limC; rw [if_neg (fun hh => h hh.1)]
theorem PrP.nat {p : Int} (h : PrP p) : ∃ P : Nat, p = P ∧ 2 ≤ P ∧ P ≤ 7 := by
  rcases h with rfl | rfl | rfl | rfl
  · exact ⟨2, rfl, by decide, by decide⟩
  · exact ⟨3, rfl, by decide, by decide⟩
  · exact ⟨5, rfl, by decide, by decide⟩
  · exact ⟨7, rfl, by decide, by decide⟩
theorem rcd0_zero {n : Int} {t : List Int} {p : Int} (h : rcd0 n t p = 0) : SqP n t ∧ loopB n t = true ∧ PrP p := by
  unfold rcd0 at h
  split at h
  · rename_i h1
    split at h
    · rename_i h2
      refine ⟨?_, h1, ?_⟩
      · simp only [loopB, Bool.and_eq_true] at h1; exact sqB_iff.1 h1.1
      · unfold prB at h2; exact of_decide_eq_true h2
    · omega
  · omega
theorem l10Limit_ok (n : Int) (t : List Int) (p : Int) (ht : Bytes 100 t) :
    ACalls Try.prog 52 [.agg (sqS n t), .i .i64 p] [] (fun v ms ns => v = .i .i64 (limC n t p) ∧ ms = [] ∧ ns = []) := by
  refine acalls_of_body mix Try.func52 rfl fok52 (Nat.le_of_ble_eq_true rfl) ?_
  unfold abody
  simp only [absE, absL, absF, reduceCtorEq, ↓reduceIte, Nat.reduceEqDiff, Nat.reduceAdd, Nat.reduceLT, Nat.reduceMul, Nat.reduceSub, Nat.reduceLeDiff, Int.reduceLT, Int.reduceLE, Int.reduceEq, Option.isSome_some, implies_true, false_implies, Prod.mk.injEq, ne_eq, not_false_eq_true, not_true_eq_false, ge_iff_le, gt_iff_lt, Int.toNat_natCast, Int.reduceToNat, Int.cast_ofNat_Int, Int.natCast_nonneg, Try.f52]
  refine CallsVia.none (l10Code0_ok n t p ht) ?_
  rintro _ _ _ ⟨rfl, rfl, rfl⟩
  by_cases h : rcd0 n t p = 0
  · obtain ⟨hs, hl, hp⟩ := rcd0_zero h
    obtain ⟨N, rfl⟩ : ∃ N : Nat, n = N := ⟨n.toNat, by have := hs.1; omega⟩
    obtain ⟨P, rfl, hP1, hP2⟩ := hp.nat
    have hN := hs.le
    simp only [absE, absL, absF, reduceCtorEq, ↓reduceIte, Nat.reduceEqDiff, Nat.reduceAdd, Nat.reduceLT, Nat.reduceMul, Nat.reduceSub, Nat.reduceLeDiff, Int.reduceLT, Int.reduceLE, Int.reduceEq, Option.isSome_some, implies_true, false_implies, Prod.mk.injEq, ne_eq, not_false_eq_true, not_true_eq_false, ge_iff_le, gt_iff_lt, Int.toNat_natCast, Int.reduceToNat, Int.cast_ofNat_Int, Int.natCast_nonneg, h]
    refine CallsVia.none (l10Many_ok N P hP1 (by omega) hN) ?_
    rintro _ _ _ ⟨rfl, rfl, rfl⟩
    by_cases hb : 20000 < P ^ N
    · have e : limC N t P = 3 := by unfold limC; rw [if_pos ⟨h, by simpa using hb⟩]
      have g : (20000 : Int) < ((min (P ^ N) 20001 : Nat) : Int) := by omega
      simp only [absE, absL, absF, reduceCtorEq, ↓reduceIte, Nat.reduceEqDiff, Nat.reduceAdd, Nat.reduceLT, Nat.reduceMul, Nat.reduceSub, Nat.reduceLeDiff, Int.reduceLT, Int.reduceLE, Int.reduceEq, Option.isSome_some, implies_true, false_implies, Prod.mk.injEq, ne_eq, not_false_eq_true, not_true_eq_false, ge_iff_le, gt_iff_lt, Int.toNat_natCast, Int.reduceToNat, Int.cast_ofNat_Int, Int.natCast_nonneg, g, Try.results52]
      exact ⟨[], by simp, by simp, by simp [renV, e]⟩
    · have e : limC N t P = 0 := by unfold limC; rw [if_neg (fun hh => hb (by simpa using hh.2)), h]
      have g : ¬ (20000 : Int) < ((min (P ^ N) 20001 : Nat) : Int) := by omega
      simp only [absE, absL, absF, reduceCtorEq, ↓reduceIte, Nat.reduceEqDiff, Nat.reduceAdd, Nat.reduceLT, Nat.reduceMul, Nat.reduceSub, Nat.reduceLeDiff, Int.reduceLT, Int.reduceLE, Int.reduceEq, Option.isSome_some, implies_true, false_implies, Prod.mk.injEq, ne_eq, not_false_eq_true, not_true_eq_false, ge_iff_le, gt_iff_lt, Int.toNat_natCast, Int.reduceToNat, Int.cast_ofNat_Int, Int.natCast_nonneg, g, Try.results52]
      exact ⟨[], by simp, by simp, by simp [renV, e]⟩
  · have e := limC_0 h
    simp only [absE, absL, absF, reduceCtorEq, ↓reduceIte, Nat.reduceEqDiff, Nat.reduceAdd, Nat.reduceLT, Nat.reduceMul, Nat.reduceSub, Nat.reduceLeDiff, Int.reduceLT, Int.reduceLE, Int.reduceEq, Option.isSome_some, implies_true, false_implies, Prod.mk.injEq, ne_eq, not_false_eq_true, not_true_eq_false, ge_iff_le, gt_iff_lt, Int.toNat_natCast, Int.reduceToNat, Int.cast_ofNat_Int, Int.natCast_nonneg, h, Try.results52]
    exact ⟨[], by simp, by simp, by simp [renV, e]⟩

end Go.Proofs.Ytgblnnodoabdeaa
