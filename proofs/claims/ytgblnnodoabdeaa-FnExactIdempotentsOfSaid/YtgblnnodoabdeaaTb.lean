/-
Contracts of functions of the given program, by the abstract walk.
-/
import Derived.Test.YtgblnnodoabdeaaAbsY
import Derived.Test.YtgblnnodoabdeaaTa
import Derived.Test.YtgblnnodoabdeaaLd
namespace Go.Proofs.Ytgblnnodoabdeaa
open Go Go.Abs
set_option linter.unusedVariables false
set_option linter.unusedSectionVars false
set_option linter.unusedSimpArgs false
set_option maxRecDepth 100000
/-! sums, one after the other -/
def nkL (P N i : Nat) : Blk := .lv true [(0, .ints .i64 N (digL P N i))]
theorem setOne {L : List Int} {j : Nat} {z : Int} (h : L.length = 1) (hj : j = 0) : L.set j z = [z] := by
  subst hj
  match L, h with
  | [x], _ => rfl
theorem l10Next_ok (P N i : Nat) (hP : 2 ≤ P) (hP2 : P ≤ 100) (hN : N ≤ 10) (hN1 : 1 ≤ N) :
    ACalls Try.prog 56 [.i .i64 P, .ref (.sl 0 0 0 0 N 1)] [nkL P N i] (fun v ms ns => v = .ref (.sl 1 0 0 0 N 1) ∧ ms = [nkL P N i] ∧ ns = [nkL P N (i + 1)]) := by
  have hP0 : 0 < P := by omega
  have hm1 : N * 1 = N := Nat.mul_one _
  unfold nkL
  refine acalls_of_body mix Try.func56 rfl fok56 (Nat.le_of_ble_eq_true rfl) ?_
  unfold abody
  simp only [absE, absL, absF, reduceCtorEq, ↓reduceIte, Nat.reduceEqDiff, Nat.reduceAdd, Nat.reduceLT, Nat.reduceMul, Nat.reduceSub, Nat.reduceLeDiff, Int.reduceLT, Int.reduceLE, Int.reduceEq, Option.isSome_some, implies_true, false_implies, Prod.mk.injEq, ne_eq, not_false_eq_true, not_true_eq_false, ge_iff_le, gt_iff_lt, Int.toNat_natCast, Int.reduceToNat, Int.cast_ofNat_Int, Int.natCast_nonneg, hm1, Try.f56]
  repeat refine And.intro (by omega) ?_
  have z0 : 0 + N = N := Nat.zero_add N
  have w0 : IntKind.i64.wrap ((N : Int) - 1) = (N : Int) - 1 := wrap_i64 (by omega) (by omega)
  simp only [z0, w0, List.replicate_zero, List.nil_append]
  refine awpLoop.intro (fun m : Nat => [(0, .i .i64 P), (5, .ref (.sl 4 0 0 0 N 1)), (6, .i .i64 ((N : Int) - 1 - (m : Int)))]) (fun m => ⟨[.lv true [(0, .ints .i64 N (digL P N i))]], [((4, 0), .lv true ([(0, .ints .i64 N (digZ P N i m))]))], 10⟩)
    (fun m => m ≤ N ∧ i % P ^ m = P ^ m - 1) (fun m => N - m) 0 ⟨by omega, by rw [Nat.pow_zero]; omega⟩ ⟨[((4,0),(4,0))], rfl, ?_, ?_⟩ ?_
  · simp [wkEnv, lk, renV, renAt, renTo]
  · simp [wkMem, wkLoc, Mem.get, assoc, renBlk, renSegs, renSg, digZ_zero]
  · rintro m ⟨hm, hc⟩
    by_cases h : m < N
    · have hd := dg_lt (i := i) (m := m) hP0
      have ej : (N : Int) - 1 - m = ((N - 1 - m : Nat) : Int) := by omega
      have g0 : (0 : Int) ≤ ((N - 1 - m : Nat) : Int) := by omega
      have gN : ((N - 1 - m : Nat) : Int) < N := by omega
      have v1 : 0 + (N - 1 - m) * 1 < N := by omega
      have v2 : 0 + (N - 1 - m) * 1 + 1 ≤ N := by omega
      have e1 : (digZ P N i m).getD (0 + (N - 1 - m) * 1) 0 = ((dg P i m : Nat) : Int) := by
        rw [Nat.zero_add, Nat.mul_one, digZ_get (by omega), show N - 1 - (N - 1 - m) = m by omega]
      have w1 : IntKind.i64.wrap (((dg P i m : Nat) : Int) + 1) = ((dg P i m + 1 : Nat) : Int) := wrap_i64s (by omega)
      have pz : ¬ (P : Int) = 0 := by omega
      have wm : IntKind.i64.wrap (((N - 1 - m : Nat) : Int) - 1) = (N : Int) - 1 - ((m + 1 : Nat) : Int) := by rw [wrap_i64 (by omega) (by omega)]; omega
      by_cases hs : dg P i m + 1 < P
      · have t1 : Int.tmod ((dg P i m + 1 : Nat) : Int) P = ((dg P i m + 1 : Nat) : Int) := by
          rw [show Int.tmod ((dg P i m + 1 : Nat) : Int) P = (((dg P i m + 1) % P : Nat) : Int) from rfl, Nat.mod_eq_of_lt hs]
        have es : (digZ P N i m).set (0 + (N - 1 - m) * 1) ((dg P i m + 1 : Nat) : Int) = digL P N (i + 1) := by
          rw [Nat.zero_add, Nat.mul_one]; exact digZ_stop hP0 h hc hs
        have e2 : (digL P N (i + 1)).getD (0 + (N - 1 - m) * 1) 0 = ((dg P i m + 1 : Nat) : Int) := by
          rw [← es, getD_set_int (by rw [digZ_len]; omega), if_pos rfl]
        have nz : ¬ ((dg P i m + 1 : Nat) : Int) = 0 := by omega
        by_cases hk1 : 1 = N
        · have es1 : [((dg P i m + 1 : Nat) : Int)] = digL P N (i + 1) := by rw [← es]; exact (setOne (L := digZ P N i m) (j := 0 + (N - 1 - m) * 1) (by rw [digZ_len]; omega) (by omega)).symm
          simp only [absE, absL, absF, reduceCtorEq, ↓reduceIte, Nat.reduceEqDiff, Nat.reduceAdd, Nat.reduceLT, Nat.reduceMul, Nat.reduceSub, Nat.reduceLeDiff, Int.reduceLT, Int.reduceLE, Int.reduceEq, Option.isSome_some, implies_true, false_implies, Prod.mk.injEq, ne_eq, not_false_eq_true, not_true_eq_false, ge_iff_le, gt_iff_lt, Int.toNat_natCast, Int.reduceToNat, Int.cast_ofNat_Int, Int.natCast_nonneg, ej, g0, gN, v1, v2, e1, w1, pz, t1, eq_true hk1, es1]
          repeat first | refine And.intro (by decide +kernel) ?_ | refine And.intro (by omega) ?_
          simp only [absE, absL, absF, reduceCtorEq, ↓reduceIte, Nat.reduceEqDiff, Nat.reduceAdd, Nat.reduceLT, Nat.reduceMul, Nat.reduceSub, Nat.reduceLeDiff, Int.reduceLT, Int.reduceLE, Int.reduceEq, Option.isSome_some, implies_true, false_implies, Prod.mk.injEq, ne_eq, not_false_eq_true, not_true_eq_false, ge_iff_le, gt_iff_lt, Int.toNat_natCast, Int.reduceToNat, Int.cast_ofNat_Int, Int.natCast_nonneg, ej, g0, gN, v1, v2, e2, nz, Try.results56]
          exact ⟨[(4, 0)], by simp, by simp, by simp [renV, renAt, renFin, idx], by simp [renBlk, renSegs, renSg], by simp [renBlk, renSegs, renSg, Mem.get, assoc]⟩
        · simp only [absE, absL, absF, reduceCtorEq, ↓reduceIte, Nat.reduceEqDiff, Nat.reduceAdd, Nat.reduceLT, Nat.reduceMul, Nat.reduceSub, Nat.reduceLeDiff, Int.reduceLT, Int.reduceLE, Int.reduceEq, Option.isSome_some, implies_true, false_implies, Prod.mk.injEq, ne_eq, not_false_eq_true, not_true_eq_false, ge_iff_le, gt_iff_lt, Int.toNat_natCast, Int.reduceToNat, Int.cast_ofNat_Int, Int.natCast_nonneg, ej, g0, gN, v1, v2, e1, w1, pz, t1, hk1, es]
          repeat first | refine And.intro (by decide +kernel) ?_ | refine And.intro (by omega) ?_
          simp only [absE, absL, absF, reduceCtorEq, ↓reduceIte, Nat.reduceEqDiff, Nat.reduceAdd, Nat.reduceLT, Nat.reduceMul, Nat.reduceSub, Nat.reduceLeDiff, Int.reduceLT, Int.reduceLE, Int.reduceEq, Option.isSome_some, implies_true, false_implies, Prod.mk.injEq, ne_eq, not_false_eq_true, not_true_eq_false, ge_iff_le, gt_iff_lt, Int.toNat_natCast, Int.reduceToNat, Int.cast_ofNat_Int, Int.natCast_nonneg, ej, g0, gN, v1, v2, e2, nz, Try.results56]
          exact ⟨[(4, 0)], by simp, by simp, by simp [renV, renAt, renFin, idx], by simp [renBlk, renSegs, renSg], by simp [renBlk, renSegs, renSg, Mem.get, assoc]⟩
      · have hs' : dg P i m + 1 = P := by omega
        have t1 : Int.tmod ((dg P i m + 1 : Nat) : Int) P = 0 := by
          rw [show Int.tmod ((dg P i m + 1 : Nat) : Int) P = (((dg P i m + 1) % P : Nat) : Int) from rfl, hs', Nat.mod_self]; rfl
        have es : (digZ P N i m).set (0 + (N - 1 - m) * 1) 0 = digZ P N i (m + 1) := by
          rw [Nat.zero_add, Nat.mul_one]; exact digZ_next h
        have e2 : (digZ P N i (m + 1)).getD (0 + (N - 1 - m) * 1) 0 = 0 := by
          rw [← es, getD_set_int (by rw [digZ_len]; omega), if_pos rfl]
        by_cases hk1 : 1 = N
        · have es1 : [(0 : Int)] = digZ P N i (m + 1) := by rw [← es]; exact (setOne (L := digZ P N i m) (j := 0 + (N - 1 - m) * 1) (by rw [digZ_len]; omega) (by omega)).symm
          simp only [absE, absL, absF, reduceCtorEq, ↓reduceIte, Nat.reduceEqDiff, Nat.reduceAdd, Nat.reduceLT, Nat.reduceMul, Nat.reduceSub, Nat.reduceLeDiff, Int.reduceLT, Int.reduceLE, Int.reduceEq, Option.isSome_some, implies_true, false_implies, Prod.mk.injEq, ne_eq, not_false_eq_true, not_true_eq_false, ge_iff_le, gt_iff_lt, Int.toNat_natCast, Int.reduceToNat, Int.cast_ofNat_Int, Int.natCast_nonneg, ej, g0, gN, v1, v2, e1, w1, pz, t1, eq_true hk1, es1]
          repeat first | refine And.intro (by decide +kernel) ?_ | refine And.intro (by omega) ?_
          simp only [absE, absL, absF, reduceCtorEq, ↓reduceIte, Nat.reduceEqDiff, Nat.reduceAdd, Nat.reduceLT, Nat.reduceMul, Nat.reduceSub, Nat.reduceLeDiff, Int.reduceLT, Int.reduceLE, Int.reduceEq, Option.isSome_some, implies_true, false_implies, Prod.mk.injEq, ne_eq, not_false_eq_true, not_true_eq_false, ge_iff_le, gt_iff_lt, Int.toNat_natCast, Int.reduceToNat, Int.cast_ofNat_Int, Int.natCast_nonneg, ej, g0, gN, v1, v2, e2, wm]
          refine LoopNext.intro (m + 1) ⟨by omega, carry_next hP0 hc hs'⟩ (by omega) ⟨[((4,0),(4,0))], rfl, ?_, ?_⟩
          · simp [wkEnv, lk, renV, renAt, renTo]
          · simp [wkMem, wkLoc, Mem.get, assoc, renBlk, renSegs, renSg]
        · simp only [absE, absL, absF, reduceCtorEq, ↓reduceIte, Nat.reduceEqDiff, Nat.reduceAdd, Nat.reduceLT, Nat.reduceMul, Nat.reduceSub, Nat.reduceLeDiff, Int.reduceLT, Int.reduceLE, Int.reduceEq, Option.isSome_some, implies_true, false_implies, Prod.mk.injEq, ne_eq, not_false_eq_true, not_true_eq_false, ge_iff_le, gt_iff_lt, Int.toNat_natCast, Int.reduceToNat, Int.cast_ofNat_Int, Int.natCast_nonneg, ej, g0, gN, v1, v2, e1, w1, pz, t1, hk1, es]
          repeat first | refine And.intro (by decide +kernel) ?_ | refine And.intro (by omega) ?_
          simp only [absE, absL, absF, reduceCtorEq, ↓reduceIte, Nat.reduceEqDiff, Nat.reduceAdd, Nat.reduceLT, Nat.reduceMul, Nat.reduceSub, Nat.reduceLeDiff, Int.reduceLT, Int.reduceLE, Int.reduceEq, Option.isSome_some, implies_true, false_implies, Prod.mk.injEq, ne_eq, not_false_eq_true, not_true_eq_false, ge_iff_le, gt_iff_lt, Int.toNat_natCast, Int.reduceToNat, Int.cast_ofNat_Int, Int.natCast_nonneg, ej, g0, gN, v1, v2, e2, wm]
          refine LoopNext.intro (m + 1) ⟨by omega, carry_next hP0 hc hs'⟩ (by omega) ⟨[((4,0),(4,0))], rfl, ?_, ?_⟩
          · simp [wkEnv, lk, renV, renAt, renTo]
          · simp [wkMem, wkLoc, Mem.get, assoc, renBlk, renSegs, renSg]
    · have hmN : m = N := by omega
      subst hmN
      have gneg : ¬ (0 : Int) ≤ (m : Int) - 1 - m := by omega
      have ed := digZ_all hP0 hc
      simp only [absE, absL, absF, reduceCtorEq, ↓reduceIte, Nat.reduceEqDiff, Nat.reduceAdd, Nat.reduceLT, Nat.reduceMul, Nat.reduceSub, Nat.reduceLeDiff, Int.reduceLT, Int.reduceLE, Int.reduceEq, Option.isSome_some, implies_true, false_implies, Prod.mk.injEq, ne_eq, not_false_eq_true, not_true_eq_false, ge_iff_le, gt_iff_lt, Int.toNat_natCast, Int.reduceToNat, Int.cast_ofNat_Int, Int.natCast_nonneg, gneg, Try.results56]
      exact ⟨[(4, 0)], by simp, by simp, by simp [renV, renAt, renFin, idx], by simp [renBlk, renSegs, renSg], by simp [renBlk, renSegs, renSg, Mem.get, assoc, ed]⟩

end Go.Proofs.Ytgblnnodoabdeaa
