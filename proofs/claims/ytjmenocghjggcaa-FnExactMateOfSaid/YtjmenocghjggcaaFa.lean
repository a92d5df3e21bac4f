/-
Contracts of functions of the given program, by the abstract walk.
-/
import Derived.Test.YtjmenocghjggcaaAbsY
import Derived.Test.YtjmenocghjggcaaCc
namespace Go.Proofs.Ytjmenocghjggcaa
open Go Go.Abs
set_option linter.unusedVariables false
set_option linter.unusedSectionVars false
set_option linter.unusedSimpArgs false
set_option maxRecDepth 100000
/-! a copy of a list that a law is handed -/
def copyL (xs : List Int) (k i : Nat) : List Int := xs.take i ++ List.replicate (k - i) 0
theorem copyL_next {xs : List Int} {k i : Nat} (hx : xs.length = k) (h : i < k) : (copyL xs k i).set i (xs.getD i 0) = copyL xs k (i + 1) := by
  unfold copyL
  have e1 : (xs.take i).length = i := by simp; omega
  rw [List.set_append_right _ _ (by omega), e1, Nat.sub_self, show k - i = (k - (i + 1)) + 1 by omega, List.replicate_succ, List.set_cons_zero]
  rw [List.take_succ_eq_append_getElem (by omega), List.append_assoc]
  have : xs.getD i 0 = xs[i] := by simp [show i < xs.length by omega]
  rw [this]; rfl
theorem copyL_zero {xs : List Int} {k : Nat} : copyL xs k 0 = List.replicate k 0 := by simp [copyL]
theorem copyL_all {xs : List Int} {k : Nat} (hx : xs.length = k) : copyL xs k k = xs := by simp [copyL, ← hx]
theorem toInts_nil : ACalls Try.prog 12 [.ref .nils] [] (fun v ms ns => v = .ref (.sl 1 0 0 0 0 1) ∧ ms = [] ∧ ns = [.lv true [(0, .ints .i64 0 [])]]) := by
  refine acalls_of_body mix Try.func12 rfl fok12 (Nat.le_of_ble_eq_true rfl) ?_
  unfold abody
  simp only [absE, absL, absF, reduceCtorEq, ↓reduceIte, Nat.reduceEqDiff, Nat.reduceAdd, Nat.reduceLT, Nat.reduceMul, Nat.reduceSub, Nat.reduceLeDiff, Int.reduceLT, Int.reduceLE, Int.reduceEq, Option.isSome_some, implies_true, false_implies, Prod.mk.injEq, ne_eq, not_false_eq_true, not_true_eq_false, ge_iff_le, gt_iff_lt, Int.toNat_natCast, Int.reduceToNat, Int.cast_ofNat_Int, Int.natCast_nonneg, Try.f12]
  repeat refine And.intro (by decide) ?_
  refine awpLoop.intro (fun i : Nat => [(0, .ref .nils), (3, .ref (.sl 4 0 0 0 0 1)), (4, .i .i64 0)]) (fun i => ⟨[], [((4, 0), .lv true ([(0, .ints .i64 0 [])]))], 7⟩) (fun i => i = 0) (fun i => 0) 0 rfl ⟨[((4,0),(4,0))], rfl, ?_, ?_⟩ ?_
  · simp [wkEnv, lk, renV, renAt, renTo, zeroArr]
  · simp [wkMem, wkLoc, Mem.get, assoc, renBlk, renSegs, renSg, renTo, zeroArr]
  · rintro i rfl
    simp only [absE, absL, absF, reduceCtorEq, ↓reduceIte, Nat.reduceEqDiff, Nat.reduceAdd, Nat.reduceLT, Nat.reduceMul, Nat.reduceSub, Nat.reduceLeDiff, Int.reduceLT, Int.reduceLE, Int.reduceEq, Option.isSome_some, implies_true, false_implies, Prod.mk.injEq, ne_eq, not_false_eq_true, not_true_eq_false, ge_iff_le, gt_iff_lt, Int.toNat_natCast, Int.reduceToNat, Int.cast_ofNat_Int, Int.natCast_nonneg, Int.lt_irrefl, Try.results12]
    exact ⟨[(4, 0)], by simp, by simp, by simp [renV, renAt, renFin, idx], by simp, by simp [renBlk, renSegs, renSg, Mem.get, assoc]⟩
theorem toInts_sl0 : ACalls Try.prog 12 [.ref .sl0] [] (fun v ms ns => v = .ref (.sl 1 0 0 0 0 1) ∧ ms = [] ∧ ns = [.lv true [(0, .ints .i64 0 [])]]) := by
  refine acalls_of_body mix Try.func12 rfl fok12 (Nat.le_of_ble_eq_true rfl) ?_
  unfold abody
  simp only [absE, absL, absF, reduceCtorEq, ↓reduceIte, Nat.reduceEqDiff, Nat.reduceAdd, Nat.reduceLT, Nat.reduceMul, Nat.reduceSub, Nat.reduceLeDiff, Int.reduceLT, Int.reduceLE, Int.reduceEq, Option.isSome_some, implies_true, false_implies, Prod.mk.injEq, ne_eq, not_false_eq_true, not_true_eq_false, ge_iff_le, gt_iff_lt, Int.toNat_natCast, Int.reduceToNat, Int.cast_ofNat_Int, Int.natCast_nonneg, Try.f12]
  repeat refine And.intro (by decide) ?_
  refine awpLoop.intro (fun i : Nat => [(0, .ref .sl0), (3, .ref (.sl 4 0 0 0 0 1)), (4, .i .i64 0)]) (fun i => ⟨[], [((4, 0), .lv true ([(0, .ints .i64 0 [])]))], 7⟩) (fun i => i = 0) (fun i => 0) 0 rfl ⟨[((4,0),(4,0))], rfl, ?_, ?_⟩ ?_
  · simp [wkEnv, lk, renV, renAt, renTo, zeroArr]
  · simp [wkMem, wkLoc, Mem.get, assoc, renBlk, renSegs, renSg, renTo, zeroArr]
  · rintro i rfl
    simp only [absE, absL, absF, reduceCtorEq, ↓reduceIte, Nat.reduceEqDiff, Nat.reduceAdd, Nat.reduceLT, Nat.reduceMul, Nat.reduceSub, Nat.reduceLeDiff, Int.reduceLT, Int.reduceLE, Int.reduceEq, Option.isSome_some, implies_true, false_implies, Prod.mk.injEq, ne_eq, not_false_eq_true, not_true_eq_false, ge_iff_le, gt_iff_lt, Int.toNat_natCast, Int.reduceToNat, Int.cast_ofNat_Int, Int.natCast_nonneg, Int.lt_irrefl, Try.results12]
    exact ⟨[(4, 0)], by simp, by simp, by simp [renV, renAt, renFin, idx], by simp, by simp [renBlk, renSegs, renSg, Mem.get, assoc]⟩
theorem toInts_ok (k : Nat) (xs : List Int) (rw : Bool) (hx : xs.length = k) (hk : k ≤ 2 ^ 20) :
    ACalls Try.prog 12 [.ref (.sl 0 0 0 0 k 1)] [.lv rw [(0, .ints .i64 k xs)]] (fun v ms ns => v = .ref (.sl 1 0 0 0 k 1) ∧ ms = [.lv rw [(0, .ints .i64 k xs)]] ∧ ns = [.lv true [(0, .ints .i64 k xs)]]) := by
  have hk8 : (k : Int) * 8 ≤ 140737488355328 := by omega
  refine acalls_of_body mix Try.func12 rfl fok12 (Nat.le_of_ble_eq_true rfl) ?_
  unfold abody
  simp only [absE, absL, absF, reduceCtorEq, ↓reduceIte, Nat.reduceEqDiff, Nat.reduceAdd, Nat.reduceLT, Nat.reduceMul, Nat.reduceSub, Nat.reduceLeDiff, Int.reduceLT, Int.reduceLE, Int.reduceEq, Option.isSome_some, implies_true, false_implies, Prod.mk.injEq, ne_eq, not_false_eq_true, not_true_eq_false, ge_iff_le, gt_iff_lt, Int.toNat_natCast, Int.reduceToNat, Int.cast_ofNat_Int, Int.natCast_nonneg, hk8, Try.f12]
  refine awpLoop.intro (fun i : Nat => [(0, .ref (.sl 0 0 0 0 k 1)), (3, .ref (.sl 4 0 0 0 k 1)), (4, .i .i64 i)]) (fun i => ⟨[.lv rw [(0, .ints .i64 k xs)]], [((4, 0), .lv true ([(0, .ints .i64 k (copyL xs k i))]))], 7⟩)
    (fun i => i ≤ k) (fun i => k - i) 0 (by omega) ⟨[((4,0),(4,0))], rfl, ?_, ?_⟩ ?_
  · simp [wkEnv, lk, renV, renAt, renTo, zeroArr, copyL_zero]
  · simp [wkMem, wkLoc, Mem.get, assoc, renBlk, renSegs, renSg, renTo, zeroArr, copyL_zero]
  · intro i hi
    by_cases h : (i : Int) < k
    · have w := wrap_i64s (show i < 2 ^ 62 by omega)
      have v1 : 0 + i * 1 < k := by omega
      have v2 : 0 + i * 1 + 1 ≤ k := by omega
      have e2 : (copyL xs k i).set (0 + i * 1) (xs.getD (0 + i * 1) 0) = copyL xs k (i + 1) := by rw [Nat.zero_add, Nat.mul_one]; exact copyL_next hx (by omega)
      by_cases hk1 : 1 = k
      · subst hk1
        obtain rfl : i = 0 := by omega
        have e3 : [xs.getD 0 0] = copyL xs 1 (0 + 1) := by
          match xs, hx with
          | [x], _ => simp [copyL]
        have w0 : IntKind.i64.wrap 1 = 1 := by decide
        simp only [absE, absL, absF, reduceCtorEq, ↓reduceIte, Nat.reduceEqDiff, Nat.reduceAdd, Nat.reduceLT, Nat.reduceMul, Nat.reduceSub, Nat.reduceLeDiff, Int.reduceLT, Int.reduceLE, Int.reduceEq, Option.isSome_some, implies_true, false_implies, Prod.mk.injEq, ne_eq, not_false_eq_true, not_true_eq_false, ge_iff_le, gt_iff_lt, Int.toNat_natCast, Int.reduceToNat, Int.cast_ofNat_Int, Int.natCast_nonneg, h]
        repeat refine And.intro (by omega) ?_
        refine LoopNext.intro (0 + 1) (by omega) (by omega) ⟨[((4,0),(4,0))], rfl, ?_, ?_⟩
        · simp [wkEnv, lk, renV, renAt, renTo, w0]
        · rw [← e3]; simp [wkMem, wkLoc, Mem.get, assoc, renBlk, renSegs, renSg, renTo]
      · simp only [absE, absL, absF, reduceCtorEq, ↓reduceIte, Nat.reduceEqDiff, Nat.reduceAdd, Nat.reduceLT, Nat.reduceMul, Nat.reduceSub, Nat.reduceLeDiff, Int.reduceLT, Int.reduceLE, Int.reduceEq, Option.isSome_some, implies_true, false_implies, Prod.mk.injEq, ne_eq, not_false_eq_true, not_true_eq_false, ge_iff_le, gt_iff_lt, Int.toNat_natCast, Int.reduceToNat, Int.cast_ofNat_Int, Int.natCast_nonneg, h, v1, v2, e2, hk1]
        refine LoopNext.intro (i + 1) (by omega) (by omega) ⟨[((4,0),(4,0))], rfl, ?_, ?_⟩
        · simp [wkEnv, lk, renV, renAt, renTo, w]
        · simp [wkMem, wkLoc, Mem.get, assoc, renBlk, renSegs, renSg, renTo, w]
    · have hk2 : i = k := by omega
      subst hk2
      have e := copyL_all hx
      simp only [absE, absL, absF, reduceCtorEq, ↓reduceIte, Nat.reduceEqDiff, Nat.reduceAdd, Nat.reduceLT, Nat.reduceMul, Nat.reduceSub, Nat.reduceLeDiff, Int.reduceLT, Int.reduceLE, Int.reduceEq, Option.isSome_some, implies_true, false_implies, Prod.mk.injEq, ne_eq, not_false_eq_true, not_true_eq_false, ge_iff_le, gt_iff_lt, Int.toNat_natCast, Int.reduceToNat, Int.cast_ofNat_Int, Int.natCast_nonneg, h, Try.results12]
      exact ⟨[(4, 0)], by simp, by simp, by simp [renV, renAt, renFin, idx], by simp [renBlk, renSegs, renSg], by simp [renBlk, renSegs, renSg, Mem.get, assoc, e]⟩

end Go.Proofs.Ytjmenocghjggcaa
