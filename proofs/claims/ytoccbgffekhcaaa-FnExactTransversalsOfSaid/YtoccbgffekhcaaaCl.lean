/-
Contracts of functions of the given program, by the abstract walk.
-/
import Derived.Test.YtoccbgffekhcaaaAbsY
import Derived.Test.YtoccbgffekhcaaaFc
namespace Go.Proofs.Ytoccbgffekhcaaa
open Go Go.Abs
set_option linter.unusedVariables false
set_option linter.unusedSectionVars false
set_option linter.unusedSimpArgs false
set_option maxRecDepth 100000
def bytesTo (n : Nat) : List Int := (List.range n).map Int.ofNat
theorem bytesTo_succ {n : Nat} : bytesTo (n + 1) = bytesTo n ++ [(n : Int)] := by simp [bytesTo, List.range_succ]
theorem bytesTo_get {n i : Nat} (h : i < n) : (bytesTo n).getD i 0 = (i : Int) := by simp [bytesTo, h]
theorem elements_ok (N : Nat) (t : List Int) (hN : N ≤ 10) : ACalls Try.prog 111 [.agg (sqS N t)] [] (fun v ms ns => v = .ref (.sl 1 0 0 0 N 1) ∧ ms = [] ∧ ns = [.lv true [(0, .ints .u8 N (bytesTo N))]]) := by
  refine acalls_of_body mix Try.func111 rfl fok111 (Nat.le_of_ble_eq_true rfl) ?_
  have w0 : IntKind.u8.wrap (N : Int) = N := wrap_u8 (by omega) (by omega)
  unfold abody
  simp only [absE, absL, absF, reduceCtorEq, ↓reduceIte, Nat.reduceEqDiff, Nat.reduceAdd, Nat.reduceLT, Nat.reduceMul, Nat.reduceSub, Nat.reduceLeDiff, Int.reduceLT, Int.reduceLE, Int.reduceEq, Option.isSome_some, implies_true, false_implies, Prod.mk.injEq, ne_eq, not_false_eq_true, not_true_eq_false, ge_iff_le, gt_iff_lt, Int.toNat_natCast, Int.reduceToNat, Int.cast_ofNat_Int, Int.natCast_nonneg, w0, Try.f111]
  refine awpLoop.intro (fun x : Nat => [(3, .ref (.sl 3 0 0 0 x 1)), (8, .i .u8 N), (9, .i .u8 x)]) (fun x => ⟨[], [((3, 0), .lv true [(0, .ints .u8 x (bytesTo x))])], 4⟩)
    (fun x => x ≤ N) (fun x => N - x) 0 (by omega) ⟨[((3,0),(3,0))], rfl, ?_, ?_⟩ ?_
  · simp [wkEnv, lk, renV, renAt, renTo]
  · simp [wkMem, wkLoc, Mem.get, assoc, renBlk, renSegs, renSg, renTo, bytesTo]
  · intro x hx
    by_cases h : (x : Int) < N
    · have w : IntKind.u8.wrap ((x : Int) + 1) = ((x + 1 : Nat) : Int) := by rw [wrap_u8 (by omega) (by omega)]; omega
      have mx : x * 1 = x := Nat.mul_one x
      simp only [absE, absL, absF, reduceCtorEq, ↓reduceIte, Nat.reduceEqDiff, Nat.reduceAdd, Nat.reduceLT, Nat.reduceMul, Nat.reduceSub, Nat.reduceLeDiff, Int.reduceLT, Int.reduceLE, Int.reduceEq, Option.isSome_some, implies_true, false_implies, Prod.mk.injEq, ne_eq, not_false_eq_true, not_true_eq_false, ge_iff_le, gt_iff_lt, Int.toNat_natCast, Int.reduceToNat, Int.cast_ofNat_Int, Int.natCast_nonneg, h, mx]
      refine ⟨by omega, by omega, LoopNext.intro (x + 1) (by omega) (by omega) ⟨[((10,0),(3,0))], rfl, ?_, ?_⟩⟩
      · simp [wkEnv, lk, renV, renAt, renTo, w]
      · simp [wkMem, wkLoc, Mem.get, assoc, renBlk, renSegs, renSg, renTo, bytesTo_succ]
    · have hx' : x = N := by omega
      subst hx'
      simp only [absE, absL, absF, reduceCtorEq, ↓reduceIte, Nat.reduceEqDiff, Nat.reduceAdd, Nat.reduceLT, Nat.reduceMul, Nat.reduceSub, Nat.reduceLeDiff, Int.reduceLT, Int.reduceLE, Int.reduceEq, Option.isSome_some, implies_true, false_implies, Prod.mk.injEq, ne_eq, not_false_eq_true, not_true_eq_false, ge_iff_le, gt_iff_lt, Int.toNat_natCast, Int.reduceToNat, Int.cast_ofNat_Int, Int.natCast_nonneg, h, Try.results111]
      exact ⟨[(3, 0)], by simp, by simp, by simp [renV, renAt, renFin, idx], by simp, by simp [renBlk, renSegs, renSg, Mem.get, assoc]⟩

end Go.Proofs.Ytoccbgffekhcaaa
