/-
Contracts of functions of the given program, by the abstract walk.
-/
import Derived.Test.YtgcfkdgdlllgjaaAbsW
import Derived.Test.YtgcfkdgdlllgjaaDt
namespace Go.Proofs.Ytgcfkdgdlllgjaa
open Go Go.Abs
set_option linter.unusedVariables false
set_option linter.unusedSectionVars false
set_option linter.unusedSimpArgs false
set_option maxRecDepth 100000
theorem all_ok (N : Nat) (t : List Int) (hN : N ≤ 10) : ACalls Try.prog 79 [.agg (sqS N t)] [] (fun v ms ns => v = .i .i64 ((2 ^ N - 1 : Nat) : Int) ∧ ms = [] ∧ ns = []) := by
  refine acalls_of_body mix Try.func79 rfl fok79 (Nat.le_of_ble_eq_true rfl) ?_
  have p10 : (2 : Nat) ^ N ≤ 2 ^ 10 := Nat.pow_le_pow_right (by decide) (by omega)
  have p1 : 0 < (2 : Nat) ^ N := Nat.two_pow_pos N
  have s1 := wrap_shl (c := N) (by omega)
  have w5 : IntKind.i64.wrap (((2 ^ N : Nat) : Int) - 1) = ((2 ^ N - 1 : Nat) : Int) := by rw [wrap_i64 (by omega) (by omega)]; omega
  unfold abody
  simp only [absE, absL, absF, reduceCtorEq, ↓reduceIte, Nat.reduceEqDiff, Nat.reduceAdd, Nat.reduceLT, Nat.reduceMul, Nat.reduceSub, Nat.reduceLeDiff, Int.reduceLT, Int.reduceLE, Int.reduceEq, Option.isSome_some, implies_true, false_implies, Prod.mk.injEq, ne_eq, not_false_eq_true, not_true_eq_false, ge_iff_le, gt_iff_lt, Int.toNat_natCast, Int.reduceToNat, Int.cast_ofNat_Int, Int.natCast_nonneg, s1, w5, Try.f79, Try.results79]
  exact ⟨[], by simp, by simp, by simp [renV]⟩

end Go.Proofs.Ytgcfkdgdlllgjaa
