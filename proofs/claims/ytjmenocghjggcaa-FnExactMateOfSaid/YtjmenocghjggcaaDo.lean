/-
Contracts of functions of the given program, by the abstract walk.
-/
import Derived.Test.YtjmenocghjggcaaAbsY
import Derived.Test.YtjmenocghjggcaaDa
namespace Go.Proofs.Ytjmenocghjggcaa
open Go Go.Abs
set_option linter.unusedVariables false
set_option linter.unusedSectionVars false
set_option linter.unusedSimpArgs false
set_option maxRecDepth 100000
theorem setHas_ok (s x : Nat) (hs : s < 2 ^ 62) (hx : x < 64) : ACalls Try.prog 76 [.i .i64 s, .i .u8 x] [] (fun v ms ns => v = .b (s.testBit x) ∧ ms = [] ∧ ns = []) := by
  refine acalls_of_body mix Try.func76 rfl fok76 (Nat.le_of_ble_eq_true rfl) ?_
  unfold abody
  simp only [absE, absL, absF, reduceCtorEq, ↓reduceIte, Nat.reduceEqDiff, Nat.reduceAdd, Nat.reduceLT, Nat.reduceMul, Nat.reduceSub, Nat.reduceLeDiff, Int.reduceLT, Int.reduceLE, Int.reduceEq, Option.isSome_some, implies_true, false_implies, Prod.mk.injEq, ne_eq, not_false_eq_true, not_true_eq_false, ge_iff_le, gt_iff_lt, Int.toNat_natCast, Int.reduceToNat, Int.cast_ofNat_Int, Int.natCast_nonneg, shr_bit hs hx, Try.f76, Try.results76]
  exact ⟨[], by simp, by simp, by simp [renV, renVs, renSegs, renSg]⟩
def pairsP (N : Nat) (g : Nat → Nat → Bool) : Prop := ∀ x, x < N → ∀ y, y < N → g x y = true
open Classical in
noncomputable def pairsB (N : Nat) (g : Nat → Nat → Bool) : Bool := decide (pairsP N g)
theorem pairsB_true {N : Nat} {g : Nat → Nat → Bool} (h : pairsP N g) : pairsB N g = true := by unfold pairsB; exact @decide_eq_true _ (_) h
theorem pairsB_false {N : Nat} {g : Nat → Nat → Bool} (h : ¬pairsP N g) : pairsB N g = false := by unfold pairsB; exact @decide_eq_false _ (_) h
theorem pairsB_iff {N : Nat} {g : Nat → Nat → Bool} : pairsB N g = true ↔ pairsP N g := by unfold pairsB; exact @decide_eq_true_iff _ (_)
end Go.Proofs.Ytjmenocghjggcaa
