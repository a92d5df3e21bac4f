/-
Contracts of functions of the given program, by the abstract walk.
-/
import Derived.Test.YtopkdpgbjpjgjaaAbsW
import Derived.Test.YtopkdpgbjpjgjaaDs
import Derived.Test.YtopkdpgbjpjgjaaCt2
import Derived.Test.YtopkdpgbjpjgjaaCe
namespace Go.Proofs.Ytopkdpgbjpjgjaa
open Go Go.Abs
set_option linter.unusedVariables false
set_option linter.unusedSectionVars false
set_option linter.unusedSimpArgs false
set_option maxRecDepth 100000
theorem lawSwitchCycle_ok (n0 : Int) (t0 : List Int) (b1 : Nat) (b2 : Nat) (b3 : Nat) (ht0 : Bytes 100 t0) (hb1 : b1 < 256) (hb2 : b2 < 256) (hb3 : b3 < 256) : ACalls Try.prog 11 [.agg (sqS n0 t0), .i .u8 b1, .i .u8 b2, .i .u8 b3] [] (fun v ms ns => v = .b true ∧ ms = [] ∧ ns = []) := by
  have hspec := specSwitchCycle_ok n0 t0 b1 b2 b3 ht0 hb1 hb2 hb3
  have himpl := implSwitchCycle_ok n0 t0 b1 b2 b3 ht0 hb1 hb2 hb3
  obtain ⟨m, s, e, hs, hkey⟩ := swc_form n0 t0 b1 b2 b3 ht0 hb1 hb2 hb3
  rw [hkey] at hspec himpl
  refine acalls_of_body mix Try.func11 rfl fok11 (Nat.le_of_ble_eq_true rfl) ?_
  unfold abody
  simp only [absE, absL, absF, reduceCtorEq, ↓reduceIte, Nat.reduceEqDiff, Nat.reduceAdd, Nat.reduceLT, Nat.reduceMul, Nat.reduceSub, Nat.reduceLeDiff, Int.reduceLT, Int.reduceLE, Int.reduceEq, Option.isSome_some, implies_true, false_implies, Prod.mk.injEq, ne_eq, not_false_eq_true, not_true_eq_false, ge_iff_le, gt_iff_lt, Int.toNat_natCast, Int.reduceToNat, Int.cast_ofNat_Int, Int.natCast_nonneg, Try.f11]
  repeat refine ⟨by decide +kernel, ?_⟩
  first | (refine CallsX.none (toSquare_ok n0 t0 ht0.len) ?_) | (refine CallsVia.none (toSquare_ok n0 t0 ht0.len) ?_; rintro _ _ _ ⟨rfl, rfl, rfl⟩)
  simp only [absE, absL, absF, reduceCtorEq, ↓reduceIte, Nat.reduceEqDiff, Nat.reduceAdd, Nat.reduceLT, Nat.reduceMul, Nat.reduceSub, Nat.reduceLeDiff, Int.reduceLT, Int.reduceLE, Int.reduceEq, Option.isSome_some, implies_true, false_implies, Prod.mk.injEq, ne_eq, not_false_eq_true, not_true_eq_false, ge_iff_le, gt_iff_lt, Int.toNat_natCast, Int.reduceToNat, Int.cast_ofNat_Int, Int.natCast_nonneg]
  repeat refine ⟨by decide +kernel, ?_⟩
  first | (refine CallsX.none (hspec) ?_) | (refine CallsVia.none (hspec) ?_; rintro _ _ _ ⟨rfl, rfl, rfl⟩)
  simp only [absE, absL, absF, reduceCtorEq, ↓reduceIte, Nat.reduceEqDiff, Nat.reduceAdd, Nat.reduceLT, Nat.reduceMul, Nat.reduceSub, Nat.reduceLeDiff, Int.reduceLT, Int.reduceLE, Int.reduceEq, Option.isSome_some, implies_true, false_implies, Prod.mk.injEq, ne_eq, not_false_eq_true, not_true_eq_false, ge_iff_le, gt_iff_lt, Int.toNat_natCast, Int.reduceToNat, Int.cast_ofNat_Int, Int.natCast_nonneg]
  repeat refine ⟨by decide +kernel, ?_⟩
  first | (refine CallsX.none (toSquare_ok n0 t0 ht0.len) ?_) | (refine CallsVia.none (toSquare_ok n0 t0 ht0.len) ?_; rintro _ _ _ ⟨rfl, rfl, rfl⟩)
  simp only [absE, absL, absF, reduceCtorEq, ↓reduceIte, Nat.reduceEqDiff, Nat.reduceAdd, Nat.reduceLT, Nat.reduceMul, Nat.reduceSub, Nat.reduceLeDiff, Int.reduceLT, Int.reduceLE, Int.reduceEq, Option.isSome_some, implies_true, false_implies, Prod.mk.injEq, ne_eq, not_false_eq_true, not_true_eq_false, ge_iff_le, gt_iff_lt, Int.toNat_natCast, Int.reduceToNat, Int.cast_ofNat_Int, Int.natCast_nonneg]
  repeat refine ⟨by decide +kernel, ?_⟩
  first | (refine CallsX.none (himpl) ?_) | (refine CallsVia.none (himpl) ?_; rintro _ _ _ ⟨rfl, rfl, rfl⟩)
  simp only [absE, absL, absF, reduceCtorEq, ↓reduceIte, Nat.reduceEqDiff, Nat.reduceAdd, Nat.reduceLT, Nat.reduceMul, Nat.reduceSub, Nat.reduceLeDiff, Int.reduceLT, Int.reduceLE, Int.reduceEq, Option.isSome_some, implies_true, false_implies, Prod.mk.injEq, ne_eq, not_false_eq_true, not_true_eq_false, ge_iff_le, gt_iff_lt, Int.toNat_natCast, Int.reduceToNat, Int.cast_ofNat_Int, Int.natCast_nonneg]
  repeat refine ⟨by decide +kernel, ?_⟩
  refine CallsVia.none (eqSquare_ok _ _ _ _ hs hs) ?_
  rintro _ _ _ ⟨rfl, rfl, rfl⟩
  simp only [absE, absL, absF, reduceCtorEq, ↓reduceIte, Nat.reduceEqDiff, Nat.reduceAdd, Nat.reduceLT, Nat.reduceMul, Nat.reduceSub, Nat.reduceLeDiff, Int.reduceLT, Int.reduceLE, Int.reduceEq, Option.isSome_some, implies_true, false_implies, Prod.mk.injEq, ne_eq, not_false_eq_true, not_true_eq_false, ge_iff_le, gt_iff_lt, Int.toNat_natCast, Int.reduceToNat, Int.cast_ofNat_Int, Int.natCast_nonneg, and_self, Try.results11]
  exact fin_b rfl rfl

end Go.Proofs.Ytopkdpgbjpjgjaa
