/-
Contracts of functions of the given program, by the abstract walk.
-/
import Derived.Test.YtnophcdinideaaaAbsW
import Derived.Test.YtnophcdinideaaaHh
import Derived.Test.YtnophcdinideaaaGz
import Derived.Test.YtnophcdinideaaaCt2
import Derived.Test.YtnophcdinideaaaCe
import Derived.Test.YtnophcdinideaaaDq
import Derived.Test.YtnophcdinideaaaFa
namespace Go.Proofs.Ytnophcdinideaaa
open Go Go.Abs
set_option linter.unusedVariables false
set_option linter.unusedSectionVars false
set_option linter.unusedSimpArgs false
set_option maxRecDepth 100000
theorem lawImageOf_ok (n0 : Int) (t0 : List Int) (n1 : Int) (t1 : List Int) (A : Atom) (ms : List Blk) (xs : List Int) (ht0 : Bytes 100 t0) (ht1 : Bytes 100 t1) (hA : SlVal .i64 A ms xs) (hm : xs.length ≤ maxLen) :
    ACalls Try.prog 13 [.agg (sqS n0 t0), .agg (sqS n1 t1), .ref A] ms (fun v ms' ns => v = .b true ∧ ms' = ms ∧ ns = []) := by
  rcases hA with ⟨rfl, rfl, rfl⟩ | ⟨rfl, rfl, rfl⟩ | ⟨rfl, h0, rfl⟩
  · cases h : decide (hcd n0 t0 n1 t1 [] 0 = 0)
    · have hx0 : ¬ ((1 + 0 : Nat) : Int) < 0 := by omega
      have hx1 : (0 : Int) ≤ ((1 + 0 : Nat) : Int) := by omega
      refine acalls_of_body mix Try.func13 rfl fok13 (Nat.le_of_ble_eq_true rfl) ?_
      unfold abody
      simp only [absE, absL, absF, reduceCtorEq, ↓reduceIte, Nat.reduceEqDiff, Nat.reduceAdd, Nat.reduceLT, Nat.reduceMul, Nat.reduceSub, Nat.reduceLeDiff, Int.reduceLT, Int.reduceLE, Int.reduceEq, Option.isSome_some, implies_true, false_implies, Prod.mk.injEq, ne_eq, not_false_eq_true, not_true_eq_false, ge_iff_le, gt_iff_lt, Int.toNat_natCast, Int.reduceToNat, Int.cast_ofNat_Int, Int.natCast_nonneg, hx0, hx1, Try.f13]
      first | (refine CallsX.none (toSquare_ok n0 t0 ht0.len) ?_) | (refine CallsVia.none (toSquare_ok n0 t0 ht0.len) ?_; rintro _ _ _ ⟨rfl, rfl, rfl⟩)
      simp only [absE, absL, absF, reduceCtorEq, ↓reduceIte, Nat.reduceEqDiff, Nat.reduceAdd, Nat.reduceLT, Nat.reduceMul, Nat.reduceSub, Nat.reduceLeDiff, Int.reduceLT, Int.reduceLE, Int.reduceEq, Option.isSome_some, implies_true, false_implies, Prod.mk.injEq, ne_eq, not_false_eq_true, not_true_eq_false, ge_iff_le, gt_iff_lt, Int.toNat_natCast, Int.reduceToNat, Int.cast_ofNat_Int, Int.natCast_nonneg, hx0, hx1]
      try refine And.intro (by decide +kernel) ?_
      first | (refine CallsX.none (toSquare_ok n1 t1 ht1.len) ?_) | (refine CallsVia.none (toSquare_ok n1 t1 ht1.len) ?_; rintro _ _ _ ⟨rfl, rfl, rfl⟩)
      simp only [absE, absL, absF, reduceCtorEq, ↓reduceIte, Nat.reduceEqDiff, Nat.reduceAdd, Nat.reduceLT, Nat.reduceMul, Nat.reduceSub, Nat.reduceLeDiff, Int.reduceLT, Int.reduceLE, Int.reduceEq, Option.isSome_some, implies_true, false_implies, Prod.mk.injEq, ne_eq, not_false_eq_true, not_true_eq_false, ge_iff_le, gt_iff_lt, Int.toNat_natCast, Int.reduceToNat, Int.cast_ofNat_Int, Int.natCast_nonneg, hx0, hx1]
      try refine And.intro (by decide +kernel) ?_
      first | (refine CallsX.none (toInts_nil) ?_) | (refine CallsVia.none (toInts_nil) ?_; rintro _ _ _ ⟨rfl, rfl, rfl⟩)
      simp only [absE, absL, absF, reduceCtorEq, ↓reduceIte, Nat.reduceEqDiff, Nat.reduceAdd, Nat.reduceLT, Nat.reduceMul, Nat.reduceSub, Nat.reduceLeDiff, Int.reduceLT, Int.reduceLE, Int.reduceEq, Option.isSome_some, implies_true, false_implies, Prod.mk.injEq, ne_eq, not_false_eq_true, not_true_eq_false, ge_iff_le, gt_iff_lt, Int.toNat_natCast, Int.reduceToNat, Int.cast_ofNat_Int, Int.natCast_nonneg, hx0, hx1]
      try refine And.intro (by decide +kernel) ?_
      first | (refine CallsX.args [(12, 0)] (specIm_no n0 t0 n1 t1 [] 0 ht0 ht1 rfl (by omega) h) (by simp) (by simp [Mem.get, assoc]) rfl rfl ?_) | (refine CallsVia.args [(12, 0)] (specIm_no n0 t0 n1 t1 [] 0 ht0 ht1 rfl (by omega) h) (by simp) (by simp [Mem.get, assoc]) rfl rfl ?_; rintro _ _ _ ⟨rfl, rfl, rfl⟩)
      simp only [absE, absL, absF, reduceCtorEq, ↓reduceIte, Nat.reduceEqDiff, Nat.reduceAdd, Nat.reduceLT, Nat.reduceMul, Nat.reduceSub, Nat.reduceLeDiff, Int.reduceLT, Int.reduceLE, Int.reduceEq, Option.isSome_some, implies_true, false_implies, Prod.mk.injEq, ne_eq, not_false_eq_true, not_true_eq_false, ge_iff_le, gt_iff_lt, Int.toNat_natCast, Int.reduceToNat, Int.cast_ofNat_Int, Int.natCast_nonneg, hx0, hx1]
      try refine And.intro (by decide +kernel) ?_
      first | (refine CallsX.none (toInts_nil) ?_) | (refine CallsVia.none (toInts_nil) ?_; rintro _ _ _ ⟨rfl, rfl, rfl⟩)
      simp only [absE, absL, absF, reduceCtorEq, ↓reduceIte, Nat.reduceEqDiff, Nat.reduceAdd, Nat.reduceLT, Nat.reduceMul, Nat.reduceSub, Nat.reduceLeDiff, Int.reduceLT, Int.reduceLE, Int.reduceEq, Option.isSome_some, implies_true, false_implies, Prod.mk.injEq, ne_eq, not_false_eq_true, not_true_eq_false, ge_iff_le, gt_iff_lt, Int.toNat_natCast, Int.reduceToNat, Int.cast_ofNat_Int, Int.natCast_nonneg, hx0, hx1]
      try refine And.intro (by decide +kernel) ?_
      first | (refine CallsX.none (toSquare_ok n0 t0 ht0.len) ?_) | (refine CallsVia.none (toSquare_ok n0 t0 ht0.len) ?_; rintro _ _ _ ⟨rfl, rfl, rfl⟩)
      simp only [absE, absL, absF, reduceCtorEq, ↓reduceIte, Nat.reduceEqDiff, Nat.reduceAdd, Nat.reduceLT, Nat.reduceMul, Nat.reduceSub, Nat.reduceLeDiff, Int.reduceLT, Int.reduceLE, Int.reduceEq, Option.isSome_some, implies_true, false_implies, Prod.mk.injEq, ne_eq, not_false_eq_true, not_true_eq_false, ge_iff_le, gt_iff_lt, Int.toNat_natCast, Int.reduceToNat, Int.cast_ofNat_Int, Int.natCast_nonneg, hx0, hx1]
      try refine And.intro (by decide +kernel) ?_
      first | (refine CallsX.none (toSquare_ok n1 t1 ht1.len) ?_) | (refine CallsVia.none (toSquare_ok n1 t1 ht1.len) ?_; rintro _ _ _ ⟨rfl, rfl, rfl⟩)
      simp only [absE, absL, absF, reduceCtorEq, ↓reduceIte, Nat.reduceEqDiff, Nat.reduceAdd, Nat.reduceLT, Nat.reduceMul, Nat.reduceSub, Nat.reduceLeDiff, Int.reduceLT, Int.reduceLE, Int.reduceEq, Option.isSome_some, implies_true, false_implies, Prod.mk.injEq, ne_eq, not_false_eq_true, not_true_eq_false, ge_iff_le, gt_iff_lt, Int.toNat_natCast, Int.reduceToNat, Int.cast_ofNat_Int, Int.natCast_nonneg, hx0, hx1]
      try refine And.intro (by decide +kernel) ?_
      first | (refine CallsX.args [(20, 0)] (implIm_no n0 t0 n1 t1 [] 0 ht0 ht1 rfl (by omega) h) (by simp) (by simp [Mem.get, assoc]) rfl rfl ?_) | (refine CallsVia.args [(20, 0)] (implIm_no n0 t0 n1 t1 [] 0 ht0 ht1 rfl (by omega) h) (by simp) (by simp [Mem.get, assoc]) rfl rfl ?_; rintro _ _ _ ⟨rfl, rfl, rfl⟩)
      simp only [absE, absL, absF, reduceCtorEq, ↓reduceIte, Nat.reduceEqDiff, Nat.reduceAdd, Nat.reduceLT, Nat.reduceMul, Nat.reduceSub, Nat.reduceLeDiff, Int.reduceLT, Int.reduceLE, Int.reduceEq, Option.isSome_some, implies_true, false_implies, Prod.mk.injEq, ne_eq, not_false_eq_true, not_true_eq_false, ge_iff_le, gt_iff_lt, Int.toNat_natCast, Int.reduceToNat, Int.cast_ofNat_Int, Int.natCast_nonneg, hx0, hx1]
      try refine And.intro (by decide +kernel) ?_
      refine CallsVia.none (eqInts_nil) ?_
      rintro _ _ _ ⟨rfl, rfl, rfl⟩
      simp only [absE, absL, absF, reduceCtorEq, ↓reduceIte, Nat.reduceEqDiff, Nat.reduceAdd, Nat.reduceLT, Nat.reduceMul, Nat.reduceSub, Nat.reduceLeDiff, Int.reduceLT, Int.reduceLE, Int.reduceEq, Option.isSome_some, implies_true, false_implies, Prod.mk.injEq, ne_eq, not_false_eq_true, not_true_eq_false, ge_iff_le, gt_iff_lt, Int.toNat_natCast, Int.reduceToNat, Int.cast_ofNat_Int, Int.natCast_nonneg, hx0, hx1, eq_self]
      try refine And.intro (by decide +kernel) ?_
      first | (refine CallsX.none (toInts_nil) ?_) | (refine CallsVia.none (toInts_nil) ?_; rintro _ _ _ ⟨rfl, rfl, rfl⟩)
      simp only [absE, absL, absF, reduceCtorEq, ↓reduceIte, Nat.reduceEqDiff, Nat.reduceAdd, Nat.reduceLT, Nat.reduceMul, Nat.reduceSub, Nat.reduceLeDiff, Int.reduceLT, Int.reduceLE, Int.reduceEq, Option.isSome_some, implies_true, false_implies, Prod.mk.injEq, ne_eq, not_false_eq_true, not_true_eq_false, ge_iff_le, gt_iff_lt, Int.toNat_natCast, Int.reduceToNat, Int.cast_ofNat_Int, Int.natCast_nonneg, hx0, hx1]
      try refine And.intro (by decide +kernel) ?_
      first | (refine CallsX.args [(20, 0), (44, 0)] (eqInts_ok 0 [] rfl (by omega)) (by simp) (by simp [Mem.get, assoc]) rfl rfl ?_) | (refine CallsVia.args [(20, 0), (44, 0)] (eqInts_ok 0 [] rfl (by omega)) (by simp) (by simp [Mem.get, assoc]) rfl rfl ?_; rintro _ _ _ ⟨rfl, rfl, rfl⟩)
      simp only [absE, absL, absF, reduceCtorEq, ↓reduceIte, Nat.reduceEqDiff, Nat.reduceAdd, Nat.reduceLT, Nat.reduceMul, Nat.reduceSub, Nat.reduceLeDiff, Int.reduceLT, Int.reduceLE, Int.reduceEq, Option.isSome_some, implies_true, false_implies, Prod.mk.injEq, ne_eq, not_false_eq_true, not_true_eq_false, ge_iff_le, gt_iff_lt, Int.toNat_natCast, Int.reduceToNat, Int.cast_ofNat_Int, Int.natCast_nonneg, hx0, hx1]
      try refine And.intro (by decide +kernel) ?_
      first | (refine CallsX.args [(20, 0)] (markInts_ok 0 1 [] rfl (by omega) (by omega)) (by simp) (by simp [Mem.get, assoc]) rfl rfl ?_) | (refine CallsVia.args [(20, 0)] (markInts_ok 0 1 [] rfl (by omega) (by omega)) (by simp) (by simp [Mem.get, assoc]) rfl rfl ?_; rintro _ _ _ ⟨rfl, rfl, rfl⟩)
      simp only [absE, absL, absF, reduceCtorEq, ↓reduceIte, Nat.reduceEqDiff, Nat.reduceAdd, Nat.reduceLT, Nat.reduceMul, Nat.reduceSub, Nat.reduceLeDiff, Int.reduceLT, Int.reduceLE, Int.reduceEq, Option.isSome_some, implies_true, false_implies, Prod.mk.injEq, ne_eq, not_false_eq_true, not_true_eq_false, ge_iff_le, gt_iff_lt, Int.toNat_natCast, Int.reduceToNat, Int.cast_ofNat_Int, Int.natCast_nonneg, hx0, hx1]
      try refine And.intro (by decide +kernel) ?_
      refine CallsVia.none (eqInts_nil) ?_
      rintro _ _ _ ⟨rfl, rfl, rfl⟩
      simp only [absE, absL, absF, reduceCtorEq, ↓reduceIte, Nat.reduceEqDiff, Nat.reduceAdd, Nat.reduceLT, Nat.reduceMul, Nat.reduceSub, Nat.reduceLeDiff, Int.reduceLT, Int.reduceLE, Int.reduceEq, Option.isSome_some, implies_true, false_implies, Prod.mk.injEq, ne_eq, not_false_eq_true, not_true_eq_false, ge_iff_le, gt_iff_lt, Int.toNat_natCast, Int.reduceToNat, Int.cast_ofNat_Int, Int.natCast_nonneg, hx0, hx1, eq_self]
      try refine And.intro (by decide +kernel) ?_
      refine CallsVia.none (markInts_nil 1) ?_
      rintro _ _ _ ⟨rfl, rfl, rfl⟩
      simp only [absE, absL, absF, reduceCtorEq, ↓reduceIte, Nat.reduceEqDiff, Nat.reduceAdd, Nat.reduceLT, Nat.reduceMul, Nat.reduceSub, Nat.reduceLeDiff, Int.reduceLT, Int.reduceLE, Int.reduceEq, Option.isSome_some, implies_true, false_implies, Prod.mk.injEq, ne_eq, not_false_eq_true, not_true_eq_false, ge_iff_le, gt_iff_lt, Int.toNat_natCast, Int.reduceToNat, Int.cast_ofNat_Int, Int.natCast_nonneg, hx0, hx1]
      try refine And.intro (by decide +kernel) ?_
      refine CallsVia.none (heldInts_nil 1) ?_
      rintro _ _ _ ⟨rfl, rfl, rfl⟩
      simp only [absE, absL, absF, reduceCtorEq, ↓reduceIte, Nat.reduceEqDiff, Nat.reduceAdd, Nat.reduceLT, Nat.reduceMul, Nat.reduceSub, Nat.reduceLeDiff, Int.reduceLT, Int.reduceLE, Int.reduceEq, Option.isSome_some, implies_true, false_implies, Prod.mk.injEq, ne_eq, not_false_eq_true, not_true_eq_false, ge_iff_le, gt_iff_lt, Int.toNat_natCast, Int.reduceToNat, Int.cast_ofNat_Int, Int.natCast_nonneg, hx0, hx1, eq_self]
      try refine And.intro (by decide +kernel) ?_
      first | (refine CallsX.none (toSquare_ok n0 t0 ht0.len) ?_) | (refine CallsVia.none (toSquare_ok n0 t0 ht0.len) ?_; rintro _ _ _ ⟨rfl, rfl, rfl⟩)
      simp only [absE, absL, absF, reduceCtorEq, ↓reduceIte, Nat.reduceEqDiff, Nat.reduceAdd, Nat.reduceLT, Nat.reduceMul, Nat.reduceSub, Nat.reduceLeDiff, Int.reduceLT, Int.reduceLE, Int.reduceEq, Option.isSome_some, implies_true, false_implies, Prod.mk.injEq, ne_eq, not_false_eq_true, not_true_eq_false, ge_iff_le, gt_iff_lt, Int.toNat_natCast, Int.reduceToNat, Int.cast_ofNat_Int, Int.natCast_nonneg, hx0, hx1]
      try refine And.intro (by decide +kernel) ?_
      first | (refine CallsX.none (toSquare_ok n1 t1 ht1.len) ?_) | (refine CallsVia.none (toSquare_ok n1 t1 ht1.len) ?_; rintro _ _ _ ⟨rfl, rfl, rfl⟩)
      simp only [absE, absL, absF, reduceCtorEq, ↓reduceIte, Nat.reduceEqDiff, Nat.reduceAdd, Nat.reduceLT, Nat.reduceMul, Nat.reduceSub, Nat.reduceLeDiff, Int.reduceLT, Int.reduceLE, Int.reduceEq, Option.isSome_some, implies_true, false_implies, Prod.mk.injEq, ne_eq, not_false_eq_true, not_true_eq_false, ge_iff_le, gt_iff_lt, Int.toNat_natCast, Int.reduceToNat, Int.cast_ofNat_Int, Int.natCast_nonneg, hx0, hx1]
      try refine And.intro (by decide +kernel) ?_
      first | (refine CallsX.none (toInts_nil) ?_) | (refine CallsVia.none (toInts_nil) ?_; rintro _ _ _ ⟨rfl, rfl, rfl⟩)
      simp only [absE, absL, absF, reduceCtorEq, ↓reduceIte, Nat.reduceEqDiff, Nat.reduceAdd, Nat.reduceLT, Nat.reduceMul, Nat.reduceSub, Nat.reduceLeDiff, Int.reduceLT, Int.reduceLE, Int.reduceEq, Option.isSome_some, implies_true, false_implies, Prod.mk.injEq, ne_eq, not_false_eq_true, not_true_eq_false, ge_iff_le, gt_iff_lt, Int.toNat_natCast, Int.reduceToNat, Int.cast_ofNat_Int, Int.natCast_nonneg, hx0, hx1]
      try refine And.intro (by decide +kernel) ?_
      first | (refine CallsX.args [(85, 0)] (implIm_no n0 t0 n1 t1 [] 0 ht0 ht1 rfl (by omega) h) (by simp) (by simp [Mem.get, assoc]) rfl rfl ?_) | (refine CallsVia.args [(85, 0)] (implIm_no n0 t0 n1 t1 [] 0 ht0 ht1 rfl (by omega) h) (by simp) (by simp [Mem.get, assoc]) rfl rfl ?_; rintro _ _ _ ⟨rfl, rfl, rfl⟩)
      simp only [absE, absL, absF, reduceCtorEq, ↓reduceIte, Nat.reduceEqDiff, Nat.reduceAdd, Nat.reduceLT, Nat.reduceMul, Nat.reduceSub, Nat.reduceLeDiff, Int.reduceLT, Int.reduceLE, Int.reduceEq, Option.isSome_some, implies_true, false_implies, Prod.mk.injEq, ne_eq, not_false_eq_true, not_true_eq_false, ge_iff_le, gt_iff_lt, Int.toNat_natCast, Int.reduceToNat, Int.cast_ofNat_Int, Int.natCast_nonneg, hx0, hx1]
      try refine And.intro (by decide +kernel) ?_
      refine CallsVia.none (eqInts_nil) ?_
      rintro _ _ _ ⟨rfl, rfl, rfl⟩
      simp only [absE, absL, absF, reduceCtorEq, ↓reduceIte, Nat.reduceEqDiff, Nat.reduceAdd, Nat.reduceLT, Nat.reduceMul, Nat.reduceSub, Nat.reduceLeDiff, Int.reduceLT, Int.reduceLE, Int.reduceEq, Option.isSome_some, implies_true, false_implies, Prod.mk.injEq, ne_eq, not_false_eq_true, not_true_eq_false, ge_iff_le, gt_iff_lt, Int.toNat_natCast, Int.reduceToNat, Int.cast_ofNat_Int, Int.natCast_nonneg, hx0, hx1, eq_self]
      try refine And.intro (by decide +kernel) ?_
      refine CallsVia.none (heldInts_nil 1) ?_
      rintro _ _ _ ⟨rfl, rfl, rfl⟩
      simp only [absE, absL, absF, reduceCtorEq, ↓reduceIte, Nat.reduceEqDiff, Nat.reduceAdd, Nat.reduceLT, Nat.reduceMul, Nat.reduceSub, Nat.reduceLeDiff, Int.reduceLT, Int.reduceLE, Int.reduceEq, Option.isSome_some, implies_true, false_implies, Prod.mk.injEq, ne_eq, not_false_eq_true, not_true_eq_false, ge_iff_le, gt_iff_lt, Int.toNat_natCast, Int.reduceToNat, Int.cast_ofNat_Int, Int.natCast_nonneg, hx0, hx1, eq_self]
      try refine And.intro (by decide +kernel) ?_
      try simp only [absE, absL, absF, reduceCtorEq, ↓reduceIte, Nat.reduceEqDiff, Nat.reduceAdd, Nat.reduceLT, Nat.reduceMul, Nat.reduceSub, Nat.reduceLeDiff, Int.reduceLT, Int.reduceLE, Int.reduceEq, Option.isSome_some, implies_true, false_implies, Prod.mk.injEq, ne_eq, not_false_eq_true, not_true_eq_false, ge_iff_le, gt_iff_lt, Int.toNat_natCast, Int.reduceToNat, Int.cast_ofNat_Int, Int.natCast_nonneg, hx0, hx1, eq_self, Try.results13]
      exact fin_b rfl rfl
    · have hx0 : ¬ ((1 + 0 : Nat) : Int) < 0 := by omega
      have hx1 : (0 : Int) ≤ ((1 + 0 : Nat) : Int) := by omega
      have hlen : (imL n1 [] 0).length < 2 ^ 40 := (imL_len h)
      have hne : ¬((1 + (imL n1 [] 0).length : Nat) : Int) < 0 := by omega
      have hle : (0 : Int) ≤ ((1 + (imL n1 [] 0).length : Nat) : Int) := by omega
      refine acalls_of_body mix Try.func13 rfl fok13 (Nat.le_of_ble_eq_true rfl) ?_
      unfold abody
      simp only [absE, absL, absF, reduceCtorEq, ↓reduceIte, Nat.reduceEqDiff, Nat.reduceAdd, Nat.reduceLT, Nat.reduceMul, Nat.reduceSub, Nat.reduceLeDiff, Int.reduceLT, Int.reduceLE, Int.reduceEq, Option.isSome_some, implies_true, false_implies, Prod.mk.injEq, ne_eq, not_false_eq_true, not_true_eq_false, ge_iff_le, gt_iff_lt, Int.toNat_natCast, Int.reduceToNat, Int.cast_ofNat_Int, Int.natCast_nonneg, hx0, hx1, hne, hle, Try.f13]
      first | (refine CallsX.none (toSquare_ok n0 t0 ht0.len) ?_) | (refine CallsVia.none (toSquare_ok n0 t0 ht0.len) ?_; rintro _ _ _ ⟨rfl, rfl, rfl⟩)
      simp only [absE, absL, absF, reduceCtorEq, ↓reduceIte, Nat.reduceEqDiff, Nat.reduceAdd, Nat.reduceLT, Nat.reduceMul, Nat.reduceSub, Nat.reduceLeDiff, Int.reduceLT, Int.reduceLE, Int.reduceEq, Option.isSome_some, implies_true, false_implies, Prod.mk.injEq, ne_eq, not_false_eq_true, not_true_eq_false, ge_iff_le, gt_iff_lt, Int.toNat_natCast, Int.reduceToNat, Int.cast_ofNat_Int, Int.natCast_nonneg, hx0, hx1, hne, hle]
      try refine And.intro (by decide +kernel) ?_
      first | (refine CallsX.none (toSquare_ok n1 t1 ht1.len) ?_) | (refine CallsVia.none (toSquare_ok n1 t1 ht1.len) ?_; rintro _ _ _ ⟨rfl, rfl, rfl⟩)
      simp only [absE, absL, absF, reduceCtorEq, ↓reduceIte, Nat.reduceEqDiff, Nat.reduceAdd, Nat.reduceLT, Nat.reduceMul, Nat.reduceSub, Nat.reduceLeDiff, Int.reduceLT, Int.reduceLE, Int.reduceEq, Option.isSome_some, implies_true, false_implies, Prod.mk.injEq, ne_eq, not_false_eq_true, not_true_eq_false, ge_iff_le, gt_iff_lt, Int.toNat_natCast, Int.reduceToNat, Int.cast_ofNat_Int, Int.natCast_nonneg, hx0, hx1, hne, hle]
      try refine And.intro (by decide +kernel) ?_
      first | (refine CallsX.none (toInts_nil) ?_) | (refine CallsVia.none (toInts_nil) ?_; rintro _ _ _ ⟨rfl, rfl, rfl⟩)
      simp only [absE, absL, absF, reduceCtorEq, ↓reduceIte, Nat.reduceEqDiff, Nat.reduceAdd, Nat.reduceLT, Nat.reduceMul, Nat.reduceSub, Nat.reduceLeDiff, Int.reduceLT, Int.reduceLE, Int.reduceEq, Option.isSome_some, implies_true, false_implies, Prod.mk.injEq, ne_eq, not_false_eq_true, not_true_eq_false, ge_iff_le, gt_iff_lt, Int.toNat_natCast, Int.reduceToNat, Int.cast_ofNat_Int, Int.natCast_nonneg, hx0, hx1, hne, hle]
      try refine And.intro (by decide +kernel) ?_
      first | (refine CallsX.args [(12, 0)] (specIm_yes n0 t0 n1 t1 [] 0 ht0 ht1 rfl (by omega) h) (by simp) (by simp [Mem.get, assoc]) rfl rfl ?_) | (refine CallsVia.args [(12, 0)] (specIm_yes n0 t0 n1 t1 [] 0 ht0 ht1 rfl (by omega) h) (by simp) (by simp [Mem.get, assoc]) rfl rfl ?_; rintro _ _ _ ⟨rfl, rfl, rfl⟩)
      simp only [absE, absL, absF, reduceCtorEq, ↓reduceIte, Nat.reduceEqDiff, Nat.reduceAdd, Nat.reduceLT, Nat.reduceMul, Nat.reduceSub, Nat.reduceLeDiff, Int.reduceLT, Int.reduceLE, Int.reduceEq, Option.isSome_some, implies_true, false_implies, Prod.mk.injEq, ne_eq, not_false_eq_true, not_true_eq_false, ge_iff_le, gt_iff_lt, Int.toNat_natCast, Int.reduceToNat, Int.cast_ofNat_Int, Int.natCast_nonneg, hx0, hx1, hne, hle]
      try refine And.intro (by decide +kernel) ?_
      first | (refine CallsX.none (toInts_nil) ?_) | (refine CallsVia.none (toInts_nil) ?_; rintro _ _ _ ⟨rfl, rfl, rfl⟩)
      simp only [absE, absL, absF, reduceCtorEq, ↓reduceIte, Nat.reduceEqDiff, Nat.reduceAdd, Nat.reduceLT, Nat.reduceMul, Nat.reduceSub, Nat.reduceLeDiff, Int.reduceLT, Int.reduceLE, Int.reduceEq, Option.isSome_some, implies_true, false_implies, Prod.mk.injEq, ne_eq, not_false_eq_true, not_true_eq_false, ge_iff_le, gt_iff_lt, Int.toNat_natCast, Int.reduceToNat, Int.cast_ofNat_Int, Int.natCast_nonneg, hx0, hx1, hne, hle]
      try refine And.intro (by decide +kernel) ?_
      first | (refine CallsX.none (toSquare_ok n0 t0 ht0.len) ?_) | (refine CallsVia.none (toSquare_ok n0 t0 ht0.len) ?_; rintro _ _ _ ⟨rfl, rfl, rfl⟩)
      simp only [absE, absL, absF, reduceCtorEq, ↓reduceIte, Nat.reduceEqDiff, Nat.reduceAdd, Nat.reduceLT, Nat.reduceMul, Nat.reduceSub, Nat.reduceLeDiff, Int.reduceLT, Int.reduceLE, Int.reduceEq, Option.isSome_some, implies_true, false_implies, Prod.mk.injEq, ne_eq, not_false_eq_true, not_true_eq_false, ge_iff_le, gt_iff_lt, Int.toNat_natCast, Int.reduceToNat, Int.cast_ofNat_Int, Int.natCast_nonneg, hx0, hx1, hne, hle]
      try refine And.intro (by decide +kernel) ?_
      first | (refine CallsX.none (toSquare_ok n1 t1 ht1.len) ?_) | (refine CallsVia.none (toSquare_ok n1 t1 ht1.len) ?_; rintro _ _ _ ⟨rfl, rfl, rfl⟩)
      simp only [absE, absL, absF, reduceCtorEq, ↓reduceIte, Nat.reduceEqDiff, Nat.reduceAdd, Nat.reduceLT, Nat.reduceMul, Nat.reduceSub, Nat.reduceLeDiff, Int.reduceLT, Int.reduceLE, Int.reduceEq, Option.isSome_some, implies_true, false_implies, Prod.mk.injEq, ne_eq, not_false_eq_true, not_true_eq_false, ge_iff_le, gt_iff_lt, Int.toNat_natCast, Int.reduceToNat, Int.cast_ofNat_Int, Int.natCast_nonneg, hx0, hx1, hne, hle]
      try refine And.intro (by decide +kernel) ?_
      first | (refine CallsX.args [(20, 0)] (implIm_yes n0 t0 n1 t1 [] 0 ht0 ht1 rfl (by omega) h) (by simp) (by simp [Mem.get, assoc]) rfl rfl ?_) | (refine CallsVia.args [(20, 0)] (implIm_yes n0 t0 n1 t1 [] 0 ht0 ht1 rfl (by omega) h) (by simp) (by simp [Mem.get, assoc]) rfl rfl ?_; rintro _ _ _ ⟨rfl, rfl, rfl⟩)
      simp only [absE, absL, absF, reduceCtorEq, ↓reduceIte, Nat.reduceEqDiff, Nat.reduceAdd, Nat.reduceLT, Nat.reduceMul, Nat.reduceSub, Nat.reduceLeDiff, Int.reduceLT, Int.reduceLE, Int.reduceEq, Option.isSome_some, implies_true, false_implies, Prod.mk.injEq, ne_eq, not_false_eq_true, not_true_eq_false, ge_iff_le, gt_iff_lt, Int.toNat_natCast, Int.reduceToNat, Int.cast_ofNat_Int, Int.natCast_nonneg, hx0, hx1, hne, hle]
      try refine And.intro (by decide +kernel) ?_
      first | (refine CallsX.args [(27, 0), (13, 0)] (eqInts_ok _ _ rfl hlen) (by simp) (by simp [Mem.get, assoc]) rfl rfl ?_) | (refine CallsVia.args [(27, 0), (13, 0)] (eqInts_ok _ _ rfl hlen) (by simp) (by simp [Mem.get, assoc]) rfl rfl ?_; rintro _ _ _ ⟨rfl, rfl, rfl⟩)
      simp only [absE, absL, absF, reduceCtorEq, ↓reduceIte, Nat.reduceEqDiff, Nat.reduceAdd, Nat.reduceLT, Nat.reduceMul, Nat.reduceSub, Nat.reduceLeDiff, Int.reduceLT, Int.reduceLE, Int.reduceEq, Option.isSome_some, implies_true, false_implies, Prod.mk.injEq, ne_eq, not_false_eq_true, not_true_eq_false, ge_iff_le, gt_iff_lt, Int.toNat_natCast, Int.reduceToNat, Int.cast_ofNat_Int, Int.natCast_nonneg, hx0, hx1, hne, hle, eq_self]
      try refine And.intro (by decide +kernel) ?_
      first | (refine CallsX.none (toInts_nil) ?_) | (refine CallsVia.none (toInts_nil) ?_; rintro _ _ _ ⟨rfl, rfl, rfl⟩)
      simp only [absE, absL, absF, reduceCtorEq, ↓reduceIte, Nat.reduceEqDiff, Nat.reduceAdd, Nat.reduceLT, Nat.reduceMul, Nat.reduceSub, Nat.reduceLeDiff, Int.reduceLT, Int.reduceLE, Int.reduceEq, Option.isSome_some, implies_true, false_implies, Prod.mk.injEq, ne_eq, not_false_eq_true, not_true_eq_false, ge_iff_le, gt_iff_lt, Int.toNat_natCast, Int.reduceToNat, Int.cast_ofNat_Int, Int.natCast_nonneg, hx0, hx1, hne, hle]
      try refine And.intro (by decide +kernel) ?_
      first | (refine CallsX.args [(20, 0), (44, 0)] (eqInts_ok 0 [] rfl (by omega)) (by simp) (by simp [Mem.get, assoc]) rfl rfl ?_) | (refine CallsVia.args [(20, 0), (44, 0)] (eqInts_ok 0 [] rfl (by omega)) (by simp) (by simp [Mem.get, assoc]) rfl rfl ?_; rintro _ _ _ ⟨rfl, rfl, rfl⟩)
      simp only [absE, absL, absF, reduceCtorEq, ↓reduceIte, Nat.reduceEqDiff, Nat.reduceAdd, Nat.reduceLT, Nat.reduceMul, Nat.reduceSub, Nat.reduceLeDiff, Int.reduceLT, Int.reduceLE, Int.reduceEq, Option.isSome_some, implies_true, false_implies, Prod.mk.injEq, ne_eq, not_false_eq_true, not_true_eq_false, ge_iff_le, gt_iff_lt, Int.toNat_natCast, Int.reduceToNat, Int.cast_ofNat_Int, Int.natCast_nonneg, hx0, hx1, hne, hle]
      try refine And.intro (by decide +kernel) ?_
      first | (refine CallsX.args [(20, 0)] (markInts_ok 0 1 [] rfl (by omega) (by omega)) (by simp) (by simp [Mem.get, assoc]) rfl rfl ?_) | (refine CallsVia.args [(20, 0)] (markInts_ok 0 1 [] rfl (by omega) (by omega)) (by simp) (by simp [Mem.get, assoc]) rfl rfl ?_; rintro _ _ _ ⟨rfl, rfl, rfl⟩)
      simp only [absE, absL, absF, reduceCtorEq, ↓reduceIte, Nat.reduceEqDiff, Nat.reduceAdd, Nat.reduceLT, Nat.reduceMul, Nat.reduceSub, Nat.reduceLeDiff, Int.reduceLT, Int.reduceLE, Int.reduceEq, Option.isSome_some, implies_true, false_implies, Prod.mk.injEq, ne_eq, not_false_eq_true, not_true_eq_false, ge_iff_le, gt_iff_lt, Int.toNat_natCast, Int.reduceToNat, Int.cast_ofNat_Int, Int.natCast_nonneg, hx0, hx1, hne, hle]
      try refine And.intro (by decide +kernel) ?_
      first | (refine CallsX.args [(27, 0), (13, 0)] (eqInts_ok _ _ rfl hlen) (by simp) (by simp [Mem.get, assoc]) rfl rfl ?_) | (refine CallsVia.args [(27, 0), (13, 0)] (eqInts_ok _ _ rfl hlen) (by simp) (by simp [Mem.get, assoc]) rfl rfl ?_; rintro _ _ _ ⟨rfl, rfl, rfl⟩)
      simp only [absE, absL, absF, reduceCtorEq, ↓reduceIte, Nat.reduceEqDiff, Nat.reduceAdd, Nat.reduceLT, Nat.reduceMul, Nat.reduceSub, Nat.reduceLeDiff, Int.reduceLT, Int.reduceLE, Int.reduceEq, Option.isSome_some, implies_true, false_implies, Prod.mk.injEq, ne_eq, not_false_eq_true, not_true_eq_false, ge_iff_le, gt_iff_lt, Int.toNat_natCast, Int.reduceToNat, Int.cast_ofNat_Int, Int.natCast_nonneg, hx0, hx1, hne, hle, eq_self]
      try refine And.intro (by decide +kernel) ?_
      first | (refine CallsX.args [(27, 0)] (markInts_ok _ 1 _ rfl hlen (by omega)) (by simp) (by simp [Mem.get, assoc]) rfl rfl ?_) | (refine CallsVia.args [(27, 0)] (markInts_ok _ 1 _ rfl hlen (by omega)) (by simp) (by simp [Mem.get, assoc]) rfl rfl ?_; rintro _ _ _ ⟨rfl, rfl, rfl⟩)
      simp only [absE, absL, absF, reduceCtorEq, ↓reduceIte, Nat.reduceEqDiff, Nat.reduceAdd, Nat.reduceLT, Nat.reduceMul, Nat.reduceSub, Nat.reduceLeDiff, Int.reduceLT, Int.reduceLE, Int.reduceEq, Option.isSome_some, implies_true, false_implies, Prod.mk.injEq, ne_eq, not_false_eq_true, not_true_eq_false, ge_iff_le, gt_iff_lt, Int.toNat_natCast, Int.reduceToNat, Int.cast_ofNat_Int, Int.natCast_nonneg, hx0, hx1, hne, hle]
      try refine And.intro (by decide +kernel) ?_
      first | (refine CallsX.args [(27, 0)] (heldInts_ok _ 1 hlen (by omega)) (by simp) (by simp [Mem.get, assoc]) rfl rfl ?_) | (refine CallsVia.args [(27, 0)] (heldInts_ok _ 1 hlen (by omega)) (by simp) (by simp [Mem.get, assoc]) rfl rfl ?_; rintro _ _ _ ⟨rfl, rfl, rfl⟩)
      simp only [absE, absL, absF, reduceCtorEq, ↓reduceIte, Nat.reduceEqDiff, Nat.reduceAdd, Nat.reduceLT, Nat.reduceMul, Nat.reduceSub, Nat.reduceLeDiff, Int.reduceLT, Int.reduceLE, Int.reduceEq, Option.isSome_some, implies_true, false_implies, Prod.mk.injEq, ne_eq, not_false_eq_true, not_true_eq_false, ge_iff_le, gt_iff_lt, Int.toNat_natCast, Int.reduceToNat, Int.cast_ofNat_Int, Int.natCast_nonneg, hx0, hx1, hne, hle, eq_self]
      try refine And.intro (by decide +kernel) ?_
      first | (refine CallsX.none (toSquare_ok n0 t0 ht0.len) ?_) | (refine CallsVia.none (toSquare_ok n0 t0 ht0.len) ?_; rintro _ _ _ ⟨rfl, rfl, rfl⟩)
      simp only [absE, absL, absF, reduceCtorEq, ↓reduceIte, Nat.reduceEqDiff, Nat.reduceAdd, Nat.reduceLT, Nat.reduceMul, Nat.reduceSub, Nat.reduceLeDiff, Int.reduceLT, Int.reduceLE, Int.reduceEq, Option.isSome_some, implies_true, false_implies, Prod.mk.injEq, ne_eq, not_false_eq_true, not_true_eq_false, ge_iff_le, gt_iff_lt, Int.toNat_natCast, Int.reduceToNat, Int.cast_ofNat_Int, Int.natCast_nonneg, hx0, hx1, hne, hle]
      try refine And.intro (by decide +kernel) ?_
      first | (refine CallsX.none (toSquare_ok n1 t1 ht1.len) ?_) | (refine CallsVia.none (toSquare_ok n1 t1 ht1.len) ?_; rintro _ _ _ ⟨rfl, rfl, rfl⟩)
      simp only [absE, absL, absF, reduceCtorEq, ↓reduceIte, Nat.reduceEqDiff, Nat.reduceAdd, Nat.reduceLT, Nat.reduceMul, Nat.reduceSub, Nat.reduceLeDiff, Int.reduceLT, Int.reduceLE, Int.reduceEq, Option.isSome_some, implies_true, false_implies, Prod.mk.injEq, ne_eq, not_false_eq_true, not_true_eq_false, ge_iff_le, gt_iff_lt, Int.toNat_natCast, Int.reduceToNat, Int.cast_ofNat_Int, Int.natCast_nonneg, hx0, hx1, hne, hle]
      try refine And.intro (by decide +kernel) ?_
      first | (refine CallsX.none (toInts_nil) ?_) | (refine CallsVia.none (toInts_nil) ?_; rintro _ _ _ ⟨rfl, rfl, rfl⟩)
      simp only [absE, absL, absF, reduceCtorEq, ↓reduceIte, Nat.reduceEqDiff, Nat.reduceAdd, Nat.reduceLT, Nat.reduceMul, Nat.reduceSub, Nat.reduceLeDiff, Int.reduceLT, Int.reduceLE, Int.reduceEq, Option.isSome_some, implies_true, false_implies, Prod.mk.injEq, ne_eq, not_false_eq_true, not_true_eq_false, ge_iff_le, gt_iff_lt, Int.toNat_natCast, Int.reduceToNat, Int.cast_ofNat_Int, Int.natCast_nonneg, hx0, hx1, hne, hle]
      try refine And.intro (by decide +kernel) ?_
      first | (refine CallsX.args [(85, 0)] (implIm_yes n0 t0 n1 t1 [] 0 ht0 ht1 rfl (by omega) h) (by simp) (by simp [Mem.get, assoc]) rfl rfl ?_) | (refine CallsVia.args [(85, 0)] (implIm_yes n0 t0 n1 t1 [] 0 ht0 ht1 rfl (by omega) h) (by simp) (by simp [Mem.get, assoc]) rfl rfl ?_; rintro _ _ _ ⟨rfl, rfl, rfl⟩)
      simp only [absE, absL, absF, reduceCtorEq, ↓reduceIte, Nat.reduceEqDiff, Nat.reduceAdd, Nat.reduceLT, Nat.reduceMul, Nat.reduceSub, Nat.reduceLeDiff, Int.reduceLT, Int.reduceLE, Int.reduceEq, Option.isSome_some, implies_true, false_implies, Prod.mk.injEq, ne_eq, not_false_eq_true, not_true_eq_false, ge_iff_le, gt_iff_lt, Int.toNat_natCast, Int.reduceToNat, Int.cast_ofNat_Int, Int.natCast_nonneg, hx0, hx1, hne, hle]
      try refine And.intro (by decide +kernel) ?_
      first | (refine CallsX.args [(86, 0), (13, 0)] (eqInts_ok _ _ rfl hlen) (by simp) (by simp [Mem.get, assoc]) rfl rfl ?_) | (refine CallsVia.args [(86, 0), (13, 0)] (eqInts_ok _ _ rfl hlen) (by simp) (by simp [Mem.get, assoc]) rfl rfl ?_; rintro _ _ _ ⟨rfl, rfl, rfl⟩)
      simp only [absE, absL, absF, reduceCtorEq, ↓reduceIte, Nat.reduceEqDiff, Nat.reduceAdd, Nat.reduceLT, Nat.reduceMul, Nat.reduceSub, Nat.reduceLeDiff, Int.reduceLT, Int.reduceLE, Int.reduceEq, Option.isSome_some, implies_true, false_implies, Prod.mk.injEq, ne_eq, not_false_eq_true, not_true_eq_false, ge_iff_le, gt_iff_lt, Int.toNat_natCast, Int.reduceToNat, Int.cast_ofNat_Int, Int.natCast_nonneg, hx0, hx1, hne, hle, eq_self]
      try refine And.intro (by decide +kernel) ?_
      first | (refine CallsX.args [(27, 0)] (heldInts_ok _ 1 hlen (by omega)) (by simp) (by simp [Mem.get, assoc]) rfl rfl ?_) | (refine CallsVia.args [(27, 0)] (heldInts_ok _ 1 hlen (by omega)) (by simp) (by simp [Mem.get, assoc]) rfl rfl ?_; rintro _ _ _ ⟨rfl, rfl, rfl⟩)
      simp only [absE, absL, absF, reduceCtorEq, ↓reduceIte, Nat.reduceEqDiff, Nat.reduceAdd, Nat.reduceLT, Nat.reduceMul, Nat.reduceSub, Nat.reduceLeDiff, Int.reduceLT, Int.reduceLE, Int.reduceEq, Option.isSome_some, implies_true, false_implies, Prod.mk.injEq, ne_eq, not_false_eq_true, not_true_eq_false, ge_iff_le, gt_iff_lt, Int.toNat_natCast, Int.reduceToNat, Int.cast_ofNat_Int, Int.natCast_nonneg, hx0, hx1, hne, hle, eq_self]
      try refine And.intro (by decide +kernel) ?_
      try simp only [absE, absL, absF, reduceCtorEq, ↓reduceIte, Nat.reduceEqDiff, Nat.reduceAdd, Nat.reduceLT, Nat.reduceMul, Nat.reduceSub, Nat.reduceLeDiff, Int.reduceLT, Int.reduceLE, Int.reduceEq, Option.isSome_some, implies_true, false_implies, Prod.mk.injEq, ne_eq, not_false_eq_true, not_true_eq_false, ge_iff_le, gt_iff_lt, Int.toNat_natCast, Int.reduceToNat, Int.cast_ofNat_Int, Int.natCast_nonneg, hx0, hx1, hne, hle, eq_self, Try.results13]
      exact fin_b rfl rfl
  · cases h : decide (hcd n0 t0 n1 t1 [] 0 = 0)
    · have hx0 : ¬ ((1 + 0 : Nat) : Int) < 0 := by omega
      have hx1 : (0 : Int) ≤ ((1 + 0 : Nat) : Int) := by omega
      refine acalls_of_body mix Try.func13 rfl fok13 (Nat.le_of_ble_eq_true rfl) ?_
      unfold abody
      simp only [absE, absL, absF, reduceCtorEq, ↓reduceIte, Nat.reduceEqDiff, Nat.reduceAdd, Nat.reduceLT, Nat.reduceMul, Nat.reduceSub, Nat.reduceLeDiff, Int.reduceLT, Int.reduceLE, Int.reduceEq, Option.isSome_some, implies_true, false_implies, Prod.mk.injEq, ne_eq, not_false_eq_true, not_true_eq_false, ge_iff_le, gt_iff_lt, Int.toNat_natCast, Int.reduceToNat, Int.cast_ofNat_Int, Int.natCast_nonneg, hx0, hx1, Try.f13]
      first | (refine CallsX.none (toSquare_ok n0 t0 ht0.len) ?_) | (refine CallsVia.none (toSquare_ok n0 t0 ht0.len) ?_; rintro _ _ _ ⟨rfl, rfl, rfl⟩)
      simp only [absE, absL, absF, reduceCtorEq, ↓reduceIte, Nat.reduceEqDiff, Nat.reduceAdd, Nat.reduceLT, Nat.reduceMul, Nat.reduceSub, Nat.reduceLeDiff, Int.reduceLT, Int.reduceLE, Int.reduceEq, Option.isSome_some, implies_true, false_implies, Prod.mk.injEq, ne_eq, not_false_eq_true, not_true_eq_false, ge_iff_le, gt_iff_lt, Int.toNat_natCast, Int.reduceToNat, Int.cast_ofNat_Int, Int.natCast_nonneg, hx0, hx1]
      try refine And.intro (by decide +kernel) ?_
      first | (refine CallsX.none (toSquare_ok n1 t1 ht1.len) ?_) | (refine CallsVia.none (toSquare_ok n1 t1 ht1.len) ?_; rintro _ _ _ ⟨rfl, rfl, rfl⟩)
      simp only [absE, absL, absF, reduceCtorEq, ↓reduceIte, Nat.reduceEqDiff, Nat.reduceAdd, Nat.reduceLT, Nat.reduceMul, Nat.reduceSub, Nat.reduceLeDiff, Int.reduceLT, Int.reduceLE, Int.reduceEq, Option.isSome_some, implies_true, false_implies, Prod.mk.injEq, ne_eq, not_false_eq_true, not_true_eq_false, ge_iff_le, gt_iff_lt, Int.toNat_natCast, Int.reduceToNat, Int.cast_ofNat_Int, Int.natCast_nonneg, hx0, hx1]
      try refine And.intro (by decide +kernel) ?_
      first | (refine CallsX.none (toInts_sl0) ?_) | (refine CallsVia.none (toInts_sl0) ?_; rintro _ _ _ ⟨rfl, rfl, rfl⟩)
      simp only [absE, absL, absF, reduceCtorEq, ↓reduceIte, Nat.reduceEqDiff, Nat.reduceAdd, Nat.reduceLT, Nat.reduceMul, Nat.reduceSub, Nat.reduceLeDiff, Int.reduceLT, Int.reduceLE, Int.reduceEq, Option.isSome_some, implies_true, false_implies, Prod.mk.injEq, ne_eq, not_false_eq_true, not_true_eq_false, ge_iff_le, gt_iff_lt, Int.toNat_natCast, Int.reduceToNat, Int.cast_ofNat_Int, Int.natCast_nonneg, hx0, hx1]
      try refine And.intro (by decide +kernel) ?_
      first | (refine CallsX.args [(12, 0)] (specIm_no n0 t0 n1 t1 [] 0 ht0 ht1 rfl (by omega) h) (by simp) (by simp [Mem.get, assoc]) rfl rfl ?_) | (refine CallsVia.args [(12, 0)] (specIm_no n0 t0 n1 t1 [] 0 ht0 ht1 rfl (by omega) h) (by simp) (by simp [Mem.get, assoc]) rfl rfl ?_; rintro _ _ _ ⟨rfl, rfl, rfl⟩)
      simp only [absE, absL, absF, reduceCtorEq, ↓reduceIte, Nat.reduceEqDiff, Nat.reduceAdd, Nat.reduceLT, Nat.reduceMul, Nat.reduceSub, Nat.reduceLeDiff, Int.reduceLT, Int.reduceLE, Int.reduceEq, Option.isSome_some, implies_true, false_implies, Prod.mk.injEq, ne_eq, not_false_eq_true, not_true_eq_false, ge_iff_le, gt_iff_lt, Int.toNat_natCast, Int.reduceToNat, Int.cast_ofNat_Int, Int.natCast_nonneg, hx0, hx1]
      try refine And.intro (by decide +kernel) ?_
      first | (refine CallsX.none (toInts_sl0) ?_) | (refine CallsVia.none (toInts_sl0) ?_; rintro _ _ _ ⟨rfl, rfl, rfl⟩)
      simp only [absE, absL, absF, reduceCtorEq, ↓reduceIte, Nat.reduceEqDiff, Nat.reduceAdd, Nat.reduceLT, Nat.reduceMul, Nat.reduceSub, Nat.reduceLeDiff, Int.reduceLT, Int.reduceLE, Int.reduceEq, Option.isSome_some, implies_true, false_implies, Prod.mk.injEq, ne_eq, not_false_eq_true, not_true_eq_false, ge_iff_le, gt_iff_lt, Int.toNat_natCast, Int.reduceToNat, Int.cast_ofNat_Int, Int.natCast_nonneg, hx0, hx1]
      try refine And.intro (by decide +kernel) ?_
      first | (refine CallsX.none (toSquare_ok n0 t0 ht0.len) ?_) | (refine CallsVia.none (toSquare_ok n0 t0 ht0.len) ?_; rintro _ _ _ ⟨rfl, rfl, rfl⟩)
      simp only [absE, absL, absF, reduceCtorEq, ↓reduceIte, Nat.reduceEqDiff, Nat.reduceAdd, Nat.reduceLT, Nat.reduceMul, Nat.reduceSub, Nat.reduceLeDiff, Int.reduceLT, Int.reduceLE, Int.reduceEq, Option.isSome_some, implies_true, false_implies, Prod.mk.injEq, ne_eq, not_false_eq_true, not_true_eq_false, ge_iff_le, gt_iff_lt, Int.toNat_natCast, Int.reduceToNat, Int.cast_ofNat_Int, Int.natCast_nonneg, hx0, hx1]
      try refine And.intro (by decide +kernel) ?_
      first | (refine CallsX.none (toSquare_ok n1 t1 ht1.len) ?_) | (refine CallsVia.none (toSquare_ok n1 t1 ht1.len) ?_; rintro _ _ _ ⟨rfl, rfl, rfl⟩)
      simp only [absE, absL, absF, reduceCtorEq, ↓reduceIte, Nat.reduceEqDiff, Nat.reduceAdd, Nat.reduceLT, Nat.reduceMul, Nat.reduceSub, Nat.reduceLeDiff, Int.reduceLT, Int.reduceLE, Int.reduceEq, Option.isSome_some, implies_true, false_implies, Prod.mk.injEq, ne_eq, not_false_eq_true, not_true_eq_false, ge_iff_le, gt_iff_lt, Int.toNat_natCast, Int.reduceToNat, Int.cast_ofNat_Int, Int.natCast_nonneg, hx0, hx1]
      try refine And.intro (by decide +kernel) ?_
      first | (refine CallsX.args [(20, 0)] (implIm_no n0 t0 n1 t1 [] 0 ht0 ht1 rfl (by omega) h) (by simp) (by simp [Mem.get, assoc]) rfl rfl ?_) | (refine CallsVia.args [(20, 0)] (implIm_no n0 t0 n1 t1 [] 0 ht0 ht1 rfl (by omega) h) (by simp) (by simp [Mem.get, assoc]) rfl rfl ?_; rintro _ _ _ ⟨rfl, rfl, rfl⟩)
      simp only [absE, absL, absF, reduceCtorEq, ↓reduceIte, Nat.reduceEqDiff, Nat.reduceAdd, Nat.reduceLT, Nat.reduceMul, Nat.reduceSub, Nat.reduceLeDiff, Int.reduceLT, Int.reduceLE, Int.reduceEq, Option.isSome_some, implies_true, false_implies, Prod.mk.injEq, ne_eq, not_false_eq_true, not_true_eq_false, ge_iff_le, gt_iff_lt, Int.toNat_natCast, Int.reduceToNat, Int.cast_ofNat_Int, Int.natCast_nonneg, hx0, hx1]
      try refine And.intro (by decide +kernel) ?_
      refine CallsVia.none (eqInts_nil) ?_
      rintro _ _ _ ⟨rfl, rfl, rfl⟩
      simp only [absE, absL, absF, reduceCtorEq, ↓reduceIte, Nat.reduceEqDiff, Nat.reduceAdd, Nat.reduceLT, Nat.reduceMul, Nat.reduceSub, Nat.reduceLeDiff, Int.reduceLT, Int.reduceLE, Int.reduceEq, Option.isSome_some, implies_true, false_implies, Prod.mk.injEq, ne_eq, not_false_eq_true, not_true_eq_false, ge_iff_le, gt_iff_lt, Int.toNat_natCast, Int.reduceToNat, Int.cast_ofNat_Int, Int.natCast_nonneg, hx0, hx1, eq_self]
      try refine And.intro (by decide +kernel) ?_
      first | (refine CallsX.none (toInts_sl0) ?_) | (refine CallsVia.none (toInts_sl0) ?_; rintro _ _ _ ⟨rfl, rfl, rfl⟩)
      simp only [absE, absL, absF, reduceCtorEq, ↓reduceIte, Nat.reduceEqDiff, Nat.reduceAdd, Nat.reduceLT, Nat.reduceMul, Nat.reduceSub, Nat.reduceLeDiff, Int.reduceLT, Int.reduceLE, Int.reduceEq, Option.isSome_some, implies_true, false_implies, Prod.mk.injEq, ne_eq, not_false_eq_true, not_true_eq_false, ge_iff_le, gt_iff_lt, Int.toNat_natCast, Int.reduceToNat, Int.cast_ofNat_Int, Int.natCast_nonneg, hx0, hx1]
      try refine And.intro (by decide +kernel) ?_
      first | (refine CallsX.args [(20, 0), (44, 0)] (eqInts_ok 0 [] rfl (by omega)) (by simp) (by simp [Mem.get, assoc]) rfl rfl ?_) | (refine CallsVia.args [(20, 0), (44, 0)] (eqInts_ok 0 [] rfl (by omega)) (by simp) (by simp [Mem.get, assoc]) rfl rfl ?_; rintro _ _ _ ⟨rfl, rfl, rfl⟩)
      simp only [absE, absL, absF, reduceCtorEq, ↓reduceIte, Nat.reduceEqDiff, Nat.reduceAdd, Nat.reduceLT, Nat.reduceMul, Nat.reduceSub, Nat.reduceLeDiff, Int.reduceLT, Int.reduceLE, Int.reduceEq, Option.isSome_some, implies_true, false_implies, Prod.mk.injEq, ne_eq, not_false_eq_true, not_true_eq_false, ge_iff_le, gt_iff_lt, Int.toNat_natCast, Int.reduceToNat, Int.cast_ofNat_Int, Int.natCast_nonneg, hx0, hx1]
      try refine And.intro (by decide +kernel) ?_
      first | (refine CallsX.args [(20, 0)] (markInts_ok 0 1 [] rfl (by omega) (by omega)) (by simp) (by simp [Mem.get, assoc]) rfl rfl ?_) | (refine CallsVia.args [(20, 0)] (markInts_ok 0 1 [] rfl (by omega) (by omega)) (by simp) (by simp [Mem.get, assoc]) rfl rfl ?_; rintro _ _ _ ⟨rfl, rfl, rfl⟩)
      simp only [absE, absL, absF, reduceCtorEq, ↓reduceIte, Nat.reduceEqDiff, Nat.reduceAdd, Nat.reduceLT, Nat.reduceMul, Nat.reduceSub, Nat.reduceLeDiff, Int.reduceLT, Int.reduceLE, Int.reduceEq, Option.isSome_some, implies_true, false_implies, Prod.mk.injEq, ne_eq, not_false_eq_true, not_true_eq_false, ge_iff_le, gt_iff_lt, Int.toNat_natCast, Int.reduceToNat, Int.cast_ofNat_Int, Int.natCast_nonneg, hx0, hx1]
      try refine And.intro (by decide +kernel) ?_
      refine CallsVia.none (eqInts_nil) ?_
      rintro _ _ _ ⟨rfl, rfl, rfl⟩
      simp only [absE, absL, absF, reduceCtorEq, ↓reduceIte, Nat.reduceEqDiff, Nat.reduceAdd, Nat.reduceLT, Nat.reduceMul, Nat.reduceSub, Nat.reduceLeDiff, Int.reduceLT, Int.reduceLE, Int.reduceEq, Option.isSome_some, implies_true, false_implies, Prod.mk.injEq, ne_eq, not_false_eq_true, not_true_eq_false, ge_iff_le, gt_iff_lt, Int.toNat_natCast, Int.reduceToNat, Int.cast_ofNat_Int, Int.natCast_nonneg, hx0, hx1, eq_self]
      try refine And.intro (by decide +kernel) ?_
      refine CallsVia.none (markInts_nil 1) ?_
      rintro _ _ _ ⟨rfl, rfl, rfl⟩
      simp only [absE, absL, absF, reduceCtorEq, ↓reduceIte, Nat.reduceEqDiff, Nat.reduceAdd, Nat.reduceLT, Nat.reduceMul, Nat.reduceSub, Nat.reduceLeDiff, Int.reduceLT, Int.reduceLE, Int.reduceEq, Option.isSome_some, implies_true, false_implies, Prod.mk.injEq, ne_eq, not_false_eq_true, not_true_eq_false, ge_iff_le, gt_iff_lt, Int.toNat_natCast, Int.reduceToNat, Int.cast_ofNat_Int, Int.natCast_nonneg, hx0, hx1]
      try refine And.intro (by decide +kernel) ?_
      refine CallsVia.none (heldInts_nil 1) ?_
      rintro _ _ _ ⟨rfl, rfl, rfl⟩
      simp only [absE, absL, absF, reduceCtorEq, ↓reduceIte, Nat.reduceEqDiff, Nat.reduceAdd, Nat.reduceLT, Nat.reduceMul, Nat.reduceSub, Nat.reduceLeDiff, Int.reduceLT, Int.reduceLE, Int.reduceEq, Option.isSome_some, implies_true, false_implies, Prod.mk.injEq, ne_eq, not_false_eq_true, not_true_eq_false, ge_iff_le, gt_iff_lt, Int.toNat_natCast, Int.reduceToNat, Int.cast_ofNat_Int, Int.natCast_nonneg, hx0, hx1, eq_self]
      try refine And.intro (by decide +kernel) ?_
      first | (refine CallsX.none (toSquare_ok n0 t0 ht0.len) ?_) | (refine CallsVia.none (toSquare_ok n0 t0 ht0.len) ?_; rintro _ _ _ ⟨rfl, rfl, rfl⟩)
      simp only [absE, absL, absF, reduceCtorEq, ↓reduceIte, Nat.reduceEqDiff, Nat.reduceAdd, Nat.reduceLT, Nat.reduceMul, Nat.reduceSub, Nat.reduceLeDiff, Int.reduceLT, Int.reduceLE, Int.reduceEq, Option.isSome_some, implies_true, false_implies, Prod.mk.injEq, ne_eq, not_false_eq_true, not_true_eq_false, ge_iff_le, gt_iff_lt, Int.toNat_natCast, Int.reduceToNat, Int.cast_ofNat_Int, Int.natCast_nonneg, hx0, hx1]
      try refine And.intro (by decide +kernel) ?_
      first | (refine CallsX.none (toSquare_ok n1 t1 ht1.len) ?_) | (refine CallsVia.none (toSquare_ok n1 t1 ht1.len) ?_; rintro _ _ _ ⟨rfl, rfl, rfl⟩)
      simp only [absE, absL, absF, reduceCtorEq, ↓reduceIte, Nat.reduceEqDiff, Nat.reduceAdd, Nat.reduceLT, Nat.reduceMul, Nat.reduceSub, Nat.reduceLeDiff, Int.reduceLT, Int.reduceLE, Int.reduceEq, Option.isSome_some, implies_true, false_implies, Prod.mk.injEq, ne_eq, not_false_eq_true, not_true_eq_false, ge_iff_le, gt_iff_lt, Int.toNat_natCast, Int.reduceToNat, Int.cast_ofNat_Int, Int.natCast_nonneg, hx0, hx1]
      try refine And.intro (by decide +kernel) ?_
      first | (refine CallsX.none (toInts_sl0) ?_) | (refine CallsVia.none (toInts_sl0) ?_; rintro _ _ _ ⟨rfl, rfl, rfl⟩)
      simp only [absE, absL, absF, reduceCtorEq, ↓reduceIte, Nat.reduceEqDiff, Nat.reduceAdd, Nat.reduceLT, Nat.reduceMul, Nat.reduceSub, Nat.reduceLeDiff, Int.reduceLT, Int.reduceLE, Int.reduceEq, Option.isSome_some, implies_true, false_implies, Prod.mk.injEq, ne_eq, not_false_eq_true, not_true_eq_false, ge_iff_le, gt_iff_lt, Int.toNat_natCast, Int.reduceToNat, Int.cast_ofNat_Int, Int.natCast_nonneg, hx0, hx1]
      try refine And.intro (by decide +kernel) ?_
      first | (refine CallsX.args [(85, 0)] (implIm_no n0 t0 n1 t1 [] 0 ht0 ht1 rfl (by omega) h) (by simp) (by simp [Mem.get, assoc]) rfl rfl ?_) | (refine CallsVia.args [(85, 0)] (implIm_no n0 t0 n1 t1 [] 0 ht0 ht1 rfl (by omega) h) (by simp) (by simp [Mem.get, assoc]) rfl rfl ?_; rintro _ _ _ ⟨rfl, rfl, rfl⟩)
      simp only [absE, absL, absF, reduceCtorEq, ↓reduceIte, Nat.reduceEqDiff, Nat.reduceAdd, Nat.reduceLT, Nat.reduceMul, Nat.reduceSub, Nat.reduceLeDiff, Int.reduceLT, Int.reduceLE, Int.reduceEq, Option.isSome_some, implies_true, false_implies, Prod.mk.injEq, ne_eq, not_false_eq_true, not_true_eq_false, ge_iff_le, gt_iff_lt, Int.toNat_natCast, Int.reduceToNat, Int.cast_ofNat_Int, Int.natCast_nonneg, hx0, hx1]
      try refine And.intro (by decide +kernel) ?_
      refine CallsVia.none (eqInts_nil) ?_
      rintro _ _ _ ⟨rfl, rfl, rfl⟩
      simp only [absE, absL, absF, reduceCtorEq, ↓reduceIte, Nat.reduceEqDiff, Nat.reduceAdd, Nat.reduceLT, Nat.reduceMul, Nat.reduceSub, Nat.reduceLeDiff, Int.reduceLT, Int.reduceLE, Int.reduceEq, Option.isSome_some, implies_true, false_implies, Prod.mk.injEq, ne_eq, not_false_eq_true, not_true_eq_false, ge_iff_le, gt_iff_lt, Int.toNat_natCast, Int.reduceToNat, Int.cast_ofNat_Int, Int.natCast_nonneg, hx0, hx1, eq_self]
      try refine And.intro (by decide +kernel) ?_
      refine CallsVia.none (heldInts_nil 1) ?_
      rintro _ _ _ ⟨rfl, rfl, rfl⟩
      simp only [absE, absL, absF, reduceCtorEq, ↓reduceIte, Nat.reduceEqDiff, Nat.reduceAdd, Nat.reduceLT, Nat.reduceMul, Nat.reduceSub, Nat.reduceLeDiff, Int.reduceLT, Int.reduceLE, Int.reduceEq, Option.isSome_some, implies_true, false_implies, Prod.mk.injEq, ne_eq, not_false_eq_true, not_true_eq_false, ge_iff_le, gt_iff_lt, Int.toNat_natCast, Int.reduceToNat, Int.cast_ofNat_Int, Int.natCast_nonneg, hx0, hx1, eq_self]
      try refine And.intro (by decide +kernel) ?_
      try simp only [absE, absL, absF, reduceCtorEq, ↓reduceIte, Nat.reduceEqDiff, Nat.reduceAdd, Nat.reduceLT, Nat.reduceMul, Nat.reduceSub, Nat.reduceLeDiff, Int.reduceLT, Int.reduceLE, Int.reduceEq, Option.isSome_some, implies_true, false_implies, Prod.mk.injEq, ne_eq, not_false_eq_true, not_true_eq_false, ge_iff_le, gt_iff_lt, Int.toNat_natCast, Int.reduceToNat, Int.cast_ofNat_Int, Int.natCast_nonneg, hx0, hx1, eq_self, Try.results13]
      exact fin_b rfl rfl
    · have hx0 : ¬ ((1 + 0 : Nat) : Int) < 0 := by omega
      have hx1 : (0 : Int) ≤ ((1 + 0 : Nat) : Int) := by omega
      have hlen : (imL n1 [] 0).length < 2 ^ 40 := (imL_len h)
      have hne : ¬((1 + (imL n1 [] 0).length : Nat) : Int) < 0 := by omega
      have hle : (0 : Int) ≤ ((1 + (imL n1 [] 0).length : Nat) : Int) := by omega
      refine acalls_of_body mix Try.func13 rfl fok13 (Nat.le_of_ble_eq_true rfl) ?_
      unfold abody
      simp only [absE, absL, absF, reduceCtorEq, ↓reduceIte, Nat.reduceEqDiff, Nat.reduceAdd, Nat.reduceLT, Nat.reduceMul, Nat.reduceSub, Nat.reduceLeDiff, Int.reduceLT, Int.reduceLE, Int.reduceEq, Option.isSome_some, implies_true, false_implies, Prod.mk.injEq, ne_eq, not_false_eq_true, not_true_eq_false, ge_iff_le, gt_iff_lt, Int.toNat_natCast, Int.reduceToNat, Int.cast_ofNat_Int, Int.natCast_nonneg, hx0, hx1, hne, hle, Try.f13]
      first | (refine CallsX.none (toSquare_ok n0 t0 ht0.len) ?_) | (refine CallsVia.none (toSquare_ok n0 t0 ht0.len) ?_; rintro _ _ _ ⟨rfl, rfl, rfl⟩)
      simp only [absE, absL, absF, reduceCtorEq, ↓reduceIte, Nat.reduceEqDiff, Nat.reduceAdd, Nat.reduceLT, Nat.reduceMul, Nat.reduceSub, Nat.reduceLeDiff, Int.reduceLT, Int.reduceLE, Int.reduceEq, Option.isSome_some, implies_true, false_implies, Prod.mk.injEq, ne_eq, not_false_eq_true, not_true_eq_false, ge_iff_le, gt_iff_lt, Int.toNat_natCast, Int.reduceToNat, Int.cast_ofNat_Int, Int.natCast_nonneg, hx0, hx1, hne, hle]
      try refine And.intro (by decide +kernel) ?_
      first | (refine CallsX.none (toSquare_ok n1 t1 ht1.len) ?_) | (refine CallsVia.none (toSquare_ok n1 t1 ht1.len) ?_; rintro _ _ _ ⟨rfl, rfl, rfl⟩)
      simp only [absE, absL, absF, reduceCtorEq, ↓reduceIte, Nat.reduceEqDiff, Nat.reduceAdd, Nat.reduceLT, Nat.reduceMul, Nat.reduceSub, Nat.reduceLeDiff, Int.reduceLT, Int.reduceLE, Int.reduceEq, Option.isSome_some, implies_true, false_implies, Prod.mk.injEq, ne_eq, not_false_eq_true, not_true_eq_false, ge_iff_le, gt_iff_lt, Int.toNat_natCast, Int.reduceToNat, Int.cast_ofNat_Int, Int.natCast_nonneg, hx0, hx1, hne, hle]
      try refine And.intro (by decide +kernel) ?_
      first | (refine CallsX.none (toInts_sl0) ?_) | (refine CallsVia.none (toInts_sl0) ?_; rintro _ _ _ ⟨rfl, rfl, rfl⟩)
      simp only [absE, absL, absF, reduceCtorEq, ↓reduceIte, Nat.reduceEqDiff, Nat.reduceAdd, Nat.reduceLT, Nat.reduceMul, Nat.reduceSub, Nat.reduceLeDiff, Int.reduceLT, Int.reduceLE, Int.reduceEq, Option.isSome_some, implies_true, false_implies, Prod.mk.injEq, ne_eq, not_false_eq_true, not_true_eq_false, ge_iff_le, gt_iff_lt, Int.toNat_natCast, Int.reduceToNat, Int.cast_ofNat_Int, Int.natCast_nonneg, hx0, hx1, hne, hle]
      try refine And.intro (by decide +kernel) ?_
      first | (refine CallsX.args [(12, 0)] (specIm_yes n0 t0 n1 t1 [] 0 ht0 ht1 rfl (by omega) h) (by simp) (by simp [Mem.get, assoc]) rfl rfl ?_) | (refine CallsVia.args [(12, 0)] (specIm_yes n0 t0 n1 t1 [] 0 ht0 ht1 rfl (by omega) h) (by simp) (by simp [Mem.get, assoc]) rfl rfl ?_; rintro _ _ _ ⟨rfl, rfl, rfl⟩)
      simp only [absE, absL, absF, reduceCtorEq, ↓reduceIte, Nat.reduceEqDiff, Nat.reduceAdd, Nat.reduceLT, Nat.reduceMul, Nat.reduceSub, Nat.reduceLeDiff, Int.reduceLT, Int.reduceLE, Int.reduceEq, Option.isSome_some, implies_true, false_implies, Prod.mk.injEq, ne_eq, not_false_eq_true, not_true_eq_false, ge_iff_le, gt_iff_lt, Int.toNat_natCast, Int.reduceToNat, Int.cast_ofNat_Int, Int.natCast_nonneg, hx0, hx1, hne, hle]
      try refine And.intro (by decide +kernel) ?_
      first | (refine CallsX.none (toInts_sl0) ?_) | (refine CallsVia.none (toInts_sl0) ?_; rintro _ _ _ ⟨rfl, rfl, rfl⟩)
      simp only [absE, absL, absF, reduceCtorEq, ↓reduceIte, Nat.reduceEqDiff, Nat.reduceAdd, Nat.reduceLT, Nat.reduceMul, Nat.reduceSub, Nat.reduceLeDiff, Int.reduceLT, Int.reduceLE, Int.reduceEq, Option.isSome_some, implies_true, false_implies, Prod.mk.injEq, ne_eq, not_false_eq_true, not_true_eq_false, ge_iff_le, gt_iff_lt, Int.toNat_natCast, Int.reduceToNat, Int.cast_ofNat_Int, Int.natCast_nonneg, hx0, hx1, hne, hle]
      try refine And.intro (by decide +kernel) ?_
      first | (refine CallsX.none (toSquare_ok n0 t0 ht0.len) ?_) | (refine CallsVia.none (toSquare_ok n0 t0 ht0.len) ?_; rintro _ _ _ ⟨rfl, rfl, rfl⟩)
      simp only [absE, absL, absF, reduceCtorEq, ↓reduceIte, Nat.reduceEqDiff, Nat.reduceAdd, Nat.reduceLT, Nat.reduceMul, Nat.reduceSub, Nat.reduceLeDiff, Int.reduceLT, Int.reduceLE, Int.reduceEq, Option.isSome_some, implies_true, false_implies, Prod.mk.injEq, ne_eq, not_false_eq_true, not_true_eq_false, ge_iff_le, gt_iff_lt, Int.toNat_natCast, Int.reduceToNat, Int.cast_ofNat_Int, Int.natCast_nonneg, hx0, hx1, hne, hle]
      try refine And.intro (by decide +kernel) ?_
      first | (refine CallsX.none (toSquare_ok n1 t1 ht1.len) ?_) | (refine CallsVia.none (toSquare_ok n1 t1 ht1.len) ?_; rintro _ _ _ ⟨rfl, rfl, rfl⟩)
      simp only [absE, absL, absF, reduceCtorEq, ↓reduceIte, Nat.reduceEqDiff, Nat.reduceAdd, Nat.reduceLT, Nat.reduceMul, Nat.reduceSub, Nat.reduceLeDiff, Int.reduceLT, Int.reduceLE, Int.reduceEq, Option.isSome_some, implies_true, false_implies, Prod.mk.injEq, ne_eq, not_false_eq_true, not_true_eq_false, ge_iff_le, gt_iff_lt, Int.toNat_natCast, Int.reduceToNat, Int.cast_ofNat_Int, Int.natCast_nonneg, hx0, hx1, hne, hle]
      try refine And.intro (by decide +kernel) ?_
      first | (refine CallsX.args [(20, 0)] (implIm_yes n0 t0 n1 t1 [] 0 ht0 ht1 rfl (by omega) h) (by simp) (by simp [Mem.get, assoc]) rfl rfl ?_) | (refine CallsVia.args [(20, 0)] (implIm_yes n0 t0 n1 t1 [] 0 ht0 ht1 rfl (by omega) h) (by simp) (by simp [Mem.get, assoc]) rfl rfl ?_; rintro _ _ _ ⟨rfl, rfl, rfl⟩)
      simp only [absE, absL, absF, reduceCtorEq, ↓reduceIte, Nat.reduceEqDiff, Nat.reduceAdd, Nat.reduceLT, Nat.reduceMul, Nat.reduceSub, Nat.reduceLeDiff, Int.reduceLT, Int.reduceLE, Int.reduceEq, Option.isSome_some, implies_true, false_implies, Prod.mk.injEq, ne_eq, not_false_eq_true, not_true_eq_false, ge_iff_le, gt_iff_lt, Int.toNat_natCast, Int.reduceToNat, Int.cast_ofNat_Int, Int.natCast_nonneg, hx0, hx1, hne, hle]
      try refine And.intro (by decide +kernel) ?_
      first | (refine CallsX.args [(27, 0), (13, 0)] (eqInts_ok _ _ rfl hlen) (by simp) (by simp [Mem.get, assoc]) rfl rfl ?_) | (refine CallsVia.args [(27, 0), (13, 0)] (eqInts_ok _ _ rfl hlen) (by simp) (by simp [Mem.get, assoc]) rfl rfl ?_; rintro _ _ _ ⟨rfl, rfl, rfl⟩)
      simp only [absE, absL, absF, reduceCtorEq, ↓reduceIte, Nat.reduceEqDiff, Nat.reduceAdd, Nat.reduceLT, Nat.reduceMul, Nat.reduceSub, Nat.reduceLeDiff, Int.reduceLT, Int.reduceLE, Int.reduceEq, Option.isSome_some, implies_true, false_implies, Prod.mk.injEq, ne_eq, not_false_eq_true, not_true_eq_false, ge_iff_le, gt_iff_lt, Int.toNat_natCast, Int.reduceToNat, Int.cast_ofNat_Int, Int.natCast_nonneg, hx0, hx1, hne, hle, eq_self]
      try refine And.intro (by decide +kernel) ?_
      first | (refine CallsX.none (toInts_sl0) ?_) | (refine CallsVia.none (toInts_sl0) ?_; rintro _ _ _ ⟨rfl, rfl, rfl⟩)
      simp only [absE, absL, absF, reduceCtorEq, ↓reduceIte, Nat.reduceEqDiff, Nat.reduceAdd, Nat.reduceLT, Nat.reduceMul, Nat.reduceSub, Nat.reduceLeDiff, Int.reduceLT, Int.reduceLE, Int.reduceEq, Option.isSome_some, implies_true, false_implies, Prod.mk.injEq, ne_eq, not_false_eq_true, not_true_eq_false, ge_iff_le, gt_iff_lt, Int.toNat_natCast, Int.reduceToNat, Int.cast_ofNat_Int, Int.natCast_nonneg, hx0, hx1, hne, hle]
      try refine And.intro (by decide +kernel) ?_
      first | (refine CallsX.args [(20, 0), (44, 0)] (eqInts_ok 0 [] rfl (by omega)) (by simp) (by simp [Mem.get, assoc]) rfl rfl ?_) | (refine CallsVia.args [(20, 0), (44, 0)] (eqInts_ok 0 [] rfl (by omega)) (by simp) (by simp [Mem.get, assoc]) rfl rfl ?_; rintro _ _ _ ⟨rfl, rfl, rfl⟩)
      simp only [absE, absL, absF, reduceCtorEq, ↓reduceIte, Nat.reduceEqDiff, Nat.reduceAdd, Nat.reduceLT, Nat.reduceMul, Nat.reduceSub, Nat.reduceLeDiff, Int.reduceLT, Int.reduceLE, Int.reduceEq, Option.isSome_some, implies_true, false_implies, Prod.mk.injEq, ne_eq, not_false_eq_true, not_true_eq_false, ge_iff_le, gt_iff_lt, Int.toNat_natCast, Int.reduceToNat, Int.cast_ofNat_Int, Int.natCast_nonneg, hx0, hx1, hne, hle]
      try refine And.intro (by decide +kernel) ?_
      first | (refine CallsX.args [(20, 0)] (markInts_ok 0 1 [] rfl (by omega) (by omega)) (by simp) (by simp [Mem.get, assoc]) rfl rfl ?_) | (refine CallsVia.args [(20, 0)] (markInts_ok 0 1 [] rfl (by omega) (by omega)) (by simp) (by simp [Mem.get, assoc]) rfl rfl ?_; rintro _ _ _ ⟨rfl, rfl, rfl⟩)
      simp only [absE, absL, absF, reduceCtorEq, ↓reduceIte, Nat.reduceEqDiff, Nat.reduceAdd, Nat.reduceLT, Nat.reduceMul, Nat.reduceSub, Nat.reduceLeDiff, Int.reduceLT, Int.reduceLE, Int.reduceEq, Option.isSome_some, implies_true, false_implies, Prod.mk.injEq, ne_eq, not_false_eq_true, not_true_eq_false, ge_iff_le, gt_iff_lt, Int.toNat_natCast, Int.reduceToNat, Int.cast_ofNat_Int, Int.natCast_nonneg, hx0, hx1, hne, hle]
      try refine And.intro (by decide +kernel) ?_
      first | (refine CallsX.args [(27, 0), (13, 0)] (eqInts_ok _ _ rfl hlen) (by simp) (by simp [Mem.get, assoc]) rfl rfl ?_) | (refine CallsVia.args [(27, 0), (13, 0)] (eqInts_ok _ _ rfl hlen) (by simp) (by simp [Mem.get, assoc]) rfl rfl ?_; rintro _ _ _ ⟨rfl, rfl, rfl⟩)
      simp only [absE, absL, absF, reduceCtorEq, ↓reduceIte, Nat.reduceEqDiff, Nat.reduceAdd, Nat.reduceLT, Nat.reduceMul, Nat.reduceSub, Nat.reduceLeDiff, Int.reduceLT, Int.reduceLE, Int.reduceEq, Option.isSome_some, implies_true, false_implies, Prod.mk.injEq, ne_eq, not_false_eq_true, not_true_eq_false, ge_iff_le, gt_iff_lt, Int.toNat_natCast, Int.reduceToNat, Int.cast_ofNat_Int, Int.natCast_nonneg, hx0, hx1, hne, hle, eq_self]
      try refine And.intro (by decide +kernel) ?_
      first | (refine CallsX.args [(27, 0)] (markInts_ok _ 1 _ rfl hlen (by omega)) (by simp) (by simp [Mem.get, assoc]) rfl rfl ?_) | (refine CallsVia.args [(27, 0)] (markInts_ok _ 1 _ rfl hlen (by omega)) (by simp) (by simp [Mem.get, assoc]) rfl rfl ?_; rintro _ _ _ ⟨rfl, rfl, rfl⟩)
      simp only [absE, absL, absF, reduceCtorEq, ↓reduceIte, Nat.reduceEqDiff, Nat.reduceAdd, Nat.reduceLT, Nat.reduceMul, Nat.reduceSub, Nat.reduceLeDiff, Int.reduceLT, Int.reduceLE, Int.reduceEq, Option.isSome_some, implies_true, false_implies, Prod.mk.injEq, ne_eq, not_false_eq_true, not_true_eq_false, ge_iff_le, gt_iff_lt, Int.toNat_natCast, Int.reduceToNat, Int.cast_ofNat_Int, Int.natCast_nonneg, hx0, hx1, hne, hle]
      try refine And.intro (by decide +kernel) ?_
      first | (refine CallsX.args [(27, 0)] (heldInts_ok _ 1 hlen (by omega)) (by simp) (by simp [Mem.get, assoc]) rfl rfl ?_) | (refine CallsVia.args [(27, 0)] (heldInts_ok _ 1 hlen (by omega)) (by simp) (by simp [Mem.get, assoc]) rfl rfl ?_; rintro _ _ _ ⟨rfl, rfl, rfl⟩)
      simp only [absE, absL, absF, reduceCtorEq, ↓reduceIte, Nat.reduceEqDiff, Nat.reduceAdd, Nat.reduceLT, Nat.reduceMul, Nat.reduceSub, Nat.reduceLeDiff, Int.reduceLT, Int.reduceLE, Int.reduceEq, Option.isSome_some, implies_true, false_implies, Prod.mk.injEq, ne_eq, not_false_eq_true, not_true_eq_false, ge_iff_le, gt_iff_lt, Int.toNat_natCast, Int.reduceToNat, Int.cast_ofNat_Int, Int.natCast_nonneg, hx0, hx1, hne, hle, eq_self]
      try refine And.intro (by decide +kernel) ?_
      first | (refine CallsX.none (toSquare_ok n0 t0 ht0.len) ?_) | (refine CallsVia.none (toSquare_ok n0 t0 ht0.len) ?_; rintro _ _ _ ⟨rfl, rfl, rfl⟩)
      simp only [absE, absL, absF, reduceCtorEq, ↓reduceIte, Nat.reduceEqDiff, Nat.reduceAdd, Nat.reduceLT, Nat.reduceMul, Nat.reduceSub, Nat.reduceLeDiff, Int.reduceLT, Int.reduceLE, Int.reduceEq, Option.isSome_some, implies_true, false_implies, Prod.mk.injEq, ne_eq, not_false_eq_true, not_true_eq_false, ge_iff_le, gt_iff_lt, Int.toNat_natCast, Int.reduceToNat, Int.cast_ofNat_Int, Int.natCast_nonneg, hx0, hx1, hne, hle]
      try refine And.intro (by decide +kernel) ?_
      first | (refine CallsX.none (toSquare_ok n1 t1 ht1.len) ?_) | (refine CallsVia.none (toSquare_ok n1 t1 ht1.len) ?_; rintro _ _ _ ⟨rfl, rfl, rfl⟩)
      simp only [absE, absL, absF, reduceCtorEq, ↓reduceIte, Nat.reduceEqDiff, Nat.reduceAdd, Nat.reduceLT, Nat.reduceMul, Nat.reduceSub, Nat.reduceLeDiff, Int.reduceLT, Int.reduceLE, Int.reduceEq, Option.isSome_some, implies_true, false_implies, Prod.mk.injEq, ne_eq, not_false_eq_true, not_true_eq_false, ge_iff_le, gt_iff_lt, Int.toNat_natCast, Int.reduceToNat, Int.cast_ofNat_Int, Int.natCast_nonneg, hx0, hx1, hne, hle]
      try refine And.intro (by decide +kernel) ?_
      first | (refine CallsX.none (toInts_sl0) ?_) | (refine CallsVia.none (toInts_sl0) ?_; rintro _ _ _ ⟨rfl, rfl, rfl⟩)
      simp only [absE, absL, absF, reduceCtorEq, ↓reduceIte, Nat.reduceEqDiff, Nat.reduceAdd, Nat.reduceLT, Nat.reduceMul, Nat.reduceSub, Nat.reduceLeDiff, Int.reduceLT, Int.reduceLE, Int.reduceEq, Option.isSome_some, implies_true, false_implies, Prod.mk.injEq, ne_eq, not_false_eq_true, not_true_eq_false, ge_iff_le, gt_iff_lt, Int.toNat_natCast, Int.reduceToNat, Int.cast_ofNat_Int, Int.natCast_nonneg, hx0, hx1, hne, hle]
      try refine And.intro (by decide +kernel) ?_
      first | (refine CallsX.args [(85, 0)] (implIm_yes n0 t0 n1 t1 [] 0 ht0 ht1 rfl (by omega) h) (by simp) (by simp [Mem.get, assoc]) rfl rfl ?_) | (refine CallsVia.args [(85, 0)] (implIm_yes n0 t0 n1 t1 [] 0 ht0 ht1 rfl (by omega) h) (by simp) (by simp [Mem.get, assoc]) rfl rfl ?_; rintro _ _ _ ⟨rfl, rfl, rfl⟩)
      simp only [absE, absL, absF, reduceCtorEq, ↓reduceIte, Nat.reduceEqDiff, Nat.reduceAdd, Nat.reduceLT, Nat.reduceMul, Nat.reduceSub, Nat.reduceLeDiff, Int.reduceLT, Int.reduceLE, Int.reduceEq, Option.isSome_some, implies_true, false_implies, Prod.mk.injEq, ne_eq, not_false_eq_true, not_true_eq_false, ge_iff_le, gt_iff_lt, Int.toNat_natCast, Int.reduceToNat, Int.cast_ofNat_Int, Int.natCast_nonneg, hx0, hx1, hne, hle]
      try refine And.intro (by decide +kernel) ?_
      first | (refine CallsX.args [(86, 0), (13, 0)] (eqInts_ok _ _ rfl hlen) (by simp) (by simp [Mem.get, assoc]) rfl rfl ?_) | (refine CallsVia.args [(86, 0), (13, 0)] (eqInts_ok _ _ rfl hlen) (by simp) (by simp [Mem.get, assoc]) rfl rfl ?_; rintro _ _ _ ⟨rfl, rfl, rfl⟩)
      simp only [absE, absL, absF, reduceCtorEq, ↓reduceIte, Nat.reduceEqDiff, Nat.reduceAdd, Nat.reduceLT, Nat.reduceMul, Nat.reduceSub, Nat.reduceLeDiff, Int.reduceLT, Int.reduceLE, Int.reduceEq, Option.isSome_some, implies_true, false_implies, Prod.mk.injEq, ne_eq, not_false_eq_true, not_true_eq_false, ge_iff_le, gt_iff_lt, Int.toNat_natCast, Int.reduceToNat, Int.cast_ofNat_Int, Int.natCast_nonneg, hx0, hx1, hne, hle, eq_self]
      try refine And.intro (by decide +kernel) ?_
      first | (refine CallsX.args [(27, 0)] (heldInts_ok _ 1 hlen (by omega)) (by simp) (by simp [Mem.get, assoc]) rfl rfl ?_) | (refine CallsVia.args [(27, 0)] (heldInts_ok _ 1 hlen (by omega)) (by simp) (by simp [Mem.get, assoc]) rfl rfl ?_; rintro _ _ _ ⟨rfl, rfl, rfl⟩)
      simp only [absE, absL, absF, reduceCtorEq, ↓reduceIte, Nat.reduceEqDiff, Nat.reduceAdd, Nat.reduceLT, Nat.reduceMul, Nat.reduceSub, Nat.reduceLeDiff, Int.reduceLT, Int.reduceLE, Int.reduceEq, Option.isSome_some, implies_true, false_implies, Prod.mk.injEq, ne_eq, not_false_eq_true, not_true_eq_false, ge_iff_le, gt_iff_lt, Int.toNat_natCast, Int.reduceToNat, Int.cast_ofNat_Int, Int.natCast_nonneg, hx0, hx1, hne, hle, eq_self]
      try refine And.intro (by decide +kernel) ?_
      try simp only [absE, absL, absF, reduceCtorEq, ↓reduceIte, Nat.reduceEqDiff, Nat.reduceAdd, Nat.reduceLT, Nat.reduceMul, Nat.reduceSub, Nat.reduceLeDiff, Int.reduceLT, Int.reduceLE, Int.reduceEq, Option.isSome_some, implies_true, false_implies, Prod.mk.injEq, ne_eq, not_false_eq_true, not_true_eq_false, ge_iff_le, gt_iff_lt, Int.toNat_natCast, Int.reduceToNat, Int.cast_ofNat_Int, Int.natCast_nonneg, hx0, hx1, hne, hle, eq_self, Try.results13]
      exact fin_b rfl rfl
  · by_cases hbig : (1048576 : Int) < xs.length
    · refine acalls_of_body mix Try.func13 rfl fok13 (Nat.le_of_ble_eq_true rfl) ?_
      unfold abody
      simp only [absE, absL, absF, reduceCtorEq, ↓reduceIte, Nat.reduceEqDiff, Nat.reduceAdd, Nat.reduceLT, Nat.reduceMul, Nat.reduceSub, Nat.reduceLeDiff, Int.reduceLT, Int.reduceLE, Int.reduceEq, Option.isSome_some, implies_true, false_implies, Prod.mk.injEq, ne_eq, not_false_eq_true, not_true_eq_false, ge_iff_le, gt_iff_lt, Int.toNat_natCast, Int.reduceToNat, Int.cast_ofNat_Int, Int.natCast_nonneg, hbig, Try.f13, Try.results13]
      exact ⟨[], by simp, by simp, by simp [renV, renBlk, renSegs, renSg]⟩
    · have hk : xs.length ≤ 2 ^ 20 := by omega
      cases h : decide (hcd n0 t0 n1 t1 xs xs.length = 0)
      · have hx0 : ¬ ((1 + xs.length : Nat) : Int) < 0 := by omega
        have hx1 : (0 : Int) ≤ ((1 + xs.length : Nat) : Int) := by omega
        refine acalls_of_body mix Try.func13 rfl fok13 (Nat.le_of_ble_eq_true rfl) ?_
        unfold abody
        simp only [absE, absL, absF, reduceCtorEq, ↓reduceIte, Nat.reduceEqDiff, Nat.reduceAdd, Nat.reduceLT, Nat.reduceMul, Nat.reduceSub, Nat.reduceLeDiff, Int.reduceLT, Int.reduceLE, Int.reduceEq, Option.isSome_some, implies_true, false_implies, Prod.mk.injEq, ne_eq, not_false_eq_true, not_true_eq_false, ge_iff_le, gt_iff_lt, Int.toNat_natCast, Int.reduceToNat, Int.cast_ofNat_Int, Int.natCast_nonneg, hx0, hx1, hbig, Try.f13]
        first | (refine CallsX.none (toSquare_ok n0 t0 ht0.len) ?_) | (refine CallsVia.none (toSquare_ok n0 t0 ht0.len) ?_; rintro _ _ _ ⟨rfl, rfl, rfl⟩)
        simp only [absE, absL, absF, reduceCtorEq, ↓reduceIte, Nat.reduceEqDiff, Nat.reduceAdd, Nat.reduceLT, Nat.reduceMul, Nat.reduceSub, Nat.reduceLeDiff, Int.reduceLT, Int.reduceLE, Int.reduceEq, Option.isSome_some, implies_true, false_implies, Prod.mk.injEq, ne_eq, not_false_eq_true, not_true_eq_false, ge_iff_le, gt_iff_lt, Int.toNat_natCast, Int.reduceToNat, Int.cast_ofNat_Int, Int.natCast_nonneg, hx0, hx1]
        try refine And.intro (by decide +kernel) ?_
        first | (refine CallsX.none (toSquare_ok n1 t1 ht1.len) ?_) | (refine CallsVia.none (toSquare_ok n1 t1 ht1.len) ?_; rintro _ _ _ ⟨rfl, rfl, rfl⟩)
        simp only [absE, absL, absF, reduceCtorEq, ↓reduceIte, Nat.reduceEqDiff, Nat.reduceAdd, Nat.reduceLT, Nat.reduceMul, Nat.reduceSub, Nat.reduceLeDiff, Int.reduceLT, Int.reduceLE, Int.reduceEq, Option.isSome_some, implies_true, false_implies, Prod.mk.injEq, ne_eq, not_false_eq_true, not_true_eq_false, ge_iff_le, gt_iff_lt, Int.toNat_natCast, Int.reduceToNat, Int.cast_ofNat_Int, Int.natCast_nonneg, hx0, hx1]
        try refine And.intro (by decide +kernel) ?_
        first | (refine CallsX.args [(0, 0)] (toInts_ok xs.length xs false rfl hk) (by simp) (by simp [Mem.get]) rfl rfl ?_) | (refine CallsVia.args [(0, 0)] (toInts_ok xs.length xs false rfl hk) (by simp) (by simp [Mem.get]) rfl rfl ?_; rintro _ _ _ ⟨rfl, rfl, rfl⟩)
        simp only [absE, absL, absF, reduceCtorEq, ↓reduceIte, Nat.reduceEqDiff, Nat.reduceAdd, Nat.reduceLT, Nat.reduceMul, Nat.reduceSub, Nat.reduceLeDiff, Int.reduceLT, Int.reduceLE, Int.reduceEq, Option.isSome_some, implies_true, false_implies, Prod.mk.injEq, ne_eq, not_false_eq_true, not_true_eq_false, ge_iff_le, gt_iff_lt, Int.toNat_natCast, Int.reduceToNat, Int.cast_ofNat_Int, Int.natCast_nonneg, hx0, hx1]
        try refine And.intro (by decide +kernel) ?_
        first | (refine CallsX.args [(12, 0)] (specIm_no n0 t0 n1 t1 xs xs.length ht0 ht1 rfl hk h) (by simp) (by simp [Mem.get, assoc]) rfl rfl ?_) | (refine CallsVia.args [(12, 0)] (specIm_no n0 t0 n1 t1 xs xs.length ht0 ht1 rfl hk h) (by simp) (by simp [Mem.get, assoc]) rfl rfl ?_; rintro _ _ _ ⟨rfl, rfl, rfl⟩)
        simp only [absE, absL, absF, reduceCtorEq, ↓reduceIte, Nat.reduceEqDiff, Nat.reduceAdd, Nat.reduceLT, Nat.reduceMul, Nat.reduceSub, Nat.reduceLeDiff, Int.reduceLT, Int.reduceLE, Int.reduceEq, Option.isSome_some, implies_true, false_implies, Prod.mk.injEq, ne_eq, not_false_eq_true, not_true_eq_false, ge_iff_le, gt_iff_lt, Int.toNat_natCast, Int.reduceToNat, Int.cast_ofNat_Int, Int.natCast_nonneg, hx0, hx1]
        try refine And.intro (by decide +kernel) ?_
        first | (refine CallsX.args [(0, 0)] (toInts_ok xs.length xs false rfl hk) (by simp) (by simp [Mem.get]) rfl rfl ?_) | (refine CallsVia.args [(0, 0)] (toInts_ok xs.length xs false rfl hk) (by simp) (by simp [Mem.get]) rfl rfl ?_; rintro _ _ _ ⟨rfl, rfl, rfl⟩)
        simp only [absE, absL, absF, reduceCtorEq, ↓reduceIte, Nat.reduceEqDiff, Nat.reduceAdd, Nat.reduceLT, Nat.reduceMul, Nat.reduceSub, Nat.reduceLeDiff, Int.reduceLT, Int.reduceLE, Int.reduceEq, Option.isSome_some, implies_true, false_implies, Prod.mk.injEq, ne_eq, not_false_eq_true, not_true_eq_false, ge_iff_le, gt_iff_lt, Int.toNat_natCast, Int.reduceToNat, Int.cast_ofNat_Int, Int.natCast_nonneg, hx0, hx1]
        try refine And.intro (by decide +kernel) ?_
        first | (refine CallsX.none (toSquare_ok n0 t0 ht0.len) ?_) | (refine CallsVia.none (toSquare_ok n0 t0 ht0.len) ?_; rintro _ _ _ ⟨rfl, rfl, rfl⟩)
        simp only [absE, absL, absF, reduceCtorEq, ↓reduceIte, Nat.reduceEqDiff, Nat.reduceAdd, Nat.reduceLT, Nat.reduceMul, Nat.reduceSub, Nat.reduceLeDiff, Int.reduceLT, Int.reduceLE, Int.reduceEq, Option.isSome_some, implies_true, false_implies, Prod.mk.injEq, ne_eq, not_false_eq_true, not_true_eq_false, ge_iff_le, gt_iff_lt, Int.toNat_natCast, Int.reduceToNat, Int.cast_ofNat_Int, Int.natCast_nonneg, hx0, hx1]
        try refine And.intro (by decide +kernel) ?_
        first | (refine CallsX.none (toSquare_ok n1 t1 ht1.len) ?_) | (refine CallsVia.none (toSquare_ok n1 t1 ht1.len) ?_; rintro _ _ _ ⟨rfl, rfl, rfl⟩)
        simp only [absE, absL, absF, reduceCtorEq, ↓reduceIte, Nat.reduceEqDiff, Nat.reduceAdd, Nat.reduceLT, Nat.reduceMul, Nat.reduceSub, Nat.reduceLeDiff, Int.reduceLT, Int.reduceLE, Int.reduceEq, Option.isSome_some, implies_true, false_implies, Prod.mk.injEq, ne_eq, not_false_eq_true, not_true_eq_false, ge_iff_le, gt_iff_lt, Int.toNat_natCast, Int.reduceToNat, Int.cast_ofNat_Int, Int.natCast_nonneg, hx0, hx1]
        try refine And.intro (by decide +kernel) ?_
        first | (refine CallsX.args [(20, 0)] (implIm_no n0 t0 n1 t1 xs xs.length ht0 ht1 rfl hk h) (by simp) (by simp [Mem.get, assoc]) rfl rfl ?_) | (refine CallsVia.args [(20, 0)] (implIm_no n0 t0 n1 t1 xs xs.length ht0 ht1 rfl hk h) (by simp) (by simp [Mem.get, assoc]) rfl rfl ?_; rintro _ _ _ ⟨rfl, rfl, rfl⟩)
        simp only [absE, absL, absF, reduceCtorEq, ↓reduceIte, Nat.reduceEqDiff, Nat.reduceAdd, Nat.reduceLT, Nat.reduceMul, Nat.reduceSub, Nat.reduceLeDiff, Int.reduceLT, Int.reduceLE, Int.reduceEq, Option.isSome_some, implies_true, false_implies, Prod.mk.injEq, ne_eq, not_false_eq_true, not_true_eq_false, ge_iff_le, gt_iff_lt, Int.toNat_natCast, Int.reduceToNat, Int.cast_ofNat_Int, Int.natCast_nonneg, hx0, hx1]
        try refine And.intro (by decide +kernel) ?_
        refine CallsVia.none (eqInts_nil) ?_
        rintro _ _ _ ⟨rfl, rfl, rfl⟩
        simp only [absE, absL, absF, reduceCtorEq, ↓reduceIte, Nat.reduceEqDiff, Nat.reduceAdd, Nat.reduceLT, Nat.reduceMul, Nat.reduceSub, Nat.reduceLeDiff, Int.reduceLT, Int.reduceLE, Int.reduceEq, Option.isSome_some, implies_true, false_implies, Prod.mk.injEq, ne_eq, not_false_eq_true, not_true_eq_false, ge_iff_le, gt_iff_lt, Int.toNat_natCast, Int.reduceToNat, Int.cast_ofNat_Int, Int.natCast_nonneg, hx0, hx1, eq_self]
        try refine And.intro (by decide +kernel) ?_
        first | (refine CallsX.args [(0, 0)] (toInts_ok xs.length xs false rfl hk) (by simp) (by simp [Mem.get]) rfl rfl ?_) | (refine CallsVia.args [(0, 0)] (toInts_ok xs.length xs false rfl hk) (by simp) (by simp [Mem.get]) rfl rfl ?_; rintro _ _ _ ⟨rfl, rfl, rfl⟩)
        simp only [absE, absL, absF, reduceCtorEq, ↓reduceIte, Nat.reduceEqDiff, Nat.reduceAdd, Nat.reduceLT, Nat.reduceMul, Nat.reduceSub, Nat.reduceLeDiff, Int.reduceLT, Int.reduceLE, Int.reduceEq, Option.isSome_some, implies_true, false_implies, Prod.mk.injEq, ne_eq, not_false_eq_true, not_true_eq_false, ge_iff_le, gt_iff_lt, Int.toNat_natCast, Int.reduceToNat, Int.cast_ofNat_Int, Int.natCast_nonneg, hx0, hx1]
        try refine And.intro (by decide +kernel) ?_
        first | (refine CallsX.args [(20, 0), (44, 0)] (eqInts_ok xs.length xs rfl (by omega)) (by simp) (by simp [Mem.get, assoc]) rfl rfl ?_) | (refine CallsVia.args [(20, 0), (44, 0)] (eqInts_ok xs.length xs rfl (by omega)) (by simp) (by simp [Mem.get, assoc]) rfl rfl ?_; rintro _ _ _ ⟨rfl, rfl, rfl⟩)
        simp only [absE, absL, absF, reduceCtorEq, ↓reduceIte, Nat.reduceEqDiff, Nat.reduceAdd, Nat.reduceLT, Nat.reduceMul, Nat.reduceSub, Nat.reduceLeDiff, Int.reduceLT, Int.reduceLE, Int.reduceEq, Option.isSome_some, implies_true, false_implies, Prod.mk.injEq, ne_eq, not_false_eq_true, not_true_eq_false, ge_iff_le, gt_iff_lt, Int.toNat_natCast, Int.reduceToNat, Int.cast_ofNat_Int, Int.natCast_nonneg, hx0, hx1]
        try refine And.intro (by decide +kernel) ?_
        first | (refine CallsX.args [(20, 0)] (markInts_ok xs.length 1 xs rfl (by omega) (by omega)) (by simp) (by simp [Mem.get, assoc]) rfl rfl ?_) | (refine CallsVia.args [(20, 0)] (markInts_ok xs.length 1 xs rfl (by omega) (by omega)) (by simp) (by simp [Mem.get, assoc]) rfl rfl ?_; rintro _ _ _ ⟨rfl, rfl, rfl⟩)
        simp only [absE, absL, absF, reduceCtorEq, ↓reduceIte, Nat.reduceEqDiff, Nat.reduceAdd, Nat.reduceLT, Nat.reduceMul, Nat.reduceSub, Nat.reduceLeDiff, Int.reduceLT, Int.reduceLE, Int.reduceEq, Option.isSome_some, implies_true, false_implies, Prod.mk.injEq, ne_eq, not_false_eq_true, not_true_eq_false, ge_iff_le, gt_iff_lt, Int.toNat_natCast, Int.reduceToNat, Int.cast_ofNat_Int, Int.natCast_nonneg, hx0, hx1]
        try refine And.intro (by decide +kernel) ?_
        refine CallsVia.none (eqInts_nil) ?_
        rintro _ _ _ ⟨rfl, rfl, rfl⟩
        simp only [absE, absL, absF, reduceCtorEq, ↓reduceIte, Nat.reduceEqDiff, Nat.reduceAdd, Nat.reduceLT, Nat.reduceMul, Nat.reduceSub, Nat.reduceLeDiff, Int.reduceLT, Int.reduceLE, Int.reduceEq, Option.isSome_some, implies_true, false_implies, Prod.mk.injEq, ne_eq, not_false_eq_true, not_true_eq_false, ge_iff_le, gt_iff_lt, Int.toNat_natCast, Int.reduceToNat, Int.cast_ofNat_Int, Int.natCast_nonneg, hx0, hx1, eq_self]
        try refine And.intro (by decide +kernel) ?_
        refine CallsVia.none (markInts_nil 1) ?_
        rintro _ _ _ ⟨rfl, rfl, rfl⟩
        simp only [absE, absL, absF, reduceCtorEq, ↓reduceIte, Nat.reduceEqDiff, Nat.reduceAdd, Nat.reduceLT, Nat.reduceMul, Nat.reduceSub, Nat.reduceLeDiff, Int.reduceLT, Int.reduceLE, Int.reduceEq, Option.isSome_some, implies_true, false_implies, Prod.mk.injEq, ne_eq, not_false_eq_true, not_true_eq_false, ge_iff_le, gt_iff_lt, Int.toNat_natCast, Int.reduceToNat, Int.cast_ofNat_Int, Int.natCast_nonneg, hx0, hx1]
        try refine And.intro (by decide +kernel) ?_
        refine CallsVia.none (heldInts_nil 1) ?_
        rintro _ _ _ ⟨rfl, rfl, rfl⟩
        simp only [absE, absL, absF, reduceCtorEq, ↓reduceIte, Nat.reduceEqDiff, Nat.reduceAdd, Nat.reduceLT, Nat.reduceMul, Nat.reduceSub, Nat.reduceLeDiff, Int.reduceLT, Int.reduceLE, Int.reduceEq, Option.isSome_some, implies_true, false_implies, Prod.mk.injEq, ne_eq, not_false_eq_true, not_true_eq_false, ge_iff_le, gt_iff_lt, Int.toNat_natCast, Int.reduceToNat, Int.cast_ofNat_Int, Int.natCast_nonneg, hx0, hx1, eq_self]
        try refine And.intro (by decide +kernel) ?_
        first | (refine CallsX.none (toSquare_ok n0 t0 ht0.len) ?_) | (refine CallsVia.none (toSquare_ok n0 t0 ht0.len) ?_; rintro _ _ _ ⟨rfl, rfl, rfl⟩)
        simp only [absE, absL, absF, reduceCtorEq, ↓reduceIte, Nat.reduceEqDiff, Nat.reduceAdd, Nat.reduceLT, Nat.reduceMul, Nat.reduceSub, Nat.reduceLeDiff, Int.reduceLT, Int.reduceLE, Int.reduceEq, Option.isSome_some, implies_true, false_implies, Prod.mk.injEq, ne_eq, not_false_eq_true, not_true_eq_false, ge_iff_le, gt_iff_lt, Int.toNat_natCast, Int.reduceToNat, Int.cast_ofNat_Int, Int.natCast_nonneg, hx0, hx1]
        try refine And.intro (by decide +kernel) ?_
        first | (refine CallsX.none (toSquare_ok n1 t1 ht1.len) ?_) | (refine CallsVia.none (toSquare_ok n1 t1 ht1.len) ?_; rintro _ _ _ ⟨rfl, rfl, rfl⟩)
        simp only [absE, absL, absF, reduceCtorEq, ↓reduceIte, Nat.reduceEqDiff, Nat.reduceAdd, Nat.reduceLT, Nat.reduceMul, Nat.reduceSub, Nat.reduceLeDiff, Int.reduceLT, Int.reduceLE, Int.reduceEq, Option.isSome_some, implies_true, false_implies, Prod.mk.injEq, ne_eq, not_false_eq_true, not_true_eq_false, ge_iff_le, gt_iff_lt, Int.toNat_natCast, Int.reduceToNat, Int.cast_ofNat_Int, Int.natCast_nonneg, hx0, hx1]
        try refine And.intro (by decide +kernel) ?_
        first | (refine CallsX.args [(0, 0)] (toInts_ok xs.length xs false rfl hk) (by simp) (by simp [Mem.get]) rfl rfl ?_) | (refine CallsVia.args [(0, 0)] (toInts_ok xs.length xs false rfl hk) (by simp) (by simp [Mem.get]) rfl rfl ?_; rintro _ _ _ ⟨rfl, rfl, rfl⟩)
        simp only [absE, absL, absF, reduceCtorEq, ↓reduceIte, Nat.reduceEqDiff, Nat.reduceAdd, Nat.reduceLT, Nat.reduceMul, Nat.reduceSub, Nat.reduceLeDiff, Int.reduceLT, Int.reduceLE, Int.reduceEq, Option.isSome_some, implies_true, false_implies, Prod.mk.injEq, ne_eq, not_false_eq_true, not_true_eq_false, ge_iff_le, gt_iff_lt, Int.toNat_natCast, Int.reduceToNat, Int.cast_ofNat_Int, Int.natCast_nonneg, hx0, hx1]
        try refine And.intro (by decide +kernel) ?_
        first | (refine CallsX.args [(85, 0)] (implIm_no n0 t0 n1 t1 xs xs.length ht0 ht1 rfl hk h) (by simp) (by simp [Mem.get, assoc]) rfl rfl ?_) | (refine CallsVia.args [(85, 0)] (implIm_no n0 t0 n1 t1 xs xs.length ht0 ht1 rfl hk h) (by simp) (by simp [Mem.get, assoc]) rfl rfl ?_; rintro _ _ _ ⟨rfl, rfl, rfl⟩)
        simp only [absE, absL, absF, reduceCtorEq, ↓reduceIte, Nat.reduceEqDiff, Nat.reduceAdd, Nat.reduceLT, Nat.reduceMul, Nat.reduceSub, Nat.reduceLeDiff, Int.reduceLT, Int.reduceLE, Int.reduceEq, Option.isSome_some, implies_true, false_implies, Prod.mk.injEq, ne_eq, not_false_eq_true, not_true_eq_false, ge_iff_le, gt_iff_lt, Int.toNat_natCast, Int.reduceToNat, Int.cast_ofNat_Int, Int.natCast_nonneg, hx0, hx1]
        try refine And.intro (by decide +kernel) ?_
        refine CallsVia.none (eqInts_nil) ?_
        rintro _ _ _ ⟨rfl, rfl, rfl⟩
        simp only [absE, absL, absF, reduceCtorEq, ↓reduceIte, Nat.reduceEqDiff, Nat.reduceAdd, Nat.reduceLT, Nat.reduceMul, Nat.reduceSub, Nat.reduceLeDiff, Int.reduceLT, Int.reduceLE, Int.reduceEq, Option.isSome_some, implies_true, false_implies, Prod.mk.injEq, ne_eq, not_false_eq_true, not_true_eq_false, ge_iff_le, gt_iff_lt, Int.toNat_natCast, Int.reduceToNat, Int.cast_ofNat_Int, Int.natCast_nonneg, hx0, hx1, eq_self]
        try refine And.intro (by decide +kernel) ?_
        refine CallsVia.none (heldInts_nil 1) ?_
        rintro _ _ _ ⟨rfl, rfl, rfl⟩
        simp only [absE, absL, absF, reduceCtorEq, ↓reduceIte, Nat.reduceEqDiff, Nat.reduceAdd, Nat.reduceLT, Nat.reduceMul, Nat.reduceSub, Nat.reduceLeDiff, Int.reduceLT, Int.reduceLE, Int.reduceEq, Option.isSome_some, implies_true, false_implies, Prod.mk.injEq, ne_eq, not_false_eq_true, not_true_eq_false, ge_iff_le, gt_iff_lt, Int.toNat_natCast, Int.reduceToNat, Int.cast_ofNat_Int, Int.natCast_nonneg, hx0, hx1, eq_self]
        try refine And.intro (by decide +kernel) ?_
        try simp only [absE, absL, absF, reduceCtorEq, ↓reduceIte, Nat.reduceEqDiff, Nat.reduceAdd, Nat.reduceLT, Nat.reduceMul, Nat.reduceSub, Nat.reduceLeDiff, Int.reduceLT, Int.reduceLE, Int.reduceEq, Option.isSome_some, implies_true, false_implies, Prod.mk.injEq, ne_eq, not_false_eq_true, not_true_eq_false, ge_iff_le, gt_iff_lt, Int.toNat_natCast, Int.reduceToNat, Int.cast_ofNat_Int, Int.natCast_nonneg, hx0, hx1, eq_self, Try.results13]
        exact ⟨[], by simp, by simp, by simp [renV, renBlk, renSegs, renSg]⟩
      · have hx0 : ¬ ((1 + xs.length : Nat) : Int) < 0 := by omega
        have hx1 : (0 : Int) ≤ ((1 + xs.length : Nat) : Int) := by omega
        have hlen : (imL n1 xs xs.length).length < 2 ^ 40 := (imL_len h)
        have hne : ¬((1 + (imL n1 xs xs.length).length : Nat) : Int) < 0 := by omega
        have hle : (0 : Int) ≤ ((1 + (imL n1 xs xs.length).length : Nat) : Int) := by omega
        refine acalls_of_body mix Try.func13 rfl fok13 (Nat.le_of_ble_eq_true rfl) ?_
        unfold abody
        simp only [absE, absL, absF, reduceCtorEq, ↓reduceIte, Nat.reduceEqDiff, Nat.reduceAdd, Nat.reduceLT, Nat.reduceMul, Nat.reduceSub, Nat.reduceLeDiff, Int.reduceLT, Int.reduceLE, Int.reduceEq, Option.isSome_some, implies_true, false_implies, Prod.mk.injEq, ne_eq, not_false_eq_true, not_true_eq_false, ge_iff_le, gt_iff_lt, Int.toNat_natCast, Int.reduceToNat, Int.cast_ofNat_Int, Int.natCast_nonneg, hx0, hx1, hne, hle, hbig, Try.f13]
        first | (refine CallsX.none (toSquare_ok n0 t0 ht0.len) ?_) | (refine CallsVia.none (toSquare_ok n0 t0 ht0.len) ?_; rintro _ _ _ ⟨rfl, rfl, rfl⟩)
        simp only [absE, absL, absF, reduceCtorEq, ↓reduceIte, Nat.reduceEqDiff, Nat.reduceAdd, Nat.reduceLT, Nat.reduceMul, Nat.reduceSub, Nat.reduceLeDiff, Int.reduceLT, Int.reduceLE, Int.reduceEq, Option.isSome_some, implies_true, false_implies, Prod.mk.injEq, ne_eq, not_false_eq_true, not_true_eq_false, ge_iff_le, gt_iff_lt, Int.toNat_natCast, Int.reduceToNat, Int.cast_ofNat_Int, Int.natCast_nonneg, hx0, hx1, hne, hle]
        try refine And.intro (by decide +kernel) ?_
        first | (refine CallsX.none (toSquare_ok n1 t1 ht1.len) ?_) | (refine CallsVia.none (toSquare_ok n1 t1 ht1.len) ?_; rintro _ _ _ ⟨rfl, rfl, rfl⟩)
        simp only [absE, absL, absF, reduceCtorEq, ↓reduceIte, Nat.reduceEqDiff, Nat.reduceAdd, Nat.reduceLT, Nat.reduceMul, Nat.reduceSub, Nat.reduceLeDiff, Int.reduceLT, Int.reduceLE, Int.reduceEq, Option.isSome_some, implies_true, false_implies, Prod.mk.injEq, ne_eq, not_false_eq_true, not_true_eq_false, ge_iff_le, gt_iff_lt, Int.toNat_natCast, Int.reduceToNat, Int.cast_ofNat_Int, Int.natCast_nonneg, hx0, hx1, hne, hle]
        try refine And.intro (by decide +kernel) ?_
        first | (refine CallsX.args [(0, 0)] (toInts_ok xs.length xs false rfl hk) (by simp) (by simp [Mem.get]) rfl rfl ?_) | (refine CallsVia.args [(0, 0)] (toInts_ok xs.length xs false rfl hk) (by simp) (by simp [Mem.get]) rfl rfl ?_; rintro _ _ _ ⟨rfl, rfl, rfl⟩)
        simp only [absE, absL, absF, reduceCtorEq, ↓reduceIte, Nat.reduceEqDiff, Nat.reduceAdd, Nat.reduceLT, Nat.reduceMul, Nat.reduceSub, Nat.reduceLeDiff, Int.reduceLT, Int.reduceLE, Int.reduceEq, Option.isSome_some, implies_true, false_implies, Prod.mk.injEq, ne_eq, not_false_eq_true, not_true_eq_false, ge_iff_le, gt_iff_lt, Int.toNat_natCast, Int.reduceToNat, Int.cast_ofNat_Int, Int.natCast_nonneg, hx0, hx1, hne, hle]
        try refine And.intro (by decide +kernel) ?_
        first | (refine CallsX.args [(12, 0)] (specIm_yes n0 t0 n1 t1 xs xs.length ht0 ht1 rfl hk h) (by simp) (by simp [Mem.get, assoc]) rfl rfl ?_) | (refine CallsVia.args [(12, 0)] (specIm_yes n0 t0 n1 t1 xs xs.length ht0 ht1 rfl hk h) (by simp) (by simp [Mem.get, assoc]) rfl rfl ?_; rintro _ _ _ ⟨rfl, rfl, rfl⟩)
        simp only [absE, absL, absF, reduceCtorEq, ↓reduceIte, Nat.reduceEqDiff, Nat.reduceAdd, Nat.reduceLT, Nat.reduceMul, Nat.reduceSub, Nat.reduceLeDiff, Int.reduceLT, Int.reduceLE, Int.reduceEq, Option.isSome_some, implies_true, false_implies, Prod.mk.injEq, ne_eq, not_false_eq_true, not_true_eq_false, ge_iff_le, gt_iff_lt, Int.toNat_natCast, Int.reduceToNat, Int.cast_ofNat_Int, Int.natCast_nonneg, hx0, hx1, hne, hle]
        try refine And.intro (by decide +kernel) ?_
        first | (refine CallsX.args [(0, 0)] (toInts_ok xs.length xs false rfl hk) (by simp) (by simp [Mem.get]) rfl rfl ?_) | (refine CallsVia.args [(0, 0)] (toInts_ok xs.length xs false rfl hk) (by simp) (by simp [Mem.get]) rfl rfl ?_; rintro _ _ _ ⟨rfl, rfl, rfl⟩)
        simp only [absE, absL, absF, reduceCtorEq, ↓reduceIte, Nat.reduceEqDiff, Nat.reduceAdd, Nat.reduceLT, Nat.reduceMul, Nat.reduceSub, Nat.reduceLeDiff, Int.reduceLT, Int.reduceLE, Int.reduceEq, Option.isSome_some, implies_true, false_implies, Prod.mk.injEq, ne_eq, not_false_eq_true, not_true_eq_false, ge_iff_le, gt_iff_lt, Int.toNat_natCast, Int.reduceToNat, Int.cast_ofNat_Int, Int.natCast_nonneg, hx0, hx1, hne, hle]
        try refine And.intro (by decide +kernel) ?_
        first | (refine CallsX.none (toSquare_ok n0 t0 ht0.len) ?_) | (refine CallsVia.none (toSquare_ok n0 t0 ht0.len) ?_; rintro _ _ _ ⟨rfl, rfl, rfl⟩)
        simp only [absE, absL, absF, reduceCtorEq, ↓reduceIte, Nat.reduceEqDiff, Nat.reduceAdd, Nat.reduceLT, Nat.reduceMul, Nat.reduceSub, Nat.reduceLeDiff, Int.reduceLT, Int.reduceLE, Int.reduceEq, Option.isSome_some, implies_true, false_implies, Prod.mk.injEq, ne_eq, not_false_eq_true, not_true_eq_false, ge_iff_le, gt_iff_lt, Int.toNat_natCast, Int.reduceToNat, Int.cast_ofNat_Int, Int.natCast_nonneg, hx0, hx1, hne, hle]
        try refine And.intro (by decide +kernel) ?_
        first | (refine CallsX.none (toSquare_ok n1 t1 ht1.len) ?_) | (refine CallsVia.none (toSquare_ok n1 t1 ht1.len) ?_; rintro _ _ _ ⟨rfl, rfl, rfl⟩)
        simp only [absE, absL, absF, reduceCtorEq, ↓reduceIte, Nat.reduceEqDiff, Nat.reduceAdd, Nat.reduceLT, Nat.reduceMul, Nat.reduceSub, Nat.reduceLeDiff, Int.reduceLT, Int.reduceLE, Int.reduceEq, Option.isSome_some, implies_true, false_implies, Prod.mk.injEq, ne_eq, not_false_eq_true, not_true_eq_false, ge_iff_le, gt_iff_lt, Int.toNat_natCast, Int.reduceToNat, Int.cast_ofNat_Int, Int.natCast_nonneg, hx0, hx1, hne, hle]
        try refine And.intro (by decide +kernel) ?_
        first | (refine CallsX.args [(20, 0)] (implIm_yes n0 t0 n1 t1 xs xs.length ht0 ht1 rfl hk h) (by simp) (by simp [Mem.get, assoc]) rfl rfl ?_) | (refine CallsVia.args [(20, 0)] (implIm_yes n0 t0 n1 t1 xs xs.length ht0 ht1 rfl hk h) (by simp) (by simp [Mem.get, assoc]) rfl rfl ?_; rintro _ _ _ ⟨rfl, rfl, rfl⟩)
        simp only [absE, absL, absF, reduceCtorEq, ↓reduceIte, Nat.reduceEqDiff, Nat.reduceAdd, Nat.reduceLT, Nat.reduceMul, Nat.reduceSub, Nat.reduceLeDiff, Int.reduceLT, Int.reduceLE, Int.reduceEq, Option.isSome_some, implies_true, false_implies, Prod.mk.injEq, ne_eq, not_false_eq_true, not_true_eq_false, ge_iff_le, gt_iff_lt, Int.toNat_natCast, Int.reduceToNat, Int.cast_ofNat_Int, Int.natCast_nonneg, hx0, hx1, hne, hle]
        try refine And.intro (by decide +kernel) ?_
        first | (refine CallsX.args [(27, 0), (13, 0)] (eqInts_ok _ _ rfl hlen) (by simp) (by simp [Mem.get, assoc]) rfl rfl ?_) | (refine CallsVia.args [(27, 0), (13, 0)] (eqInts_ok _ _ rfl hlen) (by simp) (by simp [Mem.get, assoc]) rfl rfl ?_; rintro _ _ _ ⟨rfl, rfl, rfl⟩)
        simp only [absE, absL, absF, reduceCtorEq, ↓reduceIte, Nat.reduceEqDiff, Nat.reduceAdd, Nat.reduceLT, Nat.reduceMul, Nat.reduceSub, Nat.reduceLeDiff, Int.reduceLT, Int.reduceLE, Int.reduceEq, Option.isSome_some, implies_true, false_implies, Prod.mk.injEq, ne_eq, not_false_eq_true, not_true_eq_false, ge_iff_le, gt_iff_lt, Int.toNat_natCast, Int.reduceToNat, Int.cast_ofNat_Int, Int.natCast_nonneg, hx0, hx1, hne, hle, eq_self]
        try refine And.intro (by decide +kernel) ?_
        first | (refine CallsX.args [(0, 0)] (toInts_ok xs.length xs false rfl hk) (by simp) (by simp [Mem.get]) rfl rfl ?_) | (refine CallsVia.args [(0, 0)] (toInts_ok xs.length xs false rfl hk) (by simp) (by simp [Mem.get]) rfl rfl ?_; rintro _ _ _ ⟨rfl, rfl, rfl⟩)
        simp only [absE, absL, absF, reduceCtorEq, ↓reduceIte, Nat.reduceEqDiff, Nat.reduceAdd, Nat.reduceLT, Nat.reduceMul, Nat.reduceSub, Nat.reduceLeDiff, Int.reduceLT, Int.reduceLE, Int.reduceEq, Option.isSome_some, implies_true, false_implies, Prod.mk.injEq, ne_eq, not_false_eq_true, not_true_eq_false, ge_iff_le, gt_iff_lt, Int.toNat_natCast, Int.reduceToNat, Int.cast_ofNat_Int, Int.natCast_nonneg, hx0, hx1, hne, hle]
        try refine And.intro (by decide +kernel) ?_
        first | (refine CallsX.args [(20, 0), (44, 0)] (eqInts_ok xs.length xs rfl (by omega)) (by simp) (by simp [Mem.get, assoc]) rfl rfl ?_) | (refine CallsVia.args [(20, 0), (44, 0)] (eqInts_ok xs.length xs rfl (by omega)) (by simp) (by simp [Mem.get, assoc]) rfl rfl ?_; rintro _ _ _ ⟨rfl, rfl, rfl⟩)
        simp only [absE, absL, absF, reduceCtorEq, ↓reduceIte, Nat.reduceEqDiff, Nat.reduceAdd, Nat.reduceLT, Nat.reduceMul, Nat.reduceSub, Nat.reduceLeDiff, Int.reduceLT, Int.reduceLE, Int.reduceEq, Option.isSome_some, implies_true, false_implies, Prod.mk.injEq, ne_eq, not_false_eq_true, not_true_eq_false, ge_iff_le, gt_iff_lt, Int.toNat_natCast, Int.reduceToNat, Int.cast_ofNat_Int, Int.natCast_nonneg, hx0, hx1, hne, hle]
        try refine And.intro (by decide +kernel) ?_
        first | (refine CallsX.args [(20, 0)] (markInts_ok xs.length 1 xs rfl (by omega) (by omega)) (by simp) (by simp [Mem.get, assoc]) rfl rfl ?_) | (refine CallsVia.args [(20, 0)] (markInts_ok xs.length 1 xs rfl (by omega) (by omega)) (by simp) (by simp [Mem.get, assoc]) rfl rfl ?_; rintro _ _ _ ⟨rfl, rfl, rfl⟩)
        simp only [absE, absL, absF, reduceCtorEq, ↓reduceIte, Nat.reduceEqDiff, Nat.reduceAdd, Nat.reduceLT, Nat.reduceMul, Nat.reduceSub, Nat.reduceLeDiff, Int.reduceLT, Int.reduceLE, Int.reduceEq, Option.isSome_some, implies_true, false_implies, Prod.mk.injEq, ne_eq, not_false_eq_true, not_true_eq_false, ge_iff_le, gt_iff_lt, Int.toNat_natCast, Int.reduceToNat, Int.cast_ofNat_Int, Int.natCast_nonneg, hx0, hx1, hne, hle]
        try refine And.intro (by decide +kernel) ?_
        first | (refine CallsX.args [(27, 0), (13, 0)] (eqInts_ok _ _ rfl hlen) (by simp) (by simp [Mem.get, assoc]) rfl rfl ?_) | (refine CallsVia.args [(27, 0), (13, 0)] (eqInts_ok _ _ rfl hlen) (by simp) (by simp [Mem.get, assoc]) rfl rfl ?_; rintro _ _ _ ⟨rfl, rfl, rfl⟩)
        simp only [absE, absL, absF, reduceCtorEq, ↓reduceIte, Nat.reduceEqDiff, Nat.reduceAdd, Nat.reduceLT, Nat.reduceMul, Nat.reduceSub, Nat.reduceLeDiff, Int.reduceLT, Int.reduceLE, Int.reduceEq, Option.isSome_some, implies_true, false_implies, Prod.mk.injEq, ne_eq, not_false_eq_true, not_true_eq_false, ge_iff_le, gt_iff_lt, Int.toNat_natCast, Int.reduceToNat, Int.cast_ofNat_Int, Int.natCast_nonneg, hx0, hx1, hne, hle, eq_self]
        try refine And.intro (by decide +kernel) ?_
        first | (refine CallsX.args [(27, 0)] (markInts_ok _ 1 _ rfl hlen (by omega)) (by simp) (by simp [Mem.get, assoc]) rfl rfl ?_) | (refine CallsVia.args [(27, 0)] (markInts_ok _ 1 _ rfl hlen (by omega)) (by simp) (by simp [Mem.get, assoc]) rfl rfl ?_; rintro _ _ _ ⟨rfl, rfl, rfl⟩)
        simp only [absE, absL, absF, reduceCtorEq, ↓reduceIte, Nat.reduceEqDiff, Nat.reduceAdd, Nat.reduceLT, Nat.reduceMul, Nat.reduceSub, Nat.reduceLeDiff, Int.reduceLT, Int.reduceLE, Int.reduceEq, Option.isSome_some, implies_true, false_implies, Prod.mk.injEq, ne_eq, not_false_eq_true, not_true_eq_false, ge_iff_le, gt_iff_lt, Int.toNat_natCast, Int.reduceToNat, Int.cast_ofNat_Int, Int.natCast_nonneg, hx0, hx1, hne, hle]
        try refine And.intro (by decide +kernel) ?_
        first | (refine CallsX.args [(27, 0)] (heldInts_ok _ 1 hlen (by omega)) (by simp) (by simp [Mem.get, assoc]) rfl rfl ?_) | (refine CallsVia.args [(27, 0)] (heldInts_ok _ 1 hlen (by omega)) (by simp) (by simp [Mem.get, assoc]) rfl rfl ?_; rintro _ _ _ ⟨rfl, rfl, rfl⟩)
        simp only [absE, absL, absF, reduceCtorEq, ↓reduceIte, Nat.reduceEqDiff, Nat.reduceAdd, Nat.reduceLT, Nat.reduceMul, Nat.reduceSub, Nat.reduceLeDiff, Int.reduceLT, Int.reduceLE, Int.reduceEq, Option.isSome_some, implies_true, false_implies, Prod.mk.injEq, ne_eq, not_false_eq_true, not_true_eq_false, ge_iff_le, gt_iff_lt, Int.toNat_natCast, Int.reduceToNat, Int.cast_ofNat_Int, Int.natCast_nonneg, hx0, hx1, hne, hle, eq_self]
        try refine And.intro (by decide +kernel) ?_
        first | (refine CallsX.none (toSquare_ok n0 t0 ht0.len) ?_) | (refine CallsVia.none (toSquare_ok n0 t0 ht0.len) ?_; rintro _ _ _ ⟨rfl, rfl, rfl⟩)
        simp only [absE, absL, absF, reduceCtorEq, ↓reduceIte, Nat.reduceEqDiff, Nat.reduceAdd, Nat.reduceLT, Nat.reduceMul, Nat.reduceSub, Nat.reduceLeDiff, Int.reduceLT, Int.reduceLE, Int.reduceEq, Option.isSome_some, implies_true, false_implies, Prod.mk.injEq, ne_eq, not_false_eq_true, not_true_eq_false, ge_iff_le, gt_iff_lt, Int.toNat_natCast, Int.reduceToNat, Int.cast_ofNat_Int, Int.natCast_nonneg, hx0, hx1, hne, hle]
        try refine And.intro (by decide +kernel) ?_
        first | (refine CallsX.none (toSquare_ok n1 t1 ht1.len) ?_) | (refine CallsVia.none (toSquare_ok n1 t1 ht1.len) ?_; rintro _ _ _ ⟨rfl, rfl, rfl⟩)
        simp only [absE, absL, absF, reduceCtorEq, ↓reduceIte, Nat.reduceEqDiff, Nat.reduceAdd, Nat.reduceLT, Nat.reduceMul, Nat.reduceSub, Nat.reduceLeDiff, Int.reduceLT, Int.reduceLE, Int.reduceEq, Option.isSome_some, implies_true, false_implies, Prod.mk.injEq, ne_eq, not_false_eq_true, not_true_eq_false, ge_iff_le, gt_iff_lt, Int.toNat_natCast, Int.reduceToNat, Int.cast_ofNat_Int, Int.natCast_nonneg, hx0, hx1, hne, hle]
        try refine And.intro (by decide +kernel) ?_
        first | (refine CallsX.args [(0, 0)] (toInts_ok xs.length xs false rfl hk) (by simp) (by simp [Mem.get]) rfl rfl ?_) | (refine CallsVia.args [(0, 0)] (toInts_ok xs.length xs false rfl hk) (by simp) (by simp [Mem.get]) rfl rfl ?_; rintro _ _ _ ⟨rfl, rfl, rfl⟩)
        simp only [absE, absL, absF, reduceCtorEq, ↓reduceIte, Nat.reduceEqDiff, Nat.reduceAdd, Nat.reduceLT, Nat.reduceMul, Nat.reduceSub, Nat.reduceLeDiff, Int.reduceLT, Int.reduceLE, Int.reduceEq, Option.isSome_some, implies_true, false_implies, Prod.mk.injEq, ne_eq, not_false_eq_true, not_true_eq_false, ge_iff_le, gt_iff_lt, Int.toNat_natCast, Int.reduceToNat, Int.cast_ofNat_Int, Int.natCast_nonneg, hx0, hx1, hne, hle]
        try refine And.intro (by decide +kernel) ?_
        first | (refine CallsX.args [(85, 0)] (implIm_yes n0 t0 n1 t1 xs xs.length ht0 ht1 rfl hk h) (by simp) (by simp [Mem.get, assoc]) rfl rfl ?_) | (refine CallsVia.args [(85, 0)] (implIm_yes n0 t0 n1 t1 xs xs.length ht0 ht1 rfl hk h) (by simp) (by simp [Mem.get, assoc]) rfl rfl ?_; rintro _ _ _ ⟨rfl, rfl, rfl⟩)
        simp only [absE, absL, absF, reduceCtorEq, ↓reduceIte, Nat.reduceEqDiff, Nat.reduceAdd, Nat.reduceLT, Nat.reduceMul, Nat.reduceSub, Nat.reduceLeDiff, Int.reduceLT, Int.reduceLE, Int.reduceEq, Option.isSome_some, implies_true, false_implies, Prod.mk.injEq, ne_eq, not_false_eq_true, not_true_eq_false, ge_iff_le, gt_iff_lt, Int.toNat_natCast, Int.reduceToNat, Int.cast_ofNat_Int, Int.natCast_nonneg, hx0, hx1, hne, hle]
        try refine And.intro (by decide +kernel) ?_
        first | (refine CallsX.args [(86, 0), (13, 0)] (eqInts_ok _ _ rfl hlen) (by simp) (by simp [Mem.get, assoc]) rfl rfl ?_) | (refine CallsVia.args [(86, 0), (13, 0)] (eqInts_ok _ _ rfl hlen) (by simp) (by simp [Mem.get, assoc]) rfl rfl ?_; rintro _ _ _ ⟨rfl, rfl, rfl⟩)
        simp only [absE, absL, absF, reduceCtorEq, ↓reduceIte, Nat.reduceEqDiff, Nat.reduceAdd, Nat.reduceLT, Nat.reduceMul, Nat.reduceSub, Nat.reduceLeDiff, Int.reduceLT, Int.reduceLE, Int.reduceEq, Option.isSome_some, implies_true, false_implies, Prod.mk.injEq, ne_eq, not_false_eq_true, not_true_eq_false, ge_iff_le, gt_iff_lt, Int.toNat_natCast, Int.reduceToNat, Int.cast_ofNat_Int, Int.natCast_nonneg, hx0, hx1, hne, hle, eq_self]
        try refine And.intro (by decide +kernel) ?_
        first | (refine CallsX.args [(27, 0)] (heldInts_ok _ 1 hlen (by omega)) (by simp) (by simp [Mem.get, assoc]) rfl rfl ?_) | (refine CallsVia.args [(27, 0)] (heldInts_ok _ 1 hlen (by omega)) (by simp) (by simp [Mem.get, assoc]) rfl rfl ?_; rintro _ _ _ ⟨rfl, rfl, rfl⟩)
        simp only [absE, absL, absF, reduceCtorEq, ↓reduceIte, Nat.reduceEqDiff, Nat.reduceAdd, Nat.reduceLT, Nat.reduceMul, Nat.reduceSub, Nat.reduceLeDiff, Int.reduceLT, Int.reduceLE, Int.reduceEq, Option.isSome_some, implies_true, false_implies, Prod.mk.injEq, ne_eq, not_false_eq_true, not_true_eq_false, ge_iff_le, gt_iff_lt, Int.toNat_natCast, Int.reduceToNat, Int.cast_ofNat_Int, Int.natCast_nonneg, hx0, hx1, hne, hle, eq_self]
        try refine And.intro (by decide +kernel) ?_
        try simp only [absE, absL, absF, reduceCtorEq, ↓reduceIte, Nat.reduceEqDiff, Nat.reduceAdd, Nat.reduceLT, Nat.reduceMul, Nat.reduceSub, Nat.reduceLeDiff, Int.reduceLT, Int.reduceLE, Int.reduceEq, Option.isSome_some, implies_true, false_implies, Prod.mk.injEq, ne_eq, not_false_eq_true, not_true_eq_false, ge_iff_le, gt_iff_lt, Int.toNat_natCast, Int.reduceToNat, Int.cast_ofNat_Int, Int.natCast_nonneg, hx0, hx1, hne, hle, eq_self, Try.results13]
        exact ⟨[], by simp, by simp, by simp [renV, renBlk, renSegs, renSg]⟩

end Go.Proofs.Ytnophcdinideaaa
