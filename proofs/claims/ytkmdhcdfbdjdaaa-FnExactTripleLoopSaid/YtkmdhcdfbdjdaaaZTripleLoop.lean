/-
Contracts of functions of the given program, by the abstract walk.
-/
import Derived.Test.YtkmdhcdfbdjdaaaAbsY
import Derived.Test.YtkmdhcdfbdjdaaaRe
import Derived.Test.YtkmdhcdfbdjdaaaJj
import Derived.Test.YtkmdhcdfbdjdaaaCc
namespace Go.Proofs.Ytkmdhcdfbdjdaaa
open Go Go.Abs
set_option linter.unusedVariables false
set_option linter.unusedSectionVars false
set_option linter.unusedSimpArgs false
set_option maxRecDepth 100000
set_option maxHeartbeats 1000000 in
theorem lawTripleLoop_ok (k0 : Int) (A : Atom) (ms : List Blk) (LL : LLs) (hk0 : -2 ^ 63 ≤ k0 ∧ k0 < 2 ^ 63) (hA : LLOf A ms LL) (hm0 : LL.length ≤ maxLen) (hl0 : ∀ i, i < LL.length → (at_ LL i).length ≤ maxLen) : ACalls Try.prog 5 [.i .i64 k0, .ref A] ms (fun v ms' ns => v = .b true ∧ ms' = ms ∧ ns = []) := by
  have hst : StMs ms := LLOf.st hA
  have hfin : ms.map (renBlk (renFin [])) = ms := hst _ fun k _ => renFin_zero k
  refine acalls_of_body mix Try.func5 rfl fok5 (Nat.le_of_ble_eq_true rfl) ?_
  unfold abody
  simp only [absE, absL, absF, reduceCtorEq, ↓reduceIte, Nat.reduceEqDiff, Nat.reduceAdd, Nat.reduceLT, Nat.reduceMul, Nat.reduceSub, Nat.reduceLeDiff, Int.reduceLT, Int.reduceLE, Int.reduceEq, Option.isSome_some, implies_true, false_implies, Prod.mk.injEq, ne_eq, not_false_eq_true, not_true_eq_false, ge_iff_le, gt_iff_lt, Int.toNat_natCast, Int.reduceToNat, Int.cast_ofNat_Int, Int.natCast_nonneg, Try.f5]
  refine szLists_any hA hl0 hm0 (left := 1048576) (by decide) (by decide) ?_
  intro r ups0 rd0 hr hu0
  simp only [hu0]
  by_cases hneg : r < 0
  · simp only [absE, absL, absF, reduceCtorEq, ↓reduceIte, Nat.reduceEqDiff, Nat.reduceAdd, Nat.reduceLT, Nat.reduceMul, Nat.reduceSub, Nat.reduceLeDiff, Int.reduceLT, Int.reduceLE, Int.reduceEq, Option.isSome_some, implies_true, false_implies, Prod.mk.injEq, ne_eq, not_false_eq_true, not_true_eq_false, ge_iff_le, gt_iff_lt, Int.toNat_natCast, Int.reduceToNat, Int.cast_ofNat_Int, Int.natCast_nonneg, hneg, Try.results5]
    exact ⟨[], by simp, by simp, by simp [renV], hfin, by simp⟩
  have hb := hr (by omega)
  have hspec := specTL_ok k0 LL hk0 hb.2 hb.1
  have himpl := implTL_ok k0 LL hk0 hb.2 hb.1
  obtain ⟨m, sq, e, hs, hkey⟩ := tl_form k0 LL hk0 hb.2 hb.1
  rw [hkey] at hspec himpl
  simp only [absE, absL, absF, reduceCtorEq, ↓reduceIte, Nat.reduceEqDiff, Nat.reduceAdd, Nat.reduceLT, Nat.reduceMul, Nat.reduceSub, Nat.reduceLeDiff, Int.reduceLT, Int.reduceLE, Int.reduceEq, Option.isSome_some, implies_true, false_implies, Prod.mk.injEq, ne_eq, not_false_eq_true, not_true_eq_false, ge_iff_le, gt_iff_lt, Int.toNat_natCast, Int.reduceToNat, Int.cast_ofNat_Int, Int.natCast_nonneg, newUps_inn, ob_out, Mem.upd_bagU, assoc_rbag_ne, hneg]
  refine toLists_any hA hb.2 hb.1 (n := 11) (by decide) ?_
  intro ups1 rd1 hu1
  simp only [hu1]
  simp only [absE, absL, absF, reduceCtorEq, ↓reduceIte, Nat.reduceEqDiff, Nat.reduceAdd, Nat.reduceLT, Nat.reduceMul, Nat.reduceSub, Nat.reduceLeDiff, Int.reduceLT, Int.reduceLE, Int.reduceEq, Option.isSome_some, implies_true, false_implies, Prod.mk.injEq, ne_eq, not_false_eq_true, not_true_eq_false, ge_iff_le, gt_iff_lt, Int.toNat_natCast, Int.reduceToNat, Int.cast_ofNat_Int, Int.natCast_nonneg, newUps_inn, ob_out, Mem.upd_bagU, assoc_rbag_ne]
  refine CallsVia.rowV (g := 11) (LL := LL) (by decide) Row.new (fun σ h0 => by simp [renVs, renV, renAt, renSegs, renSg, h0]) (fun _ => rfl) hspec ?_
  intro ups2 rd2 loc2 hu2 hl2
  simp only [hu2]
  simp only [absE, absL, absF, reduceCtorEq, ↓reduceIte, Nat.reduceEqDiff, Nat.reduceAdd, Nat.reduceLT, Nat.reduceMul, Nat.reduceSub, Nat.reduceLeDiff, Int.reduceLT, Int.reduceLE, Int.reduceEq, Option.isSome_some, implies_true, false_implies, Prod.mk.injEq, ne_eq, not_false_eq_true, not_true_eq_false, ge_iff_le, gt_iff_lt, Int.toNat_natCast, Int.reduceToNat, Int.cast_ofNat_Int, Int.natCast_nonneg, newUps_inn, ob_out, Mem.upd_bagU, assoc_rbag_ne]
  refine toLists_any hA hb.2 hb.1 (n := 20) (by decide) ?_
  intro ups3 rd3 hu3
  simp only [hu3]
  simp only [absE, absL, absF, reduceCtorEq, ↓reduceIte, Nat.reduceEqDiff, Nat.reduceAdd, Nat.reduceLT, Nat.reduceMul, Nat.reduceSub, Nat.reduceLeDiff, Int.reduceLT, Int.reduceLE, Int.reduceEq, Option.isSome_some, implies_true, false_implies, Prod.mk.injEq, ne_eq, not_false_eq_true, not_true_eq_false, ge_iff_le, gt_iff_lt, Int.toNat_natCast, Int.reduceToNat, Int.cast_ofNat_Int, Int.natCast_nonneg, newUps_inn, ob_out, Mem.upd_bagU, assoc_rbag_ne]
  refine CallsVia.rowV (g := 20) (LL := LL) (by decide) Row.new (fun σ h0 => by simp [renVs, renV, renAt, renSegs, renSg, h0]) (fun _ => rfl) himpl ?_
  intro ups4 rd4 loc4 hu4 hl4
  simp only [hu4]
  have y4 : assoc loc4 16 0 = .lv true (sqS m sq) := by rw [hl4]; simp [assoc_rbag_ne, assoc]
  have rx : Row loc4 20 LL := Row.eq (hl4 _) Row.new
  simp only [absE, absL, absF, reduceCtorEq, ↓reduceIte, Nat.reduceEqDiff, Nat.reduceAdd, Nat.reduceLT, Nat.reduceMul, Nat.reduceSub, Nat.reduceLeDiff, Int.reduceLT, Int.reduceLE, Int.reduceEq, Option.isSome_some, implies_true, false_implies, Prod.mk.injEq, ne_eq, not_false_eq_true, not_true_eq_false, ge_iff_le, gt_iff_lt, Int.toNat_natCast, Int.reduceToNat, Int.cast_ofNat_Int, Int.natCast_nonneg, newUps_inn, ob_out, Mem.upd_bagU, assoc_rbag_ne, y4]
  refine CallsVia.none (eqSquare_ok _ _ _ _ hs hs) ?_
  rintro _ _ _ ⟨rfl, rfl, rfl⟩
  simp only [absE, absL, absF, reduceCtorEq, ↓reduceIte, Nat.reduceEqDiff, Nat.reduceAdd, Nat.reduceLT, Nat.reduceMul, Nat.reduceSub, Nat.reduceLeDiff, Int.reduceLT, Int.reduceLE, Int.reduceEq, Option.isSome_some, implies_true, false_implies, Prod.mk.injEq, ne_eq, not_false_eq_true, not_true_eq_false, ge_iff_le, gt_iff_lt, Int.toNat_natCast, Int.reduceToNat, Int.cast_ofNat_Int, Int.natCast_nonneg, newUps_inn, ob_out, Mem.upd_bagU, assoc_rbag_ne, and_self, eq_self, beq_self_eq_true]
  refine toLists_any hA hb.2 hb.1 (n := 42) (by decide) ?_
  intro ups5 rd5 hu5
  simp only [hu5]
  simp only [absE, absL, absF, reduceCtorEq, ↓reduceIte, Nat.reduceEqDiff, Nat.reduceAdd, Nat.reduceLT, Nat.reduceMul, Nat.reduceSub, Nat.reduceLeDiff, Int.reduceLT, Int.reduceLE, Int.reduceEq, Option.isSome_some, implies_true, false_implies, Prod.mk.injEq, ne_eq, not_false_eq_true, not_true_eq_false, ge_iff_le, gt_iff_lt, Int.toNat_natCast, Int.reduceToNat, Int.cast_ofNat_Int, Int.natCast_nonneg, newUps_inn, ob_out, Mem.upd_bagU, assoc_rbag_ne]
  refine eqLists_via (g := 20) (s := 42) (by decide) (by decide) (by decide) (Row.app (by decide) (Row.cons (by decide) (by first | exact rx | exact Row.cons (by decide) rx | exact Row.cons (by decide) (Row.cons (by decide) rx)))) Row.new (fun i hi => by have := hb.2 i hi; omega) (by omega) ?_
  intro ups6 rd6 loc6 hu6 hl6
  simp only [absE, absL, absF, reduceCtorEq, ↓reduceIte, Nat.reduceEqDiff, Nat.reduceAdd, Nat.reduceLT, Nat.reduceMul, Nat.reduceSub, Nat.reduceLeDiff, Int.reduceLT, Int.reduceLE, Int.reduceEq, Option.isSome_some, implies_true, false_implies, Prod.mk.injEq, ne_eq, not_false_eq_true, not_true_eq_false, ge_iff_le, gt_iff_lt, Int.toNat_natCast, Int.reduceToNat, Int.cast_ofNat_Int, Int.natCast_nonneg, hu6, Try.results5]
  exact ⟨[], by simp, by simp, by simp [renV], hfin, by simp⟩

end Go.Proofs.Ytkmdhcdfbdjdaaa
