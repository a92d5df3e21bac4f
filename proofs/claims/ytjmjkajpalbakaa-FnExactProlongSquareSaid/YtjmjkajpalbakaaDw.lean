/-
Contracts of functions of the given program, by the abstract walk.
-/
import Derived.Test.YtjmjkajpalbakaaAbsV
import Derived.Test.YtjmjkajpalbakaaDv
namespace Go.Proofs.Ytjmjkajpalbakaa
open Go Go.Abs
set_option linter.unusedVariables false
set_option linter.unusedSectionVars false
set_option linter.unusedSimpArgs false
set_option maxRecDepth 100000
theorem implProlong_ok (n : Int) (t c : List Int) (ht : Bytes 100 t) (hc : Bytes 10 c) :
    ACalls Try.prog 25 [.agg (sqS n t), .agg (plS c)] [] (fun v ms ns => v = (if sqB n t && permB n c then (if tvB n.toNat t c then (if n = 10 then .tup [.agg (sqS 0 (List.replicate 100 0)), .i .i64 3] else .tup [.agg (sqS (n + 1) (prEnd n.toNat t c)), .i .i64 0]) else .tup [.agg (sqS 0 (List.replicate 100 0)), .i .i64 5]) else .tup [.agg (sqS 0 (List.replicate 100 0)), .i .i64 1]) ∧ ms = [] ∧ ns = []) := by
  refine acalls_of_body mix Try.func25 rfl fok25 (Nat.le_of_ble_eq_true rfl) ?_
  unfold abody
  simp only [absE, absL, absF, reduceCtorEq, ↓reduceIte, Nat.reduceEqDiff, Nat.reduceAdd, Nat.reduceLT, Nat.reduceMul, Nat.reduceSub, Nat.reduceLeDiff, Int.reduceLT, Int.reduceLE, Int.reduceEq, Option.isSome_some, implies_true, false_implies, Prod.mk.injEq, ne_eq, not_false_eq_true, not_true_eq_false, ge_iff_le, gt_iff_lt, Int.toNat_natCast, Int.cast_ofNat_Int, Int.natCast_nonneg, Try.f25]
  refine CallsVia.none (isSquare_ok n t ht) ?_
  rintro _ _ _ ⟨rfl, rfl, rfl⟩
  cases h1 : sqB n t
  · simp only [absE, absL, absF, reduceCtorEq, ↓reduceIte, Nat.reduceEqDiff, Nat.reduceAdd, Nat.reduceLT, Nat.reduceMul, Nat.reduceSub, Nat.reduceLeDiff, Int.reduceLT, Int.reduceLE, Int.reduceEq, Option.isSome_some, implies_true, false_implies, Prod.mk.injEq, ne_eq, not_false_eq_true, not_true_eq_false, ge_iff_le, gt_iff_lt, Int.toNat_natCast, Int.cast_ofNat_Int, Int.natCast_nonneg, Try.results25]
    exact ⟨[], by simp, by simp, by simp [renV, renVs, renSegs, renSg]⟩
  · simp only [absE, absL, absF, reduceCtorEq, ↓reduceIte, Nat.reduceEqDiff, Nat.reduceAdd, Nat.reduceLT, Nat.reduceMul, Nat.reduceSub, Nat.reduceLeDiff, Int.reduceLT, Int.reduceLE, Int.reduceEq, Option.isSome_some, implies_true, false_implies, Prod.mk.injEq, ne_eq, not_false_eq_true, not_true_eq_false, ge_iff_le, gt_iff_lt, Int.toNat_natCast, Int.cast_ofNat_Int, Int.natCast_nonneg]
    refine CallsVia.none (isPermutation_ok c n hc) ?_
    rintro _ _ _ ⟨rfl, rfl, rfl⟩
    cases h2 : permB n c
    · simp only [absE, absL, absF, reduceCtorEq, ↓reduceIte, Nat.reduceEqDiff, Nat.reduceAdd, Nat.reduceLT, Nat.reduceMul, Nat.reduceSub, Nat.reduceLeDiff, Int.reduceLT, Int.reduceLE, Int.reduceEq, Option.isSome_some, implies_true, false_implies, Prod.mk.injEq, ne_eq, not_false_eq_true, not_true_eq_false, ge_iff_le, gt_iff_lt, Int.toNat_natCast, Int.cast_ofNat_Int, Int.natCast_nonneg, Try.results25]
      exact ⟨[], by simp, by simp, by simp [renV, renVs, renSegs, renSg]⟩
    · have hs := sqB_iff.1 h1
      have hp := permB_iff.1 h2
      obtain ⟨N, rfl⟩ : ∃ N : Nat, n = N := ⟨n.toNat, by have := hs.1; omega⟩
      have hN : N ≤ 10 := by have := hs.2.1; omega
      simp only [absE, absL, absF, reduceCtorEq, ↓reduceIte, Nat.reduceEqDiff, Nat.reduceAdd, Nat.reduceLT, Nat.reduceMul, Nat.reduceSub, Nat.reduceLeDiff, Int.reduceLT, Int.reduceLE, Int.reduceEq, Option.isSome_some, implies_true, false_implies, Prod.mk.injEq, ne_eq, not_false_eq_true, not_true_eq_false, ge_iff_le, gt_iff_lt, Int.toNat_natCast, Int.cast_ofNat_Int, Int.natCast_nonneg]
      refine CallsVia.none (isTransversal_ok N t c ht hc hs hp) ?_
      rintro _ _ _ ⟨rfl, rfl, rfl⟩
      cases h3 : tvB N t c
      · simp only [absE, absL, absF, reduceCtorEq, ↓reduceIte, Nat.reduceEqDiff, Nat.reduceAdd, Nat.reduceLT, Nat.reduceMul, Nat.reduceSub, Nat.reduceLeDiff, Int.reduceLT, Int.reduceLE, Int.reduceEq, Option.isSome_some, implies_true, false_implies, Prod.mk.injEq, ne_eq, not_false_eq_true, not_true_eq_false, ge_iff_le, gt_iff_lt, Int.toNat_natCast, Int.cast_ofNat_Int, Int.natCast_nonneg, h3, Try.results25]
        exact ⟨[], by simp, by simp, by simp [renV, renVs, renSegs, renSg, h3]⟩
      · by_cases h4 : (N : Int) = 10
        · simp only [absE, absL, absF, reduceCtorEq, ↓reduceIte, Nat.reduceEqDiff, Nat.reduceAdd, Nat.reduceLT, Nat.reduceMul, Nat.reduceSub, Nat.reduceLeDiff, Int.reduceLT, Int.reduceLE, Int.reduceEq, Option.isSome_some, implies_true, false_implies, Prod.mk.injEq, ne_eq, not_false_eq_true, not_true_eq_false, ge_iff_le, gt_iff_lt, Int.toNat_natCast, Int.cast_ofNat_Int, Int.natCast_nonneg, h3, h4, Try.results25]
          have h5 : N = 10 := by omega
          subst h5
          exact ⟨[], by simp, by simp, by simp [renV, renVs, renSegs, renSg, h3]⟩
        · have w1 : IntKind.i64.wrap ((N : Int) + 1) = (N : Int) + 1 := wrap_i64 (by omega) (by omega)
          have w2 : IntKind.u8.wrap (N : Int) = N := wrap_u8 (by omega) (by omega)
          have iN : (N : Int) < 10 := by omega
          have uN : 0 + N * 10 + N * 1 + 1 ≤ 100 := by omega
          simp only [absE, absL, absF, reduceCtorEq, ↓reduceIte, Nat.reduceEqDiff, Nat.reduceAdd, Nat.reduceLT, Nat.reduceMul, Nat.reduceSub, Nat.reduceLeDiff, Int.reduceLT, Int.reduceLE, Int.reduceEq, Option.isSome_some, implies_true, false_implies, Prod.mk.injEq, ne_eq, not_false_eq_true, not_true_eq_false, ge_iff_le, gt_iff_lt, Int.toNat_natCast, Int.cast_ofNat_Int, Int.natCast_nonneg, h3, h4, w1, w2]
          refine ⟨by decide, CallsVia.none (elements_ok N t hN) ?_⟩
          rintro _ _ _ ⟨rfl, rfl, rfl⟩
          simp only [absE, absL, absF, reduceCtorEq, ↓reduceIte, Nat.reduceEqDiff, Nat.reduceAdd, Nat.reduceLT, Nat.reduceMul, Nat.reduceSub, Nat.reduceLeDiff, Int.reduceLT, Int.reduceLE, Int.reduceEq, Option.isSome_some, implies_true, false_implies, Prod.mk.injEq, ne_eq, not_false_eq_true, not_true_eq_false, ge_iff_le, gt_iff_lt, Int.toNat_natCast, Int.cast_ofNat_Int, Int.natCast_nonneg, w1, w2]
          refine awpLoop.intro (fun x : Nat => [(2, .ref (.ptr 1 0 0 0)), (3, .ref (.ptr 2 0 0 0)), (4, .ref (.ptr 3 0 0 0)), (6, .ref (.ptr 4 0 0 0)), (7, .i .u8 N), (43, .ref (.sl 5 0 0 0 N 1)), (44, .i .i64 N), (45, .i .i64 x)])
            (fun x => ⟨[], [((1, 0), .lv true (sqS N t)), ((2, 0), .lv true (plS c)), ((3, 0), .lv true (sqS 0 (List.replicate 100 0))), ((4, 0), .lv true (sqS (N + 1) (prT N t c x))), ((5, 0), .lv true [(0, .ints .u8 N (bytesTo N))])], 6⟩)
            (fun x => x ≤ N) (fun x => N - x) 0 (by omega) ⟨[((1,0),(1,0)), ((2,0),(2,0)), ((3,0),(3,0)), ((29,0),(4,0)), ((38,0),(5,0))], rfl, ?_, ?_⟩ ?_
          · simp [wkEnv, lk, renV, renAt, renTo]
          · simp [wkMem, wkLoc, Mem.get, assoc, renBlk, renSegs, renSg, renTo, prT]
          · intro x hx
            by_cases h : (x : Int) < N
            · have w : IntKind.i64.wrap ((x : Int) + 1) = ((x + 1 : Nat) : Int) := by rw [wrap_i64 (by omega) (by omega)]; omega
              have b1 : (bytesTo N).getD (0 + x * 1) 0 = (x : Int) := by rw [Nat.zero_add, Nat.mul_one]; exact bytesTo_get (by omega)
              have v1 : 0 + x * 1 < N := by omega
              have j1 := pl_lt_n hp (show x < N by omega)
              have k1 : c.getD (0 + x * 1) 0 = (pl c x : Int) := by rw [Nat.zero_add, Nat.mul_one]; exact hc.place x
              have k3 : t.getD (0 + x * 10 + pl c x * 1) 0 = (dg t c x : Int) := by rw [Nat.zero_add, Nat.mul_one]; exact ht.cell x _
              have i1 : (x : Int) < 10 := by omega
              have l1 : (pl c x : Int) < 10 := by omega
              have u1 : 0 + x * 1 < 10 := by omega
              have u3 : 0 + x * 10 + pl c x * 1 < 100 := by omega
              have u4 : 0 + x * 10 + pl c x * 1 + 1 ≤ 100 := by omega
              have u5 : 0 + x * 10 + N * 1 + 1 ≤ 100 := by omega
              have u6 : 0 + N * 10 + pl c x * 1 + 1 ≤ 100 := by omega
              simp only [absE, absL, absF, reduceCtorEq, ↓reduceIte, Nat.reduceEqDiff, Nat.reduceAdd, Nat.reduceLT, Nat.reduceMul, Nat.reduceSub, Nat.reduceLeDiff, Int.reduceLT, Int.reduceLE, Int.reduceEq, Option.isSome_some, implies_true, false_implies, Prod.mk.injEq, ne_eq, not_false_eq_true, not_true_eq_false, ge_iff_le, gt_iff_lt, Int.toNat_natCast, Int.cast_ofNat_Int, Int.natCast_nonneg, h, b1, v1, iN, w2, k1, k3, i1, l1, u1, u3, u4, u5, u6]
              refine ⟨by decide +kernel, by decide +kernel, LoopNext.intro (x + 1) (by omega) (by omega) ⟨[((1,0),(1,0)), ((2,0),(2,0)), ((3,0),(3,0)), ((4,0),(4,0)), ((5,0),(5,0))], rfl, ?_, ?_⟩⟩
              · simp [wkEnv, lk, renV, renAt, renTo, w]
              · simp [wkMem, wkLoc, Mem.get, assoc, renBlk, renSegs, renSg, renTo, prT]
            · have hxN : x = N := by omega
              subst hxN
              simp only [absE, absL, absF, reduceCtorEq, ↓reduceIte, Nat.reduceEqDiff, Nat.reduceAdd, Nat.reduceLT, Nat.reduceMul, Nat.reduceSub, Nat.reduceLeDiff, Int.reduceLT, Int.reduceLE, Int.reduceEq, Option.isSome_some, implies_true, false_implies, Prod.mk.injEq, ne_eq, not_false_eq_true, not_true_eq_false, ge_iff_le, gt_iff_lt, Int.toNat_natCast, Int.cast_ofNat_Int, Int.natCast_nonneg, h, iN, w2, uN, Try.results25]
              exact ⟨[], by simp, by simp, by simp [renV, renVs, renSegs, renSg, h3, h4, prEnd]⟩

end Go.Proofs.Ytjmjkajpalbakaa
