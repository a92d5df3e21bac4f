/-
Contracts of functions of the given program, by the abstract walk.
-/
import Derived.Test.YtjmjkajpalbakaaAbsV
import Derived.Test.YtjmjkajpalbakaaDt
namespace Go.Proofs.Ytjmjkajpalbakaa
open Go Go.Abs
set_option linter.unusedVariables false
set_option linter.unusedSectionVars false
set_option linter.unusedSimpArgs false
set_option maxRecDepth 100000
theorem all_ok (N : Nat) (t : List Int) (hN : N ≤ 10) : ACalls Try.prog 78 [.agg (sqS N t)] [] (fun v ms ns => v = .i .i64 ((2 ^ N - 1 : Nat) : Int) ∧ ms = [] ∧ ns = []) := by
  refine acalls_of_body mix Try.func78 rfl fok78 (Nat.le_of_ble_eq_true rfl) ?_
  have p10 : (2 : Nat) ^ N ≤ 2 ^ 10 := Nat.pow_le_pow_right (by decide) (by omega)
  have p1 : 0 < (2 : Nat) ^ N := Nat.two_pow_pos N
  have s1 := wrap_shl (c := N) (by omega)
  have w5 : IntKind.i64.wrap (((2 ^ N : Nat) : Int) - 1) = ((2 ^ N - 1 : Nat) : Int) := by rw [wrap_i64 (by omega) (by omega)]; omega
  unfold abody
  simp only [absE, absL, absF, reduceCtorEq, ↓reduceIte, Nat.reduceEqDiff, Nat.reduceAdd, Nat.reduceLT, Nat.reduceMul, Nat.reduceSub, Nat.reduceLeDiff, Int.reduceLT, Int.reduceLE, Int.reduceEq, Option.isSome_some, implies_true, false_implies, Prod.mk.injEq, ne_eq, not_false_eq_true, not_true_eq_false, ge_iff_le, gt_iff_lt, Int.toNat_natCast, Int.cast_ofNat_Int, Int.natCast_nonneg, s1, w5, Try.f78, Try.results78]
  exact ⟨[], by simp, by simp, by simp [renV]⟩

theorem isTransversal_ok (N : Nat) (t c : List Int) (ht : Bytes 100 t) (hc : Bytes 10 c) (hs : SqP N t) (pp : PermP N c) :
    ACalls Try.prog 53 [.agg (sqS N t), .agg (plS c)] [] (fun v ms ns => v = .b (tvB N t c) ∧ ms = [] ∧ ns = []) := by
  have hN : N ≤ 10 := by have := hs.2.1; omega
  refine acalls_of_body mix Try.func53 rfl fok53 (Nat.le_of_ble_eq_true rfl) ?_
  unfold abody
  simp only [absE, absL, absF, reduceCtorEq, ↓reduceIte, Nat.reduceEqDiff, Nat.reduceAdd, Nat.reduceLT, Nat.reduceMul, Nat.reduceSub, Nat.reduceLeDiff, Int.reduceLT, Int.reduceLE, Int.reduceEq, Option.isSome_some, implies_true, false_implies, Prod.mk.injEq, ne_eq, not_false_eq_true, not_true_eq_false, ge_iff_le, gt_iff_lt, Int.toNat_natCast, Int.cast_ofNat_Int, Int.natCast_nonneg, Try.f53]
  refine CallsVia.none (elements_ok N t hN) ?_
  rintro _ _ _ ⟨rfl, rfl, rfl⟩
  simp only [absE, absL, absF, reduceCtorEq, ↓reduceIte, Nat.reduceEqDiff, Nat.reduceAdd, Nat.reduceLT, Nat.reduceMul, Nat.reduceSub, Nat.reduceLeDiff, Int.reduceLT, Int.reduceLE, Int.reduceEq, Option.isSome_some, implies_true, false_implies, Prod.mk.injEq, ne_eq, not_false_eq_true, not_true_eq_false, ge_iff_le, gt_iff_lt, Int.toNat_natCast, Int.cast_ofNat_Int, Int.natCast_nonneg]
  refine awpLoop.intro (fun x : Nat => [(2, .ref (.ptr 1 0 0 0)), (3, .ref (.ptr 2 0 0 0)), (5, .i .i64 (mask (dg t c) x : Nat)), (9, .ref (.sl 5 0 0 0 N 1)), (10, .i .i64 N), (11, .i .i64 x)])
    (fun x => ⟨[], [((1, 0), .lv true (sqS N t)), ((2, 0), .lv true (plS c)), ((5, 0), .lv true [(0, .ints .u8 N (bytesTo N))])], 6⟩)
    (fun x => x ≤ N) (fun x => N - x) 0 (by omega) ⟨[((1,0),(1,0)), ((2,0),(2,0)), ((6,0),(5,0))], rfl, ?_, ?_⟩ ?_
  · simp [wkEnv, lk, renV, renAt, renTo, mask]
  · simp [wkMem, wkLoc, Mem.get, assoc, renBlk, renSegs, renSg, renTo]
  · intro x hx
    by_cases h : (x : Int) < N
    · have w : IntKind.i64.wrap ((x : Int) + 1) = ((x + 1 : Nat) : Int) := by rw [wrap_i64 (by omega) (by omega)]; omega
      have b1 : (bytesTo N).getD (0 + x * 1) 0 = (x : Int) := by rw [Nat.zero_add, Nat.mul_one]; exact bytesTo_get (by omega)
      have v1 : 0 + x * 1 < N := by omega
      have j1 := permP_lt pp h
      have j3 := dg_lt hs pp (show x < N by omega)
      have k1 : c.getD (0 + x * 1) 0 = (pl c x : Int) := by rw [Nat.zero_add, Nat.mul_one]; exact hc.place x
      have k3 : t.getD (0 + x * 10 + pl c x * 1) 0 = (dg t c x : Int) := by rw [Nat.zero_add, Nat.mul_one]; exact ht.cell x _
      have i1 : (x : Int) < 10 := by omega
      have l1 : (pl c x : Int) < 10 := by omega
      have u1 : 0 + x * 1 < 10 := by omega
      have u3 : 0 + x * 10 + pl c x * 1 < 100 := by omega
      have s1 := wrap_shl (c := dg t c x) (by omega)
      have p10 : (2 : Nat) ^ N ≤ 2 ^ 10 := Nat.pow_le_pow_right (by decide) (by omega)
      have m1 : mask (dg t c) x < 2 ^ N := mask_lt fun j hj => dg_lt hs pp (by omega)
      have q1 : (2 : Nat) ^ dg t c x < 2 ^ 10 := Nat.pow_lt_pow_right (by decide) (by omega)
      have o1 := wrap_or (a := mask (dg t c) x) (b := 2 ^ dg t c x) (by omega) (by omega)
      simp only [absE, absL, absF, reduceCtorEq, ↓reduceIte, Nat.reduceEqDiff, Nat.reduceAdd, Nat.reduceLT, Nat.reduceMul, Nat.reduceSub, Nat.reduceLeDiff, Int.reduceLT, Int.reduceLE, Int.reduceEq, Option.isSome_some, implies_true, false_implies, Prod.mk.injEq, ne_eq, not_false_eq_true, not_true_eq_false, ge_iff_le, gt_iff_lt, Int.toNat_natCast, Int.cast_ofNat_Int, Int.natCast_nonneg, h, b1, v1, i1, k1, k3, l1, u1, u3, s1, o1]
      refine LoopNext.intro (x + 1) (by omega) (by omega) ⟨[((1,0),(1,0)), ((2,0),(2,0)), ((5,0),(5,0))], rfl, ?_, ?_⟩
      · simp [wkEnv, lk, renV, renAt, renTo, w, mask]
      · simp [wkMem, wkLoc, Mem.get, assoc, renBlk, renSegs, renSg, renTo]
    · have hxN : x = N := by omega
      subst hxN
      simp only [absE, absL, absF, reduceCtorEq, ↓reduceIte, Nat.reduceEqDiff, Nat.reduceAdd, Nat.reduceLT, Nat.reduceMul, Nat.reduceSub, Nat.reduceLeDiff, Int.reduceLT, Int.reduceLE, Int.reduceEq, Option.isSome_some, implies_true, false_implies, Prod.mk.injEq, ne_eq, not_false_eq_true, not_true_eq_false, ge_iff_le, gt_iff_lt, Int.toNat_natCast, Int.cast_ofNat_Int, Int.natCast_nonneg, h]
      refine CallsVia.none (all_ok x t hN) ?_
      rintro _ _ _ ⟨rfl, rfl, rfl⟩
      simp only [absE, absL, absF, reduceCtorEq, ↓reduceIte, Nat.reduceEqDiff, Nat.reduceAdd, Nat.reduceLT, Nat.reduceMul, Nat.reduceSub, Nat.reduceLeDiff, Int.reduceLT, Int.reduceLE, Int.reduceEq, Option.isSome_some, implies_true, false_implies, Prod.mk.injEq, ne_eq, not_false_eq_true, not_true_eq_false, ge_iff_le, gt_iff_lt, Int.toNat_natCast, Int.cast_ofNat_Int, Int.natCast_nonneg, Try.results53]
      refine fin_b ?_ rfl
      rw [Bool.eq_iff_iff, tvB_iff, decide_eq_true_iff]
      have hm := mask_full (n := x) (f := dg t c) (fun i hi => dg_lt hs pp hi)
      unfold TvP
      rw [← hm]
      constructor
      · intro e; rw [e]
      · intro e; omega

end Go.Proofs.Ytjmjkajpalbakaa
