/-
Contracts of functions of the given program, by the abstract walk.
-/
import Derived.Test.YtcaadjjgggjefaaAbsY
import Derived.Test.YtcaadjjgggjefaaCo
import Derived.Test.YtcaadjjgggjefaaCl
import Derived.Test.YtcaadjjgggjefaaCn
import Derived.Test.YtcaadjjgggjefaaCq
namespace Go.Proofs.Ytcaadjjgggjefaa
open Go Go.Abs
set_option linter.unusedVariables false
set_option linter.unusedSectionVars false
set_option linter.unusedSimpArgs false
set_option maxRecDepth 100000
theorem isotope_ok (N : Nat) (t p q r : List Int) (ht : Bytes 100 t) (hp : Bytes 10 p) (hq : Bytes 10 q) (hr : Bytes 10 r) (hs : SqP N t) (pp : PermP N p) (pq : PermP N q) :
    ACalls Try.prog 67 [.agg (sqS N t), .agg (trS p q r)] [] (fun v ms ns => v = .agg (sqS N (isoT N t p q r N)) ∧ ms = [] ∧ ns = []) := by
  have hN : N ≤ 10 := by have := hs.2.1; omega
  refine acalls_of_body mix Try.func67 rfl fok67 (Nat.le_of_ble_eq_true rfl) ?_
  unfold abody
  simp only [absE, absL, absF, reduceCtorEq, ↓reduceIte, Nat.reduceEqDiff, Nat.reduceAdd, Nat.reduceLT, Nat.reduceMul, Nat.reduceSub, Nat.reduceLeDiff, Int.reduceLT, Int.reduceLE, Int.reduceEq, Option.isSome_some, implies_true, false_implies, Prod.mk.injEq, ne_eq, not_false_eq_true, not_true_eq_false, ge_iff_le, gt_iff_lt, Int.toNat_natCast, Int.reduceToNat, Int.cast_ofNat_Int, Int.natCast_nonneg, Try.f67]
  refine CallsVia.none (elements_ok N t hN) ?_
  rintro _ _ _ ⟨rfl, rfl, rfl⟩
  simp only [absE, absL, absF, reduceCtorEq, ↓reduceIte, Nat.reduceEqDiff, Nat.reduceAdd, Nat.reduceLT, Nat.reduceMul, Nat.reduceSub, Nat.reduceLeDiff, Int.reduceLT, Int.reduceLE, Int.reduceEq, Option.isSome_some, implies_true, false_implies, Prod.mk.injEq, ne_eq, not_false_eq_true, not_true_eq_false, ge_iff_le, gt_iff_lt, Int.toNat_natCast, Int.reduceToNat, Int.cast_ofNat_Int, Int.natCast_nonneg]
  refine awpLoop.intro (fun x : Nat => [(2, .ref (.ptr 1 0 0 0)), (3, .ref (.ptr 2 0 0 0)), (4, .ref (.ptr 3 0 0 0)), (5, .ref (.ptr 7 0 0 0)), (14, .ref (.sl 10 0 0 0 N 1)), (15, .i .i64 N), (16, .i .i64 x)])
    (fun x => ⟨[], [((1, 0), .lv true (sqS N t)), ((2, 0), .lv true (trS p q r)), ((3, 0), .lv true (sqS 0 (List.replicate 100 0))), ((7, 0), .lv true (sqS N (isoT N t p q r x))), ((10, 0), .lv true [(0, .ints .u8 N (bytesTo N))])], 11⟩)
    (fun x => x ≤ N) (fun x => N - x) 0 (by omega) ⟨[((1,0),(1,0)), ((2,0),(2,0)), ((3,0),(3,0)), ((7,0),(7,0)), ((10,0),(10,0))], rfl, ?_, ?_⟩ ?_
  · simp [wkEnv, lk, renV, renAt, renTo]
  · simp [wkMem, wkLoc, Mem.get, assoc, renBlk, renSegs, renSg, renTo, isoT]
  · intro x hx
    by_cases h : (x : Int) < N
    · have w : IntKind.i64.wrap ((x : Int) + 1) = ((x + 1 : Nat) : Int) := by rw [wrap_i64 (by omega) (by omega)]; omega
      have b1 : (bytesTo N).getD (0 + x * 1) 0 = (x : Int) := by rw [Nat.zero_add, Nat.mul_one]; exact bytesTo_get (by omega)
      have v1 : 0 + x * 1 < N := by omega
      simp only [absE, absL, absF, reduceCtorEq, ↓reduceIte, Nat.reduceEqDiff, Nat.reduceAdd, Nat.reduceLT, Nat.reduceMul, Nat.reduceSub, Nat.reduceLeDiff, Int.reduceLT, Int.reduceLE, Int.reduceEq, Option.isSome_some, implies_true, false_implies, Prod.mk.injEq, ne_eq, not_false_eq_true, not_true_eq_false, ge_iff_le, gt_iff_lt, Int.toNat_natCast, Int.reduceToNat, Int.cast_ofNat_Int, Int.natCast_nonneg, h, b1, v1]
      refine CallsVia.none (elements_ok N t hN) ?_
      rintro _ _ _ ⟨rfl, rfl, rfl⟩
      simp only [absE, absL, absF, reduceCtorEq, ↓reduceIte, Nat.reduceEqDiff, Nat.reduceAdd, Nat.reduceLT, Nat.reduceMul, Nat.reduceSub, Nat.reduceLeDiff, Int.reduceLT, Int.reduceLE, Int.reduceEq, Option.isSome_some, implies_true, false_implies, Prod.mk.injEq, ne_eq, not_false_eq_true, not_true_eq_false, ge_iff_le, gt_iff_lt, Int.toNat_natCast, Int.reduceToNat, Int.cast_ofNat_Int, Int.natCast_nonneg, h]
      refine awpLoop.intro (fun y : Nat => [(2, .ref (.ptr 1 0 0 0)), (3, .ref (.ptr 2 0 0 0)), (4, .ref (.ptr 3 0 0 0)), (5, .ref (.ptr 7 0 0 0)), (14, .ref (.sl 10 0 0 0 N 1)), (15, .i .i64 N), (16, .i .i64 x), (7, .i .u8 x), (21, .ref (.sl 11 0 0 0 N 1)), (22, .i .i64 N), (23, .i .i64 y)])
        (fun y => ⟨[], [((1, 0), .lv true (sqS N t)), ((2, 0), .lv true (trS p q r)), ((3, 0), .lv true (sqS 0 (List.replicate 100 0))), ((7, 0), .lv true (sqS N (isoIn t p q r x (isoT N t p q r x) y))), ((10, 0), .lv true [(0, .ints .u8 N (bytesTo N))]), ((11, 0), .lv true [(0, .ints .u8 N (bytesTo N))])], 12⟩)
        (fun y => y ≤ N) (fun y => N - y) 0 (by omega) ⟨[((1,0),(1,0)), ((2,0),(2,0)), ((3,0),(3,0)), ((7,0),(7,0)), ((10,0),(10,0)), ((16,0),(11,0))], rfl, ?_, ?_⟩ ?_
      · simp [wkEnv, lk, renV, renAt, renTo]
      · simp [wkMem, wkLoc, Mem.get, assoc, renBlk, renSegs, renSg, renTo, isoIn]
      · intro y hy
        by_cases h' : (y : Int) < N
        · have w' : IntKind.i64.wrap ((y : Int) + 1) = ((y + 1 : Nat) : Int) := by rw [wrap_i64 (by omega) (by omega)]; omega
          have b2 : (bytesTo N).getD (0 + y * 1) 0 = (y : Int) := by rw [Nat.zero_add, Nat.mul_one]; exact bytesTo_get (by omega)
          have v2 : 0 + y * 1 < N := by omega
          have i1 : (x : Int) < 10 := by omega
          have i2 : (y : Int) < 10 := by omega
          have k1 : p.getD (0 + x * 1) 0 = (pl p x : Int) := by rw [Nat.zero_add, Nat.mul_one]; exact hp.place x
          have k2 : q.getD (0 + y * 1) 0 = (pl q y : Int) := by rw [Nat.zero_add, Nat.mul_one]; exact hq.place y
          have k3 : t.getD (0 + x * 10 + y * 1) 0 = (cl t x y : Int) := by rw [Nat.zero_add, Nat.mul_one]; exact ht.cell x y
          have j1 := permP_lt pp h
          have j2 := permP_lt pq h'
          have j3 := sqP_lt hs h h'
          have l1 : (pl p x : Int) < 10 := by omega
          have l2 : (pl q y : Int) < 10 := by omega
          have l3 : (cl t x y : Int) < 10 := by omega
          have u1 : 0 + x * 1 < 10 := by omega
          have u2 : 0 + y * 1 < 10 := by omega
          have u3 : 0 + x * 10 + y * 1 < 100 := by omega
          have u4 : 0 + cl t x y * 1 < 10 := by omega
          have u5 : 0 + pl p x * 10 + pl q y * 1 + 1 ≤ 100 := by omega
          simp only [absE, absL, absF, reduceCtorEq, ↓reduceIte, Nat.reduceEqDiff, Nat.reduceAdd, Nat.reduceLT, Nat.reduceMul, Nat.reduceSub, Nat.reduceLeDiff, Int.reduceLT, Int.reduceLE, Int.reduceEq, Option.isSome_some, implies_true, false_implies, Prod.mk.injEq, ne_eq, not_false_eq_true, not_true_eq_false, ge_iff_le, gt_iff_lt, Int.toNat_natCast, Int.reduceToNat, Int.cast_ofNat_Int, Int.natCast_nonneg, h, h', b2, v2, i1, i2, k1, k2, k3, l1, l2, l3, u1, u2, u3, u4, u5]
          refine LoopNext.intro (y + 1) (by omega) (by omega) ⟨[((1,0),(1,0)), ((2,0),(2,0)), ((3,0),(3,0)), ((7,0),(7,0)), ((10,0),(10,0)), ((11,0),(11,0))], rfl, ?_, ?_⟩
          · simp [wkEnv, lk, renV, renAt, renTo, w']
          · simp [wkMem, wkLoc, Mem.get, assoc, renBlk, renSegs, renSg, renTo, isoIn]
        · have hyN : y = N := by omega
          subst hyN
          simp only [absE, absL, absF, reduceCtorEq, ↓reduceIte, Nat.reduceEqDiff, Nat.reduceAdd, Nat.reduceLT, Nat.reduceMul, Nat.reduceSub, Nat.reduceLeDiff, Int.reduceLT, Int.reduceLE, Int.reduceEq, Option.isSome_some, implies_true, false_implies, Prod.mk.injEq, ne_eq, not_false_eq_true, not_true_eq_false, ge_iff_le, gt_iff_lt, Int.toNat_natCast, Int.reduceToNat, Int.cast_ofNat_Int, Int.natCast_nonneg, h, h']
          refine LoopNext.intro (x + 1) (by omega) (by omega) ⟨[((1,0),(1,0)), ((2,0),(2,0)), ((3,0),(3,0)), ((7,0),(7,0)), ((10,0),(10,0))], rfl, ?_, ?_⟩
          · simp [wkEnv, lk, renV, renAt, renTo, w]
          · simp [wkMem, wkLoc, Mem.get, assoc, renBlk, renSegs, renSg, renTo, isoT]
    · have hxN : x = N := by omega
      subst hxN
      simp only [absE, absL, absF, reduceCtorEq, ↓reduceIte, Nat.reduceEqDiff, Nat.reduceAdd, Nat.reduceLT, Nat.reduceMul, Nat.reduceSub, Nat.reduceLeDiff, Int.reduceLT, Int.reduceLE, Int.reduceEq, Option.isSome_some, implies_true, false_implies, Prod.mk.injEq, ne_eq, not_false_eq_true, not_true_eq_false, ge_iff_le, gt_iff_lt, Int.toNat_natCast, Int.reduceToNat, Int.cast_ofNat_Int, Int.natCast_nonneg, h, Try.results67]
      exact ⟨[], by simp, by simp, by simp [renV, renSegs, renSg]⟩

end Go.Proofs.Ytcaadjjgggjefaa
