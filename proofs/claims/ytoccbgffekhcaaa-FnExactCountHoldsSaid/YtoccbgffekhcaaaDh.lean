/-
Contracts of functions of the given program, by the abstract walk.
-/
import Derived.Test.YtoccbgffekhcaaaAbsY
import Derived.Test.YtoccbgffekhcaaaDa
namespace Go.Proofs.Ytoccbgffekhcaaa
open Go Go.Abs
set_option linter.unusedVariables false
set_option linter.unusedSectionVars false
set_option linter.unusedSimpArgs false
set_option maxRecDepth 100000
theorem made1_ok (N : Nat) (hN : N ≤ 10) (f : FuncId) (g : Nat → Nat → Nat) (g0 : Segs) (e0 : ∀ ρ, renSegs ρ g0 = g0)
    (hf : ∀ x y, x < N → y < N → ACalls Try.prog f (.i .u8 x :: .i .u8 y :: [.ref (.ptr 0 0 0 0)]) [.lv true g0] (fun v ms ns => v = .i .u8 (g x y) ∧ ms = [.lv true g0] ∧ ns = [])) :
    ACalls Try.prog 140 [.i .i64 N, .ref (.fn f [(0, 0, 0, 0)])] [.lv true g0] (fun v ms ns => v = .agg (sqS N (mkT g N N)) ∧ ms = [.lv true g0] ∧ ns = []) := by
  refine acalls_of_body mix Try.func140 rfl fok140 (Nat.le_of_ble_eq_true rfl) ?_
  unfold abody
  simp only [absE, absL, absF, reduceCtorEq, ↓reduceIte, Nat.reduceEqDiff, Nat.reduceAdd, Nat.reduceLT, Nat.reduceMul, Nat.reduceSub, Nat.reduceLeDiff, Int.reduceLT, Int.reduceLE, Int.reduceEq, Option.isSome_some, implies_true, false_implies, Prod.mk.injEq, ne_eq, not_false_eq_true, not_true_eq_false, ge_iff_le, gt_iff_lt, Int.toNat_natCast, Int.reduceToNat, Int.cast_ofNat_Int, Int.natCast_nonneg, Try.f140]
  refine CallsVia.none (elements_ok N (List.replicate 100 0) hN) ?_
  rintro _ _ _ ⟨rfl, rfl, rfl⟩
  simp only [absE, absL, absF, reduceCtorEq, ↓reduceIte, Nat.reduceEqDiff, Nat.reduceAdd, Nat.reduceLT, Nat.reduceMul, Nat.reduceSub, Nat.reduceLeDiff, Int.reduceLT, Int.reduceLE, Int.reduceEq, Option.isSome_some, implies_true, false_implies, Prod.mk.injEq, ne_eq, not_false_eq_true, not_true_eq_false, ge_iff_le, gt_iff_lt, Int.toNat_natCast, Int.reduceToNat, Int.cast_ofNat_Int, Int.natCast_nonneg]
  refine awpLoop.intro (fun x : Nat => [(1, .ref (.fn f [(0, 0, 0, 0)])), (4, .ref (.ptr 1 0 0 0)), (5, .ref (.ptr 4 0 0 0)), (13, .ref (.sl 7 0 0 0 N 1)), (14, .i .i64 N), (15, .i .i64 x)]) (fun x => ⟨[.lv true g0], [((1, 0), .lv true (sqS 0 (List.replicate 100 0))), ((4, 0), .lv true (sqS N (mkT g N x))), ((7, 0), .lv true ([(0, .ints .u8 N (bytesTo N))]))], 10⟩)
    (fun x => x ≤ N) (fun x => N - x) 0 (by omega) ⟨[((1,0),(1,0)), ((4,0),(4,0)), ((7,0),(7,0))], rfl, ?_, ?_⟩ ?_
  · simp [wkEnv, lk, renV, renAt, renTo, e0, mkT, renCaps]
  · simp [wkMem, wkLoc, Mem.get, assoc, renBlk, renSegs, renSg, renTo, e0, mkT, renCaps]
  · intro x hx
    by_cases h : (x : Int) < N
    · have w := wrap_i64s (show x < 2 ^ 62 by omega)
      have b1 : (bytesTo N).getD (0 + x * 1) 0 = (x : Int) := by rw [Nat.zero_add, Nat.mul_one]; exact bytesTo_get (by omega)
      have v1 : 0 + x * 1 < N := by omega
      have i1 : (x : Int) < 10 := by omega
      simp only [absE, absL, absF, reduceCtorEq, ↓reduceIte, Nat.reduceEqDiff, Nat.reduceAdd, Nat.reduceLT, Nat.reduceMul, Nat.reduceSub, Nat.reduceLeDiff, Int.reduceLT, Int.reduceLE, Int.reduceEq, Option.isSome_some, implies_true, false_implies, Prod.mk.injEq, ne_eq, not_false_eq_true, not_true_eq_false, ge_iff_le, gt_iff_lt, Int.toNat_natCast, Int.reduceToNat, Int.cast_ofNat_Int, Int.natCast_nonneg, h, b1, v1]
      refine CallsVia.none (elements_ok N (mkT g N x) hN) ?_
      rintro _ _ _ ⟨rfl, rfl, rfl⟩
      simp only [absE, absL, absF, reduceCtorEq, ↓reduceIte, Nat.reduceEqDiff, Nat.reduceAdd, Nat.reduceLT, Nat.reduceMul, Nat.reduceSub, Nat.reduceLeDiff, Int.reduceLT, Int.reduceLE, Int.reduceEq, Option.isSome_some, implies_true, false_implies, Prod.mk.injEq, ne_eq, not_false_eq_true, not_true_eq_false, ge_iff_le, gt_iff_lt, Int.toNat_natCast, Int.reduceToNat, Int.cast_ofNat_Int, Int.natCast_nonneg]
      refine awpLoop.intro (fun y : Nat => [(1, .ref (.fn f [(0, 0, 0, 0)])), (4, .ref (.ptr 1 0 0 0)), (5, .ref (.ptr 4 0 0 0)), (13, .ref (.sl 7 0 0 0 N 1)), (14, .i .i64 N), (15, .i .i64 x), (7, .i .u8 x), (20, .ref (.sl 15 0 0 0 N 1)), (21, .i .i64 N), (22, .i .i64 y)]) (fun y => ⟨[.lv true g0], [((1, 0), .lv true (sqS 0 (List.replicate 100 0))), ((4, 0), .lv true (sqS N (mkIn g x (mkT g N x) y))), ((7, 0), .lv true ([(0, .ints .u8 N (bytesTo N))])), ((15, 0), .lv true ([(0, .ints .u8 N (bytesTo N))]))], 18⟩)
        (fun y => y ≤ N) (fun y => N - y) 0 (by omega) ⟨[((1,0),(1,0)), ((4,0),(4,0)), ((7,0),(7,0)), ((15,0),(15,0))], rfl, ?_, ?_⟩ ?_
      · simp [wkEnv, lk, renV, renAt, renTo, e0, mkIn, renCaps]
      · simp [wkMem, wkLoc, Mem.get, assoc, renBlk, renSegs, renSg, renTo, e0, mkIn, renCaps]
      · intro y hy
        by_cases h' : (y : Int) < N
        · have w' := wrap_i64s (show y < 2 ^ 62 by omega)
          have b2 : (bytesTo N).getD (0 + y * 1) 0 = (y : Int) := by rw [Nat.zero_add, Nat.mul_one]; exact bytesTo_get (by omega)
          have v2 : 0 + y * 1 < N := by omega
          have i2 : (y : Int) < 10 := by omega
          have u2 : 0 + x * 10 + y * 1 + 1 ≤ 100 := by omega
          simp only [absE, absL, absF, reduceCtorEq, ↓reduceIte, Nat.reduceEqDiff, Nat.reduceAdd, Nat.reduceLT, Nat.reduceMul, Nat.reduceSub, Nat.reduceLeDiff, Int.reduceLT, Int.reduceLE, Int.reduceEq, Option.isSome_some, implies_true, false_implies, Prod.mk.injEq, ne_eq, not_false_eq_true, not_true_eq_false, ge_iff_le, gt_iff_lt, Int.toNat_natCast, Int.reduceToNat, Int.cast_ofNat_Int, Int.natCast_nonneg, h', b2, v2]
          refine CallsX.args [(0, 0)] (hf x y (by omega) (by omega)) (by simp) (by simp [Mem.get]) rfl (by simp [argBlks, Mem.get, renBlk, e0]) ?_
          simp only [absE, absL, absF, reduceCtorEq, ↓reduceIte, Nat.reduceEqDiff, Nat.reduceAdd, Nat.reduceLT, Nat.reduceMul, Nat.reduceSub, Nat.reduceLeDiff, Int.reduceLT, Int.reduceLE, Int.reduceEq, Option.isSome_some, implies_true, false_implies, Prod.mk.injEq, ne_eq, not_false_eq_true, not_true_eq_false, ge_iff_le, gt_iff_lt, Int.toNat_natCast, Int.reduceToNat, Int.cast_ofNat_Int, Int.natCast_nonneg, i1, i2, u2, e0]
          refine ⟨by decide, LoopNext.intro (y + 1) (by omega) (by omega) ⟨[((1,0),(1,0)), ((4,0),(4,0)), ((7,0),(7,0)), ((15,0),(15,0))], rfl, ?_, ?_⟩⟩
          · simp [wkEnv, lk, renV, renAt, renTo, e0, w', mkIn, renCaps]
          · simp [wkMem, wkLoc, Mem.get, assoc, renBlk, renSegs, renSg, renTo, e0, w', mkIn, renCaps]
        · have hyN : y = N := by omega
          subst hyN
          simp only [absE, absL, absF, reduceCtorEq, ↓reduceIte, Nat.reduceEqDiff, Nat.reduceAdd, Nat.reduceLT, Nat.reduceMul, Nat.reduceSub, Nat.reduceLeDiff, Int.reduceLT, Int.reduceLE, Int.reduceEq, Option.isSome_some, implies_true, false_implies, Prod.mk.injEq, ne_eq, not_false_eq_true, not_true_eq_false, ge_iff_le, gt_iff_lt, Int.toNat_natCast, Int.reduceToNat, Int.cast_ofNat_Int, Int.natCast_nonneg, h']
          refine LoopNext.intro (x + 1) (by omega) (by omega) ⟨[((1,0),(1,0)), ((4,0),(4,0)), ((7,0),(7,0))], rfl, ?_, ?_⟩
          · simp [wkEnv, lk, renV, renAt, renTo, e0, w, mkT, renCaps]
          · simp [wkMem, wkLoc, Mem.get, assoc, renBlk, renSegs, renSg, renTo, e0, w, mkT, renCaps]
    · have hxN : x = N := by omega
      subst hxN
      simp only [absE, absL, absF, reduceCtorEq, ↓reduceIte, Nat.reduceEqDiff, Nat.reduceAdd, Nat.reduceLT, Nat.reduceMul, Nat.reduceSub, Nat.reduceLeDiff, Int.reduceLT, Int.reduceLE, Int.reduceEq, Option.isSome_some, implies_true, false_implies, Prod.mk.injEq, ne_eq, not_false_eq_true, not_true_eq_false, ge_iff_le, gt_iff_lt, Int.toNat_natCast, Int.reduceToNat, Int.cast_ofNat_Int, Int.natCast_nonneg, h, Try.results140]
      exact ⟨[], by simp, by simp, by simp [renV, renVs, renSegs, renSg, renBlk, e0]⟩
theorem made2_ok (N : Nat) (hN : N ≤ 10) (f : FuncId) (g : Nat → Nat → Nat) (g0 g1 : Segs) (e0 : ∀ ρ, renSegs ρ g0 = g0) (e1 : ∀ ρ, renSegs ρ g1 = g1)
    (hf : ∀ x y, x < N → y < N → ACalls Try.prog f (.i .u8 x :: .i .u8 y :: [.ref (.ptr 0 0 0 0), .ref (.ptr 0 1 0 0)]) [.lv true g0, .lv true g1] (fun v ms ns => v = .i .u8 (g x y) ∧ ms = [.lv true g0, .lv true g1] ∧ ns = [])) :
    ACalls Try.prog 140 [.i .i64 N, .ref (.fn f [(0, 0, 0, 0), (0, 1, 0, 0)])] [.lv true g0, .lv true g1] (fun v ms ns => v = .agg (sqS N (mkT g N N)) ∧ ms = [.lv true g0, .lv true g1] ∧ ns = []) := by
  refine acalls_of_body mix Try.func140 rfl fok140 (Nat.le_of_ble_eq_true rfl) ?_
  unfold abody
  simp only [absE, absL, absF, reduceCtorEq, ↓reduceIte, Nat.reduceEqDiff, Nat.reduceAdd, Nat.reduceLT, Nat.reduceMul, Nat.reduceSub, Nat.reduceLeDiff, Int.reduceLT, Int.reduceLE, Int.reduceEq, Option.isSome_some, implies_true, false_implies, Prod.mk.injEq, ne_eq, not_false_eq_true, not_true_eq_false, ge_iff_le, gt_iff_lt, Int.toNat_natCast, Int.reduceToNat, Int.cast_ofNat_Int, Int.natCast_nonneg, Try.f140]
  refine CallsVia.none (elements_ok N (List.replicate 100 0) hN) ?_
  rintro _ _ _ ⟨rfl, rfl, rfl⟩
  simp only [absE, absL, absF, reduceCtorEq, ↓reduceIte, Nat.reduceEqDiff, Nat.reduceAdd, Nat.reduceLT, Nat.reduceMul, Nat.reduceSub, Nat.reduceLeDiff, Int.reduceLT, Int.reduceLE, Int.reduceEq, Option.isSome_some, implies_true, false_implies, Prod.mk.injEq, ne_eq, not_false_eq_true, not_true_eq_false, ge_iff_le, gt_iff_lt, Int.toNat_natCast, Int.reduceToNat, Int.cast_ofNat_Int, Int.natCast_nonneg]
  refine awpLoop.intro (fun x : Nat => [(1, .ref (.fn f [(0, 0, 0, 0), (0, 1, 0, 0)])), (4, .ref (.ptr 1 0 0 0)), (5, .ref (.ptr 4 0 0 0)), (13, .ref (.sl 7 0 0 0 N 1)), (14, .i .i64 N), (15, .i .i64 x)]) (fun x => ⟨[.lv true g0, .lv true g1], [((1, 0), .lv true (sqS 0 (List.replicate 100 0))), ((4, 0), .lv true (sqS N (mkT g N x))), ((7, 0), .lv true ([(0, .ints .u8 N (bytesTo N))]))], 10⟩)
    (fun x => x ≤ N) (fun x => N - x) 0 (by omega) ⟨[((1,0),(1,0)), ((4,0),(4,0)), ((7,0),(7,0))], rfl, ?_, ?_⟩ ?_
  · simp [wkEnv, lk, renV, renAt, renTo, e0, e1, mkT, renCaps]
  · simp [wkMem, wkLoc, Mem.get, assoc, renBlk, renSegs, renSg, renTo, e0, e1, mkT, renCaps]
  · intro x hx
    by_cases h : (x : Int) < N
    · have w := wrap_i64s (show x < 2 ^ 62 by omega)
      have b1 : (bytesTo N).getD (0 + x * 1) 0 = (x : Int) := by rw [Nat.zero_add, Nat.mul_one]; exact bytesTo_get (by omega)
      have v1 : 0 + x * 1 < N := by omega
      have i1 : (x : Int) < 10 := by omega
      simp only [absE, absL, absF, reduceCtorEq, ↓reduceIte, Nat.reduceEqDiff, Nat.reduceAdd, Nat.reduceLT, Nat.reduceMul, Nat.reduceSub, Nat.reduceLeDiff, Int.reduceLT, Int.reduceLE, Int.reduceEq, Option.isSome_some, implies_true, false_implies, Prod.mk.injEq, ne_eq, not_false_eq_true, not_true_eq_false, ge_iff_le, gt_iff_lt, Int.toNat_natCast, Int.reduceToNat, Int.cast_ofNat_Int, Int.natCast_nonneg, h, b1, v1]
      refine CallsVia.none (elements_ok N (mkT g N x) hN) ?_
      rintro _ _ _ ⟨rfl, rfl, rfl⟩
      simp only [absE, absL, absF, reduceCtorEq, ↓reduceIte, Nat.reduceEqDiff, Nat.reduceAdd, Nat.reduceLT, Nat.reduceMul, Nat.reduceSub, Nat.reduceLeDiff, Int.reduceLT, Int.reduceLE, Int.reduceEq, Option.isSome_some, implies_true, false_implies, Prod.mk.injEq, ne_eq, not_false_eq_true, not_true_eq_false, ge_iff_le, gt_iff_lt, Int.toNat_natCast, Int.reduceToNat, Int.cast_ofNat_Int, Int.natCast_nonneg]
      refine awpLoop.intro (fun y : Nat => [(1, .ref (.fn f [(0, 0, 0, 0), (0, 1, 0, 0)])), (4, .ref (.ptr 1 0 0 0)), (5, .ref (.ptr 4 0 0 0)), (13, .ref (.sl 7 0 0 0 N 1)), (14, .i .i64 N), (15, .i .i64 x), (7, .i .u8 x), (20, .ref (.sl 15 0 0 0 N 1)), (21, .i .i64 N), (22, .i .i64 y)]) (fun y => ⟨[.lv true g0, .lv true g1], [((1, 0), .lv true (sqS 0 (List.replicate 100 0))), ((4, 0), .lv true (sqS N (mkIn g x (mkT g N x) y))), ((7, 0), .lv true ([(0, .ints .u8 N (bytesTo N))])), ((15, 0), .lv true ([(0, .ints .u8 N (bytesTo N))]))], 18⟩)
        (fun y => y ≤ N) (fun y => N - y) 0 (by omega) ⟨[((1,0),(1,0)), ((4,0),(4,0)), ((7,0),(7,0)), ((15,0),(15,0))], rfl, ?_, ?_⟩ ?_
      · simp [wkEnv, lk, renV, renAt, renTo, e0, e1, mkIn, renCaps]
      · simp [wkMem, wkLoc, Mem.get, assoc, renBlk, renSegs, renSg, renTo, e0, e1, mkIn, renCaps]
      · intro y hy
        by_cases h' : (y : Int) < N
        · have w' := wrap_i64s (show y < 2 ^ 62 by omega)
          have b2 : (bytesTo N).getD (0 + y * 1) 0 = (y : Int) := by rw [Nat.zero_add, Nat.mul_one]; exact bytesTo_get (by omega)
          have v2 : 0 + y * 1 < N := by omega
          have i2 : (y : Int) < 10 := by omega
          have u2 : 0 + x * 10 + y * 1 + 1 ≤ 100 := by omega
          simp only [absE, absL, absF, reduceCtorEq, ↓reduceIte, Nat.reduceEqDiff, Nat.reduceAdd, Nat.reduceLT, Nat.reduceMul, Nat.reduceSub, Nat.reduceLeDiff, Int.reduceLT, Int.reduceLE, Int.reduceEq, Option.isSome_some, implies_true, false_implies, Prod.mk.injEq, ne_eq, not_false_eq_true, not_true_eq_false, ge_iff_le, gt_iff_lt, Int.toNat_natCast, Int.reduceToNat, Int.cast_ofNat_Int, Int.natCast_nonneg, h', b2, v2]
          refine CallsX.args [(0, 0), (0, 1)] (hf x y (by omega) (by omega)) (by simp) (by simp [Mem.get]) rfl (by simp [argBlks, Mem.get, renBlk, e0, e1]) ?_
          simp only [absE, absL, absF, reduceCtorEq, ↓reduceIte, Nat.reduceEqDiff, Nat.reduceAdd, Nat.reduceLT, Nat.reduceMul, Nat.reduceSub, Nat.reduceLeDiff, Int.reduceLT, Int.reduceLE, Int.reduceEq, Option.isSome_some, implies_true, false_implies, Prod.mk.injEq, ne_eq, not_false_eq_true, not_true_eq_false, ge_iff_le, gt_iff_lt, Int.toNat_natCast, Int.reduceToNat, Int.cast_ofNat_Int, Int.natCast_nonneg, i1, i2, u2, e0, e1]
          refine ⟨by decide, LoopNext.intro (y + 1) (by omega) (by omega) ⟨[((1,0),(1,0)), ((4,0),(4,0)), ((7,0),(7,0)), ((15,0),(15,0))], rfl, ?_, ?_⟩⟩
          · simp [wkEnv, lk, renV, renAt, renTo, e0, e1, w', mkIn, renCaps]
          · simp [wkMem, wkLoc, Mem.get, assoc, renBlk, renSegs, renSg, renTo, e0, e1, w', mkIn, renCaps]
        · have hyN : y = N := by omega
          subst hyN
          simp only [absE, absL, absF, reduceCtorEq, ↓reduceIte, Nat.reduceEqDiff, Nat.reduceAdd, Nat.reduceLT, Nat.reduceMul, Nat.reduceSub, Nat.reduceLeDiff, Int.reduceLT, Int.reduceLE, Int.reduceEq, Option.isSome_some, implies_true, false_implies, Prod.mk.injEq, ne_eq, not_false_eq_true, not_true_eq_false, ge_iff_le, gt_iff_lt, Int.toNat_natCast, Int.reduceToNat, Int.cast_ofNat_Int, Int.natCast_nonneg, h']
          refine LoopNext.intro (x + 1) (by omega) (by omega) ⟨[((1,0),(1,0)), ((4,0),(4,0)), ((7,0),(7,0))], rfl, ?_, ?_⟩
          · simp [wkEnv, lk, renV, renAt, renTo, e0, e1, w, mkT, renCaps]
          · simp [wkMem, wkLoc, Mem.get, assoc, renBlk, renSegs, renSg, renTo, e0, e1, w, mkT, renCaps]
    · have hxN : x = N := by omega
      subst hxN
      simp only [absE, absL, absF, reduceCtorEq, ↓reduceIte, Nat.reduceEqDiff, Nat.reduceAdd, Nat.reduceLT, Nat.reduceMul, Nat.reduceSub, Nat.reduceLeDiff, Int.reduceLT, Int.reduceLE, Int.reduceEq, Option.isSome_some, implies_true, false_implies, Prod.mk.injEq, ne_eq, not_false_eq_true, not_true_eq_false, ge_iff_le, gt_iff_lt, Int.toNat_natCast, Int.reduceToNat, Int.cast_ofNat_Int, Int.natCast_nonneg, h, Try.results140]
      exact ⟨[], by simp, by simp, by simp [renV, renVs, renSegs, renSg, renBlk, e0, e1]⟩
theorem made3_ok (N : Nat) (hN : N ≤ 10) (f : FuncId) (g : Nat → Nat → Nat) (g0 g1 g2 : Segs) (e0 : ∀ ρ, renSegs ρ g0 = g0) (e1 : ∀ ρ, renSegs ρ g1 = g1) (e2 : ∀ ρ, renSegs ρ g2 = g2)
    (hf : ∀ x y, x < N → y < N → ACalls Try.prog f (.i .u8 x :: .i .u8 y :: [.ref (.ptr 0 0 0 0), .ref (.ptr 0 1 0 0), .ref (.ptr 0 2 0 0)]) [.lv true g0, .lv true g1, .lv true g2] (fun v ms ns => v = .i .u8 (g x y) ∧ ms = [.lv true g0, .lv true g1, .lv true g2] ∧ ns = [])) :
    ACalls Try.prog 140 [.i .i64 N, .ref (.fn f [(0, 0, 0, 0), (0, 1, 0, 0), (0, 2, 0, 0)])] [.lv true g0, .lv true g1, .lv true g2] (fun v ms ns => v = .agg (sqS N (mkT g N N)) ∧ ms = [.lv true g0, .lv true g1, .lv true g2] ∧ ns = []) := by
  refine acalls_of_body mix Try.func140 rfl fok140 (Nat.le_of_ble_eq_true rfl) ?_
  unfold abody
  simp only [absE, absL, absF, reduceCtorEq, ↓reduceIte, Nat.reduceEqDiff, Nat.reduceAdd, Nat.reduceLT, Nat.reduceMul, Nat.reduceSub, Nat.reduceLeDiff, Int.reduceLT, Int.reduceLE, Int.reduceEq, Option.isSome_some, implies_true, false_implies, Prod.mk.injEq, ne_eq, not_false_eq_true, not_true_eq_false, ge_iff_le, gt_iff_lt, Int.toNat_natCast, Int.reduceToNat, Int.cast_ofNat_Int, Int.natCast_nonneg, Try.f140]
  refine CallsVia.none (elements_ok N (List.replicate 100 0) hN) ?_
  rintro _ _ _ ⟨rfl, rfl, rfl⟩
  simp only [absE, absL, absF, reduceCtorEq, ↓reduceIte, Nat.reduceEqDiff, Nat.reduceAdd, Nat.reduceLT, Nat.reduceMul, Nat.reduceSub, Nat.reduceLeDiff, Int.reduceLT, Int.reduceLE, Int.reduceEq, Option.isSome_some, implies_true, false_implies, Prod.mk.injEq, ne_eq, not_false_eq_true, not_true_eq_false, ge_iff_le, gt_iff_lt, Int.toNat_natCast, Int.reduceToNat, Int.cast_ofNat_Int, Int.natCast_nonneg]
  refine awpLoop.intro (fun x : Nat => [(1, .ref (.fn f [(0, 0, 0, 0), (0, 1, 0, 0), (0, 2, 0, 0)])), (4, .ref (.ptr 1 0 0 0)), (5, .ref (.ptr 4 0 0 0)), (13, .ref (.sl 7 0 0 0 N 1)), (14, .i .i64 N), (15, .i .i64 x)]) (fun x => ⟨[.lv true g0, .lv true g1, .lv true g2], [((1, 0), .lv true (sqS 0 (List.replicate 100 0))), ((4, 0), .lv true (sqS N (mkT g N x))), ((7, 0), .lv true ([(0, .ints .u8 N (bytesTo N))]))], 10⟩)
    (fun x => x ≤ N) (fun x => N - x) 0 (by omega) ⟨[((1,0),(1,0)), ((4,0),(4,0)), ((7,0),(7,0))], rfl, ?_, ?_⟩ ?_
  · simp [wkEnv, lk, renV, renAt, renTo, e0, e1, e2, mkT, renCaps]
  · simp [wkMem, wkLoc, Mem.get, assoc, renBlk, renSegs, renSg, renTo, e0, e1, e2, mkT, renCaps]
  · intro x hx
    by_cases h : (x : Int) < N
    · have w := wrap_i64s (show x < 2 ^ 62 by omega)
      have b1 : (bytesTo N).getD (0 + x * 1) 0 = (x : Int) := by rw [Nat.zero_add, Nat.mul_one]; exact bytesTo_get (by omega)
      have v1 : 0 + x * 1 < N := by omega
      have i1 : (x : Int) < 10 := by omega
      simp only [absE, absL, absF, reduceCtorEq, ↓reduceIte, Nat.reduceEqDiff, Nat.reduceAdd, Nat.reduceLT, Nat.reduceMul, Nat.reduceSub, Nat.reduceLeDiff, Int.reduceLT, Int.reduceLE, Int.reduceEq, Option.isSome_some, implies_true, false_implies, Prod.mk.injEq, ne_eq, not_false_eq_true, not_true_eq_false, ge_iff_le, gt_iff_lt, Int.toNat_natCast, Int.reduceToNat, Int.cast_ofNat_Int, Int.natCast_nonneg, h, b1, v1]
      refine CallsVia.none (elements_ok N (mkT g N x) hN) ?_
      rintro _ _ _ ⟨rfl, rfl, rfl⟩
      simp only [absE, absL, absF, reduceCtorEq, ↓reduceIte, Nat.reduceEqDiff, Nat.reduceAdd, Nat.reduceLT, Nat.reduceMul, Nat.reduceSub, Nat.reduceLeDiff, Int.reduceLT, Int.reduceLE, Int.reduceEq, Option.isSome_some, implies_true, false_implies, Prod.mk.injEq, ne_eq, not_false_eq_true, not_true_eq_false, ge_iff_le, gt_iff_lt, Int.toNat_natCast, Int.reduceToNat, Int.cast_ofNat_Int, Int.natCast_nonneg]
      refine awpLoop.intro (fun y : Nat => [(1, .ref (.fn f [(0, 0, 0, 0), (0, 1, 0, 0), (0, 2, 0, 0)])), (4, .ref (.ptr 1 0 0 0)), (5, .ref (.ptr 4 0 0 0)), (13, .ref (.sl 7 0 0 0 N 1)), (14, .i .i64 N), (15, .i .i64 x), (7, .i .u8 x), (20, .ref (.sl 15 0 0 0 N 1)), (21, .i .i64 N), (22, .i .i64 y)]) (fun y => ⟨[.lv true g0, .lv true g1, .lv true g2], [((1, 0), .lv true (sqS 0 (List.replicate 100 0))), ((4, 0), .lv true (sqS N (mkIn g x (mkT g N x) y))), ((7, 0), .lv true ([(0, .ints .u8 N (bytesTo N))])), ((15, 0), .lv true ([(0, .ints .u8 N (bytesTo N))]))], 18⟩)
        (fun y => y ≤ N) (fun y => N - y) 0 (by omega) ⟨[((1,0),(1,0)), ((4,0),(4,0)), ((7,0),(7,0)), ((15,0),(15,0))], rfl, ?_, ?_⟩ ?_
      · simp [wkEnv, lk, renV, renAt, renTo, e0, e1, e2, mkIn, renCaps]
      · simp [wkMem, wkLoc, Mem.get, assoc, renBlk, renSegs, renSg, renTo, e0, e1, e2, mkIn, renCaps]
      · intro y hy
        by_cases h' : (y : Int) < N
        · have w' := wrap_i64s (show y < 2 ^ 62 by omega)
          have b2 : (bytesTo N).getD (0 + y * 1) 0 = (y : Int) := by rw [Nat.zero_add, Nat.mul_one]; exact bytesTo_get (by omega)
          have v2 : 0 + y * 1 < N := by omega
          have i2 : (y : Int) < 10 := by omega
          have u2 : 0 + x * 10 + y * 1 + 1 ≤ 100 := by omega
          simp only [absE, absL, absF, reduceCtorEq, ↓reduceIte, Nat.reduceEqDiff, Nat.reduceAdd, Nat.reduceLT, Nat.reduceMul, Nat.reduceSub, Nat.reduceLeDiff, Int.reduceLT, Int.reduceLE, Int.reduceEq, Option.isSome_some, implies_true, false_implies, Prod.mk.injEq, ne_eq, not_false_eq_true, not_true_eq_false, ge_iff_le, gt_iff_lt, Int.toNat_natCast, Int.reduceToNat, Int.cast_ofNat_Int, Int.natCast_nonneg, h', b2, v2]
          refine CallsX.args [(0, 0), (0, 1), (0, 2)] (hf x y (by omega) (by omega)) (by simp) (by simp [Mem.get]) rfl (by simp [argBlks, Mem.get, renBlk, e0, e1, e2]) ?_
          simp only [absE, absL, absF, reduceCtorEq, ↓reduceIte, Nat.reduceEqDiff, Nat.reduceAdd, Nat.reduceLT, Nat.reduceMul, Nat.reduceSub, Nat.reduceLeDiff, Int.reduceLT, Int.reduceLE, Int.reduceEq, Option.isSome_some, implies_true, false_implies, Prod.mk.injEq, ne_eq, not_false_eq_true, not_true_eq_false, ge_iff_le, gt_iff_lt, Int.toNat_natCast, Int.reduceToNat, Int.cast_ofNat_Int, Int.natCast_nonneg, i1, i2, u2, e0, e1, e2]
          refine ⟨by decide, LoopNext.intro (y + 1) (by omega) (by omega) ⟨[((1,0),(1,0)), ((4,0),(4,0)), ((7,0),(7,0)), ((15,0),(15,0))], rfl, ?_, ?_⟩⟩
          · simp [wkEnv, lk, renV, renAt, renTo, e0, e1, e2, w', mkIn, renCaps]
          · simp [wkMem, wkLoc, Mem.get, assoc, renBlk, renSegs, renSg, renTo, e0, e1, e2, w', mkIn, renCaps]
        · have hyN : y = N := by omega
          subst hyN
          simp only [absE, absL, absF, reduceCtorEq, ↓reduceIte, Nat.reduceEqDiff, Nat.reduceAdd, Nat.reduceLT, Nat.reduceMul, Nat.reduceSub, Nat.reduceLeDiff, Int.reduceLT, Int.reduceLE, Int.reduceEq, Option.isSome_some, implies_true, false_implies, Prod.mk.injEq, ne_eq, not_false_eq_true, not_true_eq_false, ge_iff_le, gt_iff_lt, Int.toNat_natCast, Int.reduceToNat, Int.cast_ofNat_Int, Int.natCast_nonneg, h']
          refine LoopNext.intro (x + 1) (by omega) (by omega) ⟨[((1,0),(1,0)), ((4,0),(4,0)), ((7,0),(7,0))], rfl, ?_, ?_⟩
          · simp [wkEnv, lk, renV, renAt, renTo, e0, e1, e2, w, mkT, renCaps]
          · simp [wkMem, wkLoc, Mem.get, assoc, renBlk, renSegs, renSg, renTo, e0, e1, e2, w, mkT, renCaps]
    · have hxN : x = N := by omega
      subst hxN
      simp only [absE, absL, absF, reduceCtorEq, ↓reduceIte, Nat.reduceEqDiff, Nat.reduceAdd, Nat.reduceLT, Nat.reduceMul, Nat.reduceSub, Nat.reduceLeDiff, Int.reduceLT, Int.reduceLE, Int.reduceEq, Option.isSome_some, implies_true, false_implies, Prod.mk.injEq, ne_eq, not_false_eq_true, not_true_eq_false, ge_iff_le, gt_iff_lt, Int.toNat_natCast, Int.reduceToNat, Int.cast_ofNat_Int, Int.natCast_nonneg, h, Try.results140]
      exact ⟨[], by simp, by simp, by simp [renV, renVs, renSegs, renSg, renBlk, e0, e1, e2]⟩

end Go.Proofs.Ytoccbgffekhcaaa
