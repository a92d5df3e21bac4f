/-
Contracts of functions of the given program, by the abstract walk.
-/
import Derived.Test.YtnophcdinideaaaAbsW
import Derived.Test.YtnophcdinideaaaDo
namespace Go.Proofs.Ytnophcdinideaaa
open Go Go.Abs
set_option linter.unusedVariables false
set_option linter.unusedSectionVars false
set_option linter.unusedSimpArgs false
set_option maxRecDepth 100000
/-! 'those' and 'forPairs' for closures that capture a slice's variable -/
theorem thoseC_ok (N : Nat) (t : List Int) (hN : N ≤ 10) (f : FuncId) (p : Nat → Bool) (k : Nat) (xs : List Int)
    (hf : ∀ z, z < N → ACalls Try.prog f (.i .u8 z :: [.ref (.ptr 0 0 0 0)]) [.lv true [(0, .cells 1 [.sl 0 1 0 0 k 1])], .lv true [(0, .ints .i64 k xs)]] (fun v ms ns => v = .b (p z) ∧ ms = [.lv true [(0, .cells 1 [.sl 0 1 0 0 k 1])], .lv true [(0, .ints .i64 k xs)]] ∧ ns = [])) :
    ACalls Try.prog 82 [.agg (sqS N t), .ref (.fn f [(0, 0, 0, 0)])] [.lv true [(0, .cells 1 [.sl 0 1 0 0 k 1])], .lv true [(0, .ints .i64 k xs)]] (fun v ms ns => v = .i .i64 (setM p N) ∧ ms = [.lv true [(0, .cells 1 [.sl 0 1 0 0 k 1])], .lv true [(0, .ints .i64 k xs)]] ∧ ns = []) := by
  refine acalls_of_body mix Try.func82 rfl fok82 (Nat.le_of_ble_eq_true rfl) ?_
  unfold abody
  simp only [absE, absL, absF, reduceCtorEq, ↓reduceIte, Nat.reduceEqDiff, Nat.reduceAdd, Nat.reduceLT, Nat.reduceMul, Nat.reduceSub, Nat.reduceLeDiff, Int.reduceLT, Int.reduceLE, Int.reduceEq, Option.isSome_some, implies_true, false_implies, Prod.mk.injEq, ne_eq, not_false_eq_true, not_true_eq_false, ge_iff_le, gt_iff_lt, Int.toNat_natCast, Int.reduceToNat, Int.cast_ofNat_Int, Int.natCast_nonneg, Try.f82]
  refine CallsVia.none (elements_ok N t hN) ?_
  rintro _ _ _ ⟨rfl, rfl, rfl⟩
  simp only [absE, absL, absF, reduceCtorEq, ↓reduceIte, Nat.reduceEqDiff, Nat.reduceAdd, Nat.reduceLT, Nat.reduceMul, Nat.reduceSub, Nat.reduceLeDiff, Int.reduceLT, Int.reduceLE, Int.reduceEq, Option.isSome_some, implies_true, false_implies, Prod.mk.injEq, ne_eq, not_false_eq_true, not_true_eq_false, ge_iff_le, gt_iff_lt, Int.toNat_natCast, Int.reduceToNat, Int.cast_ofNat_Int, Int.natCast_nonneg]
  refine awpLoop.intro (fun x : Nat => [(1, .ref (.fn f [(0, 0, 0, 0)])), (2, .ref (.ptr 1 0 0 0)), (5, .i .i64 (setM p x : Nat)), (9, .ref (.sl 5 0 0 0 N 1)), (10, .i .i64 N), (11, .i .i64 x)]) (fun x => ⟨[.lv true [(0, .cells 1 [.sl 0 1 0 0 k 1])], .lv true [(0, .ints .i64 k xs)]], [((1, 0), .lv true (sqS N t)), ((5, 0), .lv true ([(0, .ints .u8 N (bytesTo N))]))], 8⟩)
    (fun x => x ≤ N) (fun x => N - x) 0 (by omega) ⟨[((1,0),(1,0)), ((5,0),(5,0))], rfl, ?_, ?_⟩ ?_
  · simp [wkEnv, lk, renV, renAt, renTo, renAt, renTo, renFin, renSegs, renSg, setM, renCaps]
  · simp [wkMem, wkLoc, Mem.get, assoc, renBlk, renSegs, renSg, renTo, renAt, renTo, renFin, renSegs, renSg, setM, renCaps]
  · intro x hx
    have hl := setM_lt (p := p) (k := x)
    have hl2 : (2 : Nat) ^ x ≤ 2 ^ 10 := Nat.pow_le_pow_right (by decide) (by omega)
    by_cases h : (x : Int) < N
    · have w := wrap_i64s (show x < 2 ^ 62 by omega)
      have b1 : (bytesTo N).getD (0 + x * 1) 0 = (x : Int) := by rw [Nat.zero_add, Nat.mul_one]; exact bytesTo_get (by omega)
      have v1 : 0 + x * 1 < N := by omega
      have s1 := wrap_shl (c := x) (by omega)
      have o1 := wrap_or (a := setM p x) (b := 2 ^ x) (by omega) (by omega)
      have z1 : (0 : Int) ≤ (x : Int) := by omega
      simp only [absE, absL, absF, reduceCtorEq, ↓reduceIte, Nat.reduceEqDiff, Nat.reduceAdd, Nat.reduceLT, Nat.reduceMul, Nat.reduceSub, Nat.reduceLeDiff, Int.reduceLT, Int.reduceLE, Int.reduceEq, Option.isSome_some, implies_true, false_implies, Prod.mk.injEq, ne_eq, not_false_eq_true, not_true_eq_false, ge_iff_le, gt_iff_lt, Int.toNat_natCast, Int.reduceToNat, Int.cast_ofNat_Int, Int.natCast_nonneg, h, b1, v1]
      refine CallsVia.args [(0, 0), (0, 1)] (hf x (by omega)) (by simp) (by simp [Mem.get]) rfl (by simp [argBlks, Mem.get, renBlk, renAt, renTo, renFin, renSegs, renSg, renIn, idx]) ?_
      rintro _ _ _ ⟨rfl, rfl, rfl⟩
      cases hb : p x
      · simp only [absE, absL, absF, reduceCtorEq, ↓reduceIte, Nat.reduceEqDiff, Nat.reduceAdd, Nat.reduceLT, Nat.reduceMul, Nat.reduceSub, Nat.reduceLeDiff, Int.reduceLT, Int.reduceLE, Int.reduceEq, Option.isSome_some, implies_true, false_implies, Prod.mk.injEq, ne_eq, not_false_eq_true, not_true_eq_false, ge_iff_le, gt_iff_lt, Int.toNat_natCast, Int.reduceToNat, Int.cast_ofNat_Int, Int.natCast_nonneg, renAt, renTo, renFin, renSegs, renSg, renIn, idx]
        refine LoopNext.intro (x + 1) (by omega) (by omega) ⟨[((1,0),(1,0)), ((5,0),(5,0))], rfl, ?_, ?_⟩
        · simp [wkEnv, lk, renV, renAt, renTo, renAt, renTo, renFin, renSegs, renSg, w, setM, hb, renCaps]
        · simp [wkMem, wkLoc, Mem.get, assoc, renBlk, renSegs, renSg, renTo, renAt, renTo, renFin, renSegs, renSg, w, setM, hb, renCaps]
      · simp only [absE, absL, absF, reduceCtorEq, ↓reduceIte, Nat.reduceEqDiff, Nat.reduceAdd, Nat.reduceLT, Nat.reduceMul, Nat.reduceSub, Nat.reduceLeDiff, Int.reduceLT, Int.reduceLE, Int.reduceEq, Option.isSome_some, implies_true, false_implies, Prod.mk.injEq, ne_eq, not_false_eq_true, not_true_eq_false, ge_iff_le, gt_iff_lt, Int.toNat_natCast, Int.reduceToNat, Int.cast_ofNat_Int, Int.natCast_nonneg, z1, s1, o1, renAt, renTo, renFin, renSegs, renSg, renIn, idx]
        refine LoopNext.intro (x + 1) (by omega) (by omega) ⟨[((1,0),(1,0)), ((5,0),(5,0))], rfl, ?_, ?_⟩
        · simp [wkEnv, lk, renV, renAt, renTo, renAt, renTo, renFin, renSegs, renSg, w, setM, hb, renCaps]
        · simp [wkMem, wkLoc, Mem.get, assoc, renBlk, renSegs, renSg, renTo, renAt, renTo, renFin, renSegs, renSg, w, setM, hb, renCaps]
    · have hxN : x = N := by omega
      subst hxN
      simp only [absE, absL, absF, reduceCtorEq, ↓reduceIte, Nat.reduceEqDiff, Nat.reduceAdd, Nat.reduceLT, Nat.reduceMul, Nat.reduceSub, Nat.reduceLeDiff, Int.reduceLT, Int.reduceLE, Int.reduceEq, Option.isSome_some, implies_true, false_implies, Prod.mk.injEq, ne_eq, not_false_eq_true, not_true_eq_false, ge_iff_le, gt_iff_lt, Int.toNat_natCast, Int.reduceToNat, Int.cast_ofNat_Int, Int.natCast_nonneg, h, Try.results82]
      exact ⟨[], by simp, by simp, by simp [renV, renVs, renSegs, renSg, renBlk, renAt, renTo, renFin, renSegs, renSg, renIn, idx]⟩
theorem forPairsC_ok (N : Nat) (t : List Int) (hN : N ≤ 10) (f : FuncId) (g : Nat → Nat → Bool) (k : Nat) (xs : List Int) (g0 g2 : Segs) (e0 : ∀ ρ, renSegs ρ g0 = g0) (e2 : ∀ ρ, renSegs ρ g2 = g2)
    (hf : ∀ x y, x < N → y < N → ACalls Try.prog f (.i .u8 x :: .i .u8 y :: [.ref (.ptr 0 0 0 0), .ref (.ptr 0 1 0 0), .ref (.ptr 0 2 0 0)]) [.lv true g0, .lv true [(0, .cells 1 [.sl 0 3 0 0 k 1])], .lv true g2, .lv true [(0, .ints .i64 k xs)]] (fun v ms ns => v = .b (g x y) ∧ ms = [.lv true g0, .lv true [(0, .cells 1 [.sl 0 3 0 0 k 1])], .lv true g2, .lv true [(0, .ints .i64 k xs)]] ∧ ns = [])) :
    ACalls Try.prog 122 [.agg (sqS N t), .ref (.fn f [(0, 0, 0, 0), (0, 1, 0, 0), (0, 2, 0, 0)])] [.lv true g0, .lv true [(0, .cells 1 [.sl 0 3 0 0 k 1])], .lv true g2, .lv true [(0, .ints .i64 k xs)]] (fun v ms ns => v = .b (pairsB N g) ∧ ms = [.lv true g0, .lv true [(0, .cells 1 [.sl 0 3 0 0 k 1])], .lv true g2, .lv true [(0, .ints .i64 k xs)]] ∧ ns = []) := by
  refine acalls_of_body mix Try.func122 rfl fok122 (Nat.le_of_ble_eq_true rfl) ?_
  unfold abody
  simp only [absE, absL, absF, reduceCtorEq, ↓reduceIte, Nat.reduceEqDiff, Nat.reduceAdd, Nat.reduceLT, Nat.reduceMul, Nat.reduceSub, Nat.reduceLeDiff, Int.reduceLT, Int.reduceLE, Int.reduceEq, Option.isSome_some, implies_true, false_implies, Prod.mk.injEq, ne_eq, not_false_eq_true, not_true_eq_false, ge_iff_le, gt_iff_lt, Int.toNat_natCast, Int.reduceToNat, Int.cast_ofNat_Int, Int.natCast_nonneg, Try.f122]
  refine CallsVia.none (elements_ok N t hN) ?_
  rintro _ _ _ ⟨rfl, rfl, rfl⟩
  simp only [absE, absL, absF, reduceCtorEq, ↓reduceIte, Nat.reduceEqDiff, Nat.reduceAdd, Nat.reduceLT, Nat.reduceMul, Nat.reduceSub, Nat.reduceLeDiff, Int.reduceLT, Int.reduceLE, Int.reduceEq, Option.isSome_some, implies_true, false_implies, Prod.mk.injEq, ne_eq, not_false_eq_true, not_true_eq_false, ge_iff_le, gt_iff_lt, Int.toNat_natCast, Int.reduceToNat, Int.cast_ofNat_Int, Int.natCast_nonneg]
  refine awpLoop.intro (fun x : Nat => [(1, .ref (.fn f [(0, 0, 0, 0), (0, 1, 0, 0), (0, 2, 0, 0)])), (2, .ref (.ptr 1 0 0 0)), (10, .ref (.sl 4 0 0 0 N 1)), (11, .i .i64 N), (12, .i .i64 x)]) (fun x => ⟨[.lv true g0, .lv true [(0, .cells 1 [.sl 0 3 0 0 k 1])], .lv true g2, .lv true [(0, .ints .i64 k xs)]], [((1, 0), .lv true (sqS N t)), ((4, 0), .lv true ([(0, .ints .u8 N (bytesTo N))]))], 7⟩)
    (fun x => x ≤ N ∧ ∀ j, j < x → ∀ y, y < N → g j y = true) (fun x => N - x) 0 ⟨by omega, fun j hj => absurd hj (by omega)⟩ ⟨[((1,0),(1,0)), ((4,0),(4,0))], rfl, ?_, ?_⟩ ?_
  · simp [wkEnv, lk, renV, renAt, renTo, e0, e2, renAt, renTo, renFin, renSegs, renSg, renIn, renCaps]
  · simp [wkMem, wkLoc, Mem.get, assoc, renBlk, renSegs, renSg, renTo, e0, e2, renAt, renTo, renFin, renSegs, renSg, renIn, renCaps]
  · rintro x ⟨hx, hp⟩
    by_cases h : (x : Int) < N
    · have w := wrap_i64s (show x < 2 ^ 62 by omega)
      have b1 : (bytesTo N).getD (0 + x * 1) 0 = (x : Int) := by rw [Nat.zero_add, Nat.mul_one]; exact bytesTo_get (by omega)
      have v1 : 0 + x * 1 < N := by omega
      simp only [absE, absL, absF, reduceCtorEq, ↓reduceIte, Nat.reduceEqDiff, Nat.reduceAdd, Nat.reduceLT, Nat.reduceMul, Nat.reduceSub, Nat.reduceLeDiff, Int.reduceLT, Int.reduceLE, Int.reduceEq, Option.isSome_some, implies_true, false_implies, Prod.mk.injEq, ne_eq, not_false_eq_true, not_true_eq_false, ge_iff_le, gt_iff_lt, Int.toNat_natCast, Int.reduceToNat, Int.cast_ofNat_Int, Int.natCast_nonneg, h, b1, v1]
      refine CallsVia.none (elements_ok N t hN) ?_
      rintro _ _ _ ⟨rfl, rfl, rfl⟩
      simp only [absE, absL, absF, reduceCtorEq, ↓reduceIte, Nat.reduceEqDiff, Nat.reduceAdd, Nat.reduceLT, Nat.reduceMul, Nat.reduceSub, Nat.reduceLeDiff, Int.reduceLT, Int.reduceLE, Int.reduceEq, Option.isSome_some, implies_true, false_implies, Prod.mk.injEq, ne_eq, not_false_eq_true, not_true_eq_false, ge_iff_le, gt_iff_lt, Int.toNat_natCast, Int.reduceToNat, Int.cast_ofNat_Int, Int.natCast_nonneg]
      refine awpLoop.intro (fun y : Nat => [(1, .ref (.fn f [(0, 0, 0, 0), (0, 1, 0, 0), (0, 2, 0, 0)])), (2, .ref (.ptr 1 0 0 0)), (10, .ref (.sl 4 0 0 0 N 1)), (11, .i .i64 N), (12, .i .i64 x), (6, .i .u8 x), (17, .ref (.sl 12 0 0 0 N 1)), (18, .i .i64 N), (19, .i .i64 y)]) (fun y => ⟨[.lv true g0, .lv true [(0, .cells 1 [.sl 0 3 0 0 k 1])], .lv true g2, .lv true [(0, .ints .i64 k xs)]], [((1, 0), .lv true (sqS N t)), ((4, 0), .lv true ([(0, .ints .u8 N (bytesTo N))])), ((12, 0), .lv true ([(0, .ints .u8 N (bytesTo N))]))], 15⟩)
        (fun y => y ≤ N ∧ ∀ j, j < y → g x j = true) (fun y => N - y) 0 ⟨by omega, fun j hj => absurd hj (by omega)⟩ ⟨[((1,0),(1,0)), ((4,0),(4,0)), ((12,0),(12,0))], rfl, ?_, ?_⟩ ?_
      · simp [wkEnv, lk, renV, renAt, renTo, e0, e2, renAt, renTo, renFin, renSegs, renSg, renIn, renCaps]
      · simp [wkMem, wkLoc, Mem.get, assoc, renBlk, renSegs, renSg, renTo, e0, e2, renAt, renTo, renFin, renSegs, renSg, renIn, renCaps]
      · rintro y ⟨hy, hq⟩
        by_cases h' : (y : Int) < N
        · have w' := wrap_i64s (show y < 2 ^ 62 by omega)
          have b2 : (bytesTo N).getD (0 + y * 1) 0 = (y : Int) := by rw [Nat.zero_add, Nat.mul_one]; exact bytesTo_get (by omega)
          have v2 : 0 + y * 1 < N := by omega
          simp only [absE, absL, absF, reduceCtorEq, ↓reduceIte, Nat.reduceEqDiff, Nat.reduceAdd, Nat.reduceLT, Nat.reduceMul, Nat.reduceSub, Nat.reduceLeDiff, Int.reduceLT, Int.reduceLE, Int.reduceEq, Option.isSome_some, implies_true, false_implies, Prod.mk.injEq, ne_eq, not_false_eq_true, not_true_eq_false, ge_iff_le, gt_iff_lt, Int.toNat_natCast, Int.reduceToNat, Int.cast_ofNat_Int, Int.natCast_nonneg, h', b2, v2]
          refine CallsVia.args [(0, 0), (0, 1), (0, 2), (0, 3)] (hf x y (by omega) (by omega)) (by simp) (by simp [Mem.get]) rfl (by simp [argBlks, Mem.get, renBlk, e0, e2, renAt, renTo, renFin, renSegs, renSg, renIn, idx]) ?_
          rintro _ _ _ ⟨rfl, rfl, rfl⟩
          cases hb : g x y
          · simp only [absE, absL, absF, reduceCtorEq, ↓reduceIte, Nat.reduceEqDiff, Nat.reduceAdd, Nat.reduceLT, Nat.reduceMul, Nat.reduceSub, Nat.reduceLeDiff, Int.reduceLT, Int.reduceLE, Int.reduceEq, Option.isSome_some, implies_true, false_implies, Prod.mk.injEq, ne_eq, not_false_eq_true, not_true_eq_false, ge_iff_le, gt_iff_lt, Int.toNat_natCast, Int.reduceToNat, Int.cast_ofNat_Int, Int.natCast_nonneg, e0, e2, renAt, renTo, renFin, renSegs, renSg, Try.results122]
            have hf : pairsB N g = false := pairsB_false fun hu => by rw [hu x (by omega) y (by omega)] at hb; cases hb
            exact ⟨[], by simp, by simp, by simp [renV, renVs, renSegs, renSg, renBlk, e0, e2, renAt, renTo, renFin, renSegs, renSg, hf]⟩
          · simp only [absE, absL, absF, reduceCtorEq, ↓reduceIte, Nat.reduceEqDiff, Nat.reduceAdd, Nat.reduceLT, Nat.reduceMul, Nat.reduceSub, Nat.reduceLeDiff, Int.reduceLT, Int.reduceLE, Int.reduceEq, Option.isSome_some, implies_true, false_implies, Prod.mk.injEq, ne_eq, not_false_eq_true, not_true_eq_false, ge_iff_le, gt_iff_lt, Int.toNat_natCast, Int.reduceToNat, Int.cast_ofNat_Int, Int.natCast_nonneg, e0, e2, renAt, renTo, renFin, renSegs, renSg, renIn, idx]
            refine LoopNext.intro (y + 1) ⟨by omega, fun j hj => ?_⟩ (by omega) ⟨[((1,0),(1,0)), ((4,0),(4,0)), ((12,0),(12,0))], rfl, ?_, ?_⟩
            · by_cases ej : j = y
              · subst ej; exact hb
              · exact hq j (by omega)
            · simp [wkEnv, lk, renV, renAt, renTo, e0, e2, renAt, renTo, renFin, renSegs, renSg, w', renCaps]
            · simp [wkMem, wkLoc, Mem.get, assoc, renBlk, renSegs, renSg, renTo, e0, e2, renAt, renTo, renFin, renSegs, renSg, w', renCaps]
        · simp only [absE, absL, absF, reduceCtorEq, ↓reduceIte, Nat.reduceEqDiff, Nat.reduceAdd, Nat.reduceLT, Nat.reduceMul, Nat.reduceSub, Nat.reduceLeDiff, Int.reduceLT, Int.reduceLE, Int.reduceEq, Option.isSome_some, implies_true, false_implies, Prod.mk.injEq, ne_eq, not_false_eq_true, not_true_eq_false, ge_iff_le, gt_iff_lt, Int.toNat_natCast, Int.reduceToNat, Int.cast_ofNat_Int, Int.natCast_nonneg, h', w]
          refine LoopNext.intro (x + 1) ⟨by omega, fun j hj => ?_⟩ (by omega) ⟨[((1,0),(1,0)), ((4,0),(4,0))], rfl, ?_, ?_⟩
          · by_cases ej : j = x
            · subst ej; exact fun y hy' => hq y (by omega)
            · exact hp j (by omega)
          · simp [wkEnv, lk, renV, renAt, renTo, e0, e2, renAt, renTo, renFin, renSegs, renSg, renIn, renCaps]
          · simp [wkMem, wkLoc, Mem.get, assoc, renBlk, renSegs, renSg, renTo, e0, e2, renAt, renTo, renFin, renSegs, renSg, renIn, renCaps]
    · simp only [absE, absL, absF, reduceCtorEq, ↓reduceIte, Nat.reduceEqDiff, Nat.reduceAdd, Nat.reduceLT, Nat.reduceMul, Nat.reduceSub, Nat.reduceLeDiff, Int.reduceLT, Int.reduceLE, Int.reduceEq, Option.isSome_some, implies_true, false_implies, Prod.mk.injEq, ne_eq, not_false_eq_true, not_true_eq_false, ge_iff_le, gt_iff_lt, Int.toNat_natCast, Int.reduceToNat, Int.cast_ofNat_Int, Int.natCast_nonneg, h, Try.results122]
      have hf : pairsB N g = true := pairsB_true fun j hj => hp j (by omega)
      exact ⟨[], by simp, by simp, by simp [renV, renVs, renSegs, renSg, renBlk, e0, e2, renAt, renTo, renFin, renSegs, renSg, hf]⟩

end Go.Proofs.Ytnophcdinideaaa
