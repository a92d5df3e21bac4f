/-
Contracts of functions of the given program, by the abstract walk.
-/
import Derived.Test.YtoccbgffekhcaaaAbsY
import Derived.Test.YtoccbgffekhcaaaFc
namespace Go.Proofs.Ytoccbgffekhcaaa
open Go Go.Abs
set_option linter.unusedVariables false
set_option linter.unusedSectionVars false
set_option linter.unusedSimpArgs false
set_option maxRecDepth 100000
theorem eqByteA10_ok (a b : List Int) (ha : a.length = 10) (hb : b.length = 10) : ACalls Try.prog 155 [.agg (plS a), .agg (plS b)] [] (fun r ms ns => r = .b (decide (a = b)) ∧ ms = [] ∧ ns = []) := by
  refine acalls_of_body mix Try.func155 rfl fok155 (Nat.le_of_ble_eq_true rfl) ?_
  unfold abody
  simp only [absE, absL, absF, reduceCtorEq, ↓reduceIte, Nat.reduceEqDiff, Nat.reduceAdd, Nat.reduceLT, Nat.reduceMul, Nat.reduceSub, Nat.reduceLeDiff, Int.reduceLT, Int.reduceLE, Int.reduceEq, Option.isSome_some, implies_true, false_implies, Prod.mk.injEq, ne_eq, not_false_eq_true, not_true_eq_false, ge_iff_le, gt_iff_lt, Int.toNat_natCast, Int.reduceToNat, Int.cast_ofNat_Int, Int.natCast_nonneg, Try.f155]
  refine awpLoop.intro (fun i : Nat => [(2, .ref (.ptr 1 0 0 0)), (3, .ref (.ptr 2 0 0 0)), (5, .i .i64 i)]) (fun i => ⟨[], [((1, 0), .lv true (plS a)), ((2, 0), .lv true (plS b))], 4⟩)
    (fun i => i ≤ 10 ∧ ∀ j, j < i → a.getD j 0 = b.getD j 0) (fun i => 10 - i) 0 ⟨by omega, fun x' h => absurd h (by simp)⟩ ⟨[((1,0),(1,0)), ((2,0),(2,0))], rfl, ?_, ?_⟩ ?_
  · simp [wkEnv, lk, renV, renAt, renTo]
  · simp [wkMem, wkLoc, Mem.get, assoc, renBlk, renSegs, renSg, renTo]
  · rintro i ⟨hi, hp⟩
    by_cases h : (i : Int) < 10
    · have w : IntKind.i64.wrap ((i : Int) + 1) = ((i + 1 : Nat) : Int) := by rw [wrap_i64 (by omega) (by omega)]; omega
      have u : 0 + i * 1 < 10 := by omega
      by_cases e : a.getD (0 + i * 1) 0 = b.getD (0 + i * 1) 0
      · simp only [absE, absL, absF, reduceCtorEq, ↓reduceIte, Nat.reduceEqDiff, Nat.reduceAdd, Nat.reduceLT, Nat.reduceMul, Nat.reduceSub, Nat.reduceLeDiff, Int.reduceLT, Int.reduceLE, Int.reduceEq, Option.isSome_some, implies_true, false_implies, Prod.mk.injEq, ne_eq, not_false_eq_true, not_true_eq_false, ge_iff_le, gt_iff_lt, Int.toNat_natCast, Int.reduceToNat, Int.cast_ofNat_Int, Int.natCast_nonneg, h, u, e]
        refine LoopNext.intro (i + 1) ⟨by omega, fun j hj => ?_⟩ (by omega) ⟨[((1,0),(1,0)), ((2,0),(2,0))], rfl, ?_, ?_⟩
        · by_cases e2 : j = i
          · subst e2; simpa using e
          · exact hp j (by omega)
        · simp [wkEnv, lk, renV, renAt, renTo, w]
        · simp [wkMem, wkLoc, Mem.get, assoc, renBlk, renSegs, renSg, renTo]
      · simp only [absE, absL, absF, reduceCtorEq, ↓reduceIte, Nat.reduceEqDiff, Nat.reduceAdd, Nat.reduceLT, Nat.reduceMul, Nat.reduceSub, Nat.reduceLeDiff, Int.reduceLT, Int.reduceLE, Int.reduceEq, Option.isSome_some, implies_true, false_implies, Prod.mk.injEq, ne_eq, not_false_eq_true, not_true_eq_false, ge_iff_le, gt_iff_lt, Int.toNat_natCast, Int.reduceToNat, Int.cast_ofNat_Int, Int.natCast_nonneg, h, u, e, Try.results155]
        refine fin_false ?_
        exact decide_eq_false fun hab => e (by rw [hab])
    · simp only [absE, absL, absF, reduceCtorEq, ↓reduceIte, Nat.reduceEqDiff, Nat.reduceAdd, Nat.reduceLT, Nat.reduceMul, Nat.reduceSub, Nat.reduceLeDiff, Int.reduceLT, Int.reduceLE, Int.reduceEq, Option.isSome_some, implies_true, false_implies, Prod.mk.injEq, ne_eq, not_false_eq_true, not_true_eq_false, ge_iff_le, gt_iff_lt, Int.toNat_natCast, Int.reduceToNat, Int.cast_ofNat_Int, Int.natCast_nonneg, h, Try.results155]
      exact fin_true (decide_eq_true (ext_getD (by omega) fun j hj => hp j (by omega)))

theorem eqPlaces_ok (a b : List Int) (ha : a.length = 10) (hb : b.length = 10) : ACalls Try.prog 104 [.agg (plS a), .agg (plS b)] [] (fun r ms ns => r = .b (decide (a = b)) ∧ ms = [] ∧ ns = []) := by
  refine acalls_of_body mix Try.func104 rfl fok104 (Nat.le_of_ble_eq_true rfl) ?_
  unfold abody
  simp only [absE, absL, absF, reduceCtorEq, ↓reduceIte, Nat.reduceEqDiff, Nat.reduceAdd, Nat.reduceLT, Nat.reduceMul, Nat.reduceSub, Nat.reduceLeDiff, Int.reduceLT, Int.reduceLE, Int.reduceEq, Option.isSome_some, implies_true, false_implies, Prod.mk.injEq, ne_eq, not_false_eq_true, not_true_eq_false, ge_iff_le, gt_iff_lt, Int.toNat_natCast, Int.reduceToNat, Int.cast_ofNat_Int, Int.natCast_nonneg, Try.f104]
  refine awpLoop.intro (fun i : Nat => [(2, .ref (.ptr 1 0 0 0)), (3, .ref (.ptr 2 0 0 0)), (5, .i .i64 i)]) (fun i => ⟨[], [((1, 0), .lv true (plS a)), ((2, 0), .lv true (plS b))], 4⟩)
    (fun i => i ≤ 10 ∧ ∀ j, j < i → a.getD j 0 = b.getD j 0) (fun i => 10 - i) 0 ⟨by omega, fun x' h => absurd h (by simp)⟩ ⟨[((1,0),(1,0)), ((2,0),(2,0))], rfl, ?_, ?_⟩ ?_
  · simp [wkEnv, lk, renV, renAt, renTo]
  · simp [wkMem, wkLoc, Mem.get, assoc, renBlk, renSegs, renSg, renTo]
  · rintro i ⟨hi, hp⟩
    by_cases h : (i : Int) < 10
    · have w : IntKind.i64.wrap ((i : Int) + 1) = ((i + 1 : Nat) : Int) := by rw [wrap_i64 (by omega) (by omega)]; omega
      have u : 0 + i * 1 < 10 := by omega
      by_cases e : a.getD (0 + i * 1) 0 = b.getD (0 + i * 1) 0
      · simp only [absE, absL, absF, reduceCtorEq, ↓reduceIte, Nat.reduceEqDiff, Nat.reduceAdd, Nat.reduceLT, Nat.reduceMul, Nat.reduceSub, Nat.reduceLeDiff, Int.reduceLT, Int.reduceLE, Int.reduceEq, Option.isSome_some, implies_true, false_implies, Prod.mk.injEq, ne_eq, not_false_eq_true, not_true_eq_false, ge_iff_le, gt_iff_lt, Int.toNat_natCast, Int.reduceToNat, Int.cast_ofNat_Int, Int.natCast_nonneg, h, u, e]
        refine LoopNext.intro (i + 1) ⟨by omega, fun j hj => ?_⟩ (by omega) ⟨[((1,0),(1,0)), ((2,0),(2,0))], rfl, ?_, ?_⟩
        · by_cases e2 : j = i
          · subst e2; simpa using e
          · exact hp j (by omega)
        · simp [wkEnv, lk, renV, renAt, renTo, w]
        · simp [wkMem, wkLoc, Mem.get, assoc, renBlk, renSegs, renSg, renTo]
      · simp only [absE, absL, absF, reduceCtorEq, ↓reduceIte, Nat.reduceEqDiff, Nat.reduceAdd, Nat.reduceLT, Nat.reduceMul, Nat.reduceSub, Nat.reduceLeDiff, Int.reduceLT, Int.reduceLE, Int.reduceEq, Option.isSome_some, implies_true, false_implies, Prod.mk.injEq, ne_eq, not_false_eq_true, not_true_eq_false, ge_iff_le, gt_iff_lt, Int.toNat_natCast, Int.reduceToNat, Int.cast_ofNat_Int, Int.natCast_nonneg, h, u, e, Try.results104]
        refine fin_false ?_
        exact decide_eq_false fun hab => e (by rw [hab])
    · simp only [absE, absL, absF, reduceCtorEq, ↓reduceIte, Nat.reduceEqDiff, Nat.reduceAdd, Nat.reduceLT, Nat.reduceMul, Nat.reduceSub, Nat.reduceLeDiff, Int.reduceLT, Int.reduceLE, Int.reduceEq, Option.isSome_some, implies_true, false_implies, Prod.mk.injEq, ne_eq, not_false_eq_true, not_true_eq_false, ge_iff_le, gt_iff_lt, Int.toNat_natCast, Int.reduceToNat, Int.cast_ofNat_Int, Int.natCast_nonneg, h, Try.results104]
      exact fin_true (decide_eq_true (ext_getD (by omega) fun j hj => hp j (by omega)))

theorem eqTable_ok (a b : List Int) (ha : a.length = 100) (hb : b.length = 100) : ACalls Try.prog 112 [.agg (tbS a), .agg (tbS b)] [] (fun r ms ns => r = .b (decide (a = b)) ∧ ms = [] ∧ ns = []) := by
  refine acalls_of_body mix Try.func112 rfl fok112 (Nat.le_of_ble_eq_true rfl) ?_
  unfold abody
  simp only [absE, absL, absF, reduceCtorEq, ↓reduceIte, Nat.reduceEqDiff, Nat.reduceAdd, Nat.reduceLT, Nat.reduceMul, Nat.reduceSub, Nat.reduceLeDiff, Int.reduceLT, Int.reduceLE, Int.reduceEq, Option.isSome_some, implies_true, false_implies, Prod.mk.injEq, ne_eq, not_false_eq_true, not_true_eq_false, ge_iff_le, gt_iff_lt, Int.toNat_natCast, Int.reduceToNat, Int.cast_ofNat_Int, Int.natCast_nonneg, Try.f112]
  refine awpLoop.intro (fun i : Nat => [(2, .ref (.ptr 1 0 0 0)), (3, .ref (.ptr 2 0 0 0)), (5, .i .i64 i)]) (fun i => ⟨[], [((1, 0), .lv true (tbS a)), ((2, 0), .lv true (tbS b))], 4⟩)
    (fun i => i ≤ 10 ∧ ∀ j, j < i * 10 → a.getD j 0 = b.getD j 0) (fun i => 10 - i) 0 ⟨by omega, fun x' h => absurd h (by simp)⟩ ⟨[((1,0),(1,0)), ((2,0),(2,0))], rfl, ?_, ?_⟩ ?_
  · simp [wkEnv, lk, renV, renAt, renTo]
  · simp [wkMem, wkLoc, Mem.get, assoc, renBlk, renSegs, renSg, renTo]
  · rintro i ⟨hi, hp⟩
    by_cases h : (i : Int) < 10
    · have w : IntKind.i64.wrap ((i : Int) + 1) = ((i + 1 : Nat) : Int) := by rw [wrap_i64 (by omega) (by omega)]; omega
      have u : 0 + i * 10 + 10 ≤ 100 := by omega
      have la : ((a.drop (0 + i * 10)).take 10).length = 10 := sub_length (by omega)
      have lb : ((b.drop (0 + i * 10)).take 10).length = 10 := sub_length (by omega)
      simp only [absE, absL, absF, reduceCtorEq, ↓reduceIte, Nat.reduceEqDiff, Nat.reduceAdd, Nat.reduceLT, Nat.reduceMul, Nat.reduceSub, Nat.reduceLeDiff, Int.reduceLT, Int.reduceLE, Int.reduceEq, Option.isSome_some, implies_true, false_implies, Prod.mk.injEq, ne_eq, not_false_eq_true, not_true_eq_false, ge_iff_le, gt_iff_lt, Int.toNat_natCast, Int.reduceToNat, Int.cast_ofNat_Int, Int.natCast_nonneg, h, u]
      refine CallsX.none (eqByteA10_ok _ _ la lb) ?_
      by_cases e : (a.drop (0 + i * 10)).take 10 = (b.drop (0 + i * 10)).take 10
      · simp only [absE, absL, absF, reduceCtorEq, ↓reduceIte, Nat.reduceEqDiff, Nat.reduceAdd, Nat.reduceLT, Nat.reduceMul, Nat.reduceSub, Nat.reduceLeDiff, Int.reduceLT, Int.reduceLE, Int.reduceEq, Option.isSome_some, implies_true, false_implies, Prod.mk.injEq, ne_eq, not_false_eq_true, not_true_eq_false, ge_iff_le, gt_iff_lt, Int.toNat_natCast, Int.reduceToNat, Int.cast_ofNat_Int, Int.natCast_nonneg, h, u, e]
        refine LoopNext.intro (i + 1) ⟨by omega, fun j hj => ?_⟩ (by omega) ⟨[((1,0),(1,0)), ((2,0),(2,0))], rfl, ?_, ?_⟩
        · by_cases e2 : j < i * 10
          · exact hp j e2
          · have e3 := congrArg (fun l => l.getD (j - i * 10) 0) e
            simp only [getD_sub] at e3
            rw [if_pos (by omega), if_pos (by omega)] at e3
            have : 0 + i * 10 + (j - i * 10) = j := by omega
            rwa [this] at e3
        · simp [wkEnv, lk, renV, renAt, renTo, w]
        · simp [wkMem, wkLoc, Mem.get, assoc, renBlk, renSegs, renSg, renTo]
      · simp only [absE, absL, absF, reduceCtorEq, ↓reduceIte, Nat.reduceEqDiff, Nat.reduceAdd, Nat.reduceLT, Nat.reduceMul, Nat.reduceSub, Nat.reduceLeDiff, Int.reduceLT, Int.reduceLE, Int.reduceEq, Option.isSome_some, implies_true, false_implies, Prod.mk.injEq, ne_eq, not_false_eq_true, not_true_eq_false, ge_iff_le, gt_iff_lt, Int.toNat_natCast, Int.reduceToNat, Int.cast_ofNat_Int, Int.natCast_nonneg, h, u, e, Try.results112]
        refine fin_false ?_
        exact decide_eq_false fun hab => e (by rw [hab])
    · simp only [absE, absL, absF, reduceCtorEq, ↓reduceIte, Nat.reduceEqDiff, Nat.reduceAdd, Nat.reduceLT, Nat.reduceMul, Nat.reduceSub, Nat.reduceLeDiff, Int.reduceLT, Int.reduceLE, Int.reduceEq, Option.isSome_some, implies_true, false_implies, Prod.mk.injEq, ne_eq, not_false_eq_true, not_true_eq_false, ge_iff_le, gt_iff_lt, Int.toNat_natCast, Int.reduceToNat, Int.cast_ofNat_Int, Int.natCast_nonneg, h, Try.results112]
      exact fin_true (decide_eq_true (ext_getD (by omega) fun j hj => hp j (by omega)))
theorem eqSquare_ok (n m : Int) (a b : List Int) (ha : a.length = 100) (hb : b.length = 100) : ACalls Try.prog 55 [.agg (sqS n a), .agg (sqS m b)] [] (fun r ms ns => r = .b (decide (n = m ∧ a = b)) ∧ ms = [] ∧ ns = []) := by
  refine acalls_of_body mix Try.func55 rfl fok55 (Nat.le_of_ble_eq_true rfl) ?_
  unfold abody
  by_cases h : n = m
  · simp only [absE, absL, absF, reduceCtorEq, ↓reduceIte, Nat.reduceEqDiff, Nat.reduceAdd, Nat.reduceLT, Nat.reduceMul, Nat.reduceSub, Nat.reduceLeDiff, Int.reduceLT, Int.reduceLE, Int.reduceEq, Option.isSome_some, implies_true, false_implies, Prod.mk.injEq, ne_eq, not_false_eq_true, not_true_eq_false, ge_iff_le, gt_iff_lt, Int.toNat_natCast, Int.reduceToNat, Int.cast_ofNat_Int, Int.natCast_nonneg, h, Try.f55]
    refine CallsVia.none (eqTable_ok a b ha hb) ?_
    rintro _ _ _ ⟨rfl, rfl, rfl⟩
    by_cases e : a = b
    · simp only [absE, absL, absF, reduceCtorEq, ↓reduceIte, Nat.reduceEqDiff, Nat.reduceAdd, Nat.reduceLT, Nat.reduceMul, Nat.reduceSub, Nat.reduceLeDiff, Int.reduceLT, Int.reduceLE, Int.reduceEq, Option.isSome_some, implies_true, false_implies, Prod.mk.injEq, ne_eq, not_false_eq_true, not_true_eq_false, ge_iff_le, gt_iff_lt, Int.toNat_natCast, Int.reduceToNat, Int.cast_ofNat_Int, Int.natCast_nonneg, e, Try.results55]
      exact fin_true (decide_eq_true ⟨h, e⟩)
    · simp only [absE, absL, absF, reduceCtorEq, ↓reduceIte, Nat.reduceEqDiff, Nat.reduceAdd, Nat.reduceLT, Nat.reduceMul, Nat.reduceSub, Nat.reduceLeDiff, Int.reduceLT, Int.reduceLE, Int.reduceEq, Option.isSome_some, implies_true, false_implies, Prod.mk.injEq, ne_eq, not_false_eq_true, not_true_eq_false, ge_iff_le, gt_iff_lt, Int.toNat_natCast, Int.reduceToNat, Int.cast_ofNat_Int, Int.natCast_nonneg, e, Try.results55]
      exact fin_false (decide_eq_false fun h => e h.2)
  · simp only [absE, absL, absF, reduceCtorEq, ↓reduceIte, Nat.reduceEqDiff, Nat.reduceAdd, Nat.reduceLT, Nat.reduceMul, Nat.reduceSub, Nat.reduceLeDiff, Int.reduceLT, Int.reduceLE, Int.reduceEq, Option.isSome_some, implies_true, false_implies, Prod.mk.injEq, ne_eq, not_false_eq_true, not_true_eq_false, ge_iff_le, gt_iff_lt, Int.toNat_natCast, Int.reduceToNat, Int.cast_ofNat_Int, Int.natCast_nonneg, h, Try.f55]
    exact fin_false (decide_eq_false fun h' => h h'.1)

end Go.Proofs.Ytoccbgffekhcaaa
