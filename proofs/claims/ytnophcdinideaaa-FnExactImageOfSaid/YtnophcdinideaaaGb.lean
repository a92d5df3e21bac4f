/-
Contracts of functions of the given program, by the abstract walk.
-/
import Derived.Test.YtnophcdinideaaaAbsW
import Derived.Test.YtnophcdinideaaaGa
namespace Go.Proofs.Ytnophcdinideaaa
open Go Go.Abs
set_option linter.unusedVariables false
set_option linter.unusedSectionVars false
set_option linter.unusedSimpArgs false
set_option maxRecDepth 100000
def sumN (xs : List Int) : Nat → Int
  | 0 => 0
  | i + 1 => sumN xs i + xs.getD (0 + i * 1) 0
theorem sumN_le {p : Int} {N : Nat} {xs : List Int} {k : Nat} (hp : PrP p) (h : SumP p N xs k) : ∀ {i}, i ≤ k → 0 ≤ sumN xs i ∧ sumN xs i ≤ 7 * i
  | 0, _ => by simp [sumN]
  | i + 1, hi => by
    have h1 := sumN_le hp h (show i ≤ k by omega)
    have h2 := h.1 i (by omega)
    have h3 := hp.le
    rw [sumN, Nat.zero_add, Nat.mul_one]
    omega
noncomputable def augAV (n : Int) (t : List Int) (p : Int) (xs : List Int) (k : Nat) : AV := if rcd1 n t p xs k = 0 then .tup [.i .i64 ((sumN xs k).tmod p), .i .i64 0] else .tup [.i .i64 0, .i .i64 (rcd1 n t p xs k)]
theorem aug_form (n : Int) (t : List Int) (p : Int) (xs : List Int) (k : Nat) (ht : Bytes 100 t) : ∃ b e, augAV n t p xs k = .tup [.i .i64 b, .i .i64 e] := by
  unfold augAV; split <;> exact ⟨_, _, rfl⟩
theorem rcd1_zero {n : Int} {t : List Int} {p : Int} {xs : List Int} {k : Nat} (h : rcd1 n t p xs k = 0) : loopB n t = true ∧ PrP p ∧ SumP p n.toNat xs k := by
  unfold rcd1 at h
  split at h
  · rename_i h1
    split at h
    · rename_i h2
      rw [Bool.and_eq_true] at h2
      exact ⟨h1, of_decide_eq_true h2.1, sumB_iff.1 h2.2⟩
    · omega
  · omega
theorem loopB_le {n : Int} {t : List Int} (h : loopB n t = true) : n.toNat ≤ 10 := by
  simp only [loopB, Bool.and_eq_true] at h; have := (sqB_iff.1 h.1).2.1; omega
theorem l10Augment_ok (N : Nat) (p : Int) (xs : List Int) (k : Nat) (hN : N ≤ 10) (hp : PrP p) (hs : SumP p N xs k) :
    ACalls Try.prog 49 [.i .i64 p, .ref (.sl 0 0 0 0 k 1)] [.lv true [(0, .ints .i64 k xs)]] (fun v ms ns => v = .i .i64 ((sumN xs k).tmod p) ∧ ms = [.lv true [(0, .ints .i64 k xs)]] ∧ ns = []) := by
  have hp2 := hp.le
  have hk := hs.2
  have p0 : ¬ p = 0 := by omega
  refine acalls_of_body mix Try.func49 rfl fok49 (Nat.le_of_ble_eq_true rfl) ?_
  unfold abody
  simp only [absE, absL, absF, reduceCtorEq, ↓reduceIte, Nat.reduceEqDiff, Nat.reduceAdd, Nat.reduceLT, Nat.reduceMul, Nat.reduceSub, Nat.reduceLeDiff, Int.reduceLT, Int.reduceLE, Int.reduceEq, Option.isSome_some, implies_true, false_implies, Prod.mk.injEq, ne_eq, not_false_eq_true, not_true_eq_false, ge_iff_le, gt_iff_lt, Int.toNat_natCast, Int.reduceToNat, Int.cast_ofNat_Int, Int.natCast_nonneg, Try.f49]
  refine awpLoop.intro (fun i : Nat => [(0, .i .i64 p), (1, .ref (.sl 0 0 0 0 k 1)), (5, .i .i64 (sumN xs i)), (6, .i .i64 i)]) (fun i => ⟨[.lv true [(0, .ints .i64 k xs)]], [], 4⟩) (fun i => i ≤ k) (fun i => k - i) 0 (by omega) ⟨[], rfl, ?_, ?_⟩ ?_
  · simp [wkEnv, lk, renV, renAt, renTo, sumN]
  · simp [wkMem, wkLoc, Mem.get, assoc, renBlk, renSegs, renSg, renTo, sumN]
  · intro i hi
    by_cases h : (i : Int) < k
    · have w := wrap_i64s (show i < 2 ^ 62 by omega)
      have v1 : 0 + i * 1 < k := by omega
      have h1 := sumN_le hp hs (show i + 1 ≤ k by omega)
      rw [sumN] at h1
      have ws : IntKind.i64.wrap (sumN xs i + xs.getD (0 + i * 1) 0) = sumN xs i + xs.getD (0 + i * 1) 0 := wrap_i64 (by omega) (by omega)
      simp only [absE, absL, absF, reduceCtorEq, ↓reduceIte, Nat.reduceEqDiff, Nat.reduceAdd, Nat.reduceLT, Nat.reduceMul, Nat.reduceSub, Nat.reduceLeDiff, Int.reduceLT, Int.reduceLE, Int.reduceEq, Option.isSome_some, implies_true, false_implies, Prod.mk.injEq, ne_eq, not_false_eq_true, not_true_eq_false, ge_iff_le, gt_iff_lt, Int.toNat_natCast, Int.reduceToNat, Int.cast_ofNat_Int, Int.natCast_nonneg, h, v1, ws]
      refine LoopNext.intro (i + 1) (by omega) (by omega) ⟨[], rfl, ?_, ?_⟩
      · simp only [sumN]; simp [wkEnv, lk, renV, renAt, renTo, w]
      · simp [wkMem, wkLoc, Mem.get, assoc, renBlk, renSegs, renSg, renTo]
    · obtain rfl : i = k := by omega
      simp only [absE, absL, absF, reduceCtorEq, ↓reduceIte, Nat.reduceEqDiff, Nat.reduceAdd, Nat.reduceLT, Nat.reduceMul, Nat.reduceSub, Nat.reduceLeDiff, Int.reduceLT, Int.reduceLE, Int.reduceEq, Option.isSome_some, implies_true, false_implies, Prod.mk.injEq, ne_eq, not_false_eq_true, not_true_eq_false, ge_iff_le, gt_iff_lt, Int.toNat_natCast, Int.reduceToNat, Int.cast_ofNat_Int, Int.natCast_nonneg, h, p0, Try.results49]
      exact ⟨[], by simp, by simp, by simp [renV, renVs, renSegs, renSg, renBlk]⟩
theorem specAug_ok (n : Int) (t : List Int) (p : Int) (xs : List Int) (k : Nat) (ht : Bytes 100 t) (hx : xs.length = k) (hk : k ≤ 2 ^ 20) :
    ACalls Try.prog 15 [.agg (sqS n t), .i .i64 p, .ref (.sl 0 0 0 0 k 1)] [.lv true [(0, .ints .i64 k xs)]] (fun v ms ns => v = augAV n t p xs k ∧ ms = [.lv true [(0, .ints .i64 k xs)]] ∧ ns = []) := by
  unfold augAV
  refine acalls_of_body mix Try.func15 rfl fok15 (Nat.le_of_ble_eq_true rfl) ?_
  unfold abody
  simp only [absE, absL, absF, reduceCtorEq, ↓reduceIte, Nat.reduceEqDiff, Nat.reduceAdd, Nat.reduceLT, Nat.reduceMul, Nat.reduceSub, Nat.reduceLeDiff, Int.reduceLT, Int.reduceLE, Int.reduceEq, Option.isSome_some, implies_true, false_implies, Prod.mk.injEq, ne_eq, not_false_eq_true, not_true_eq_false, ge_iff_le, gt_iff_lt, Int.toNat_natCast, Int.reduceToNat, Int.cast_ofNat_Int, Int.natCast_nonneg, Try.f15]
  refine CallsVia.args [(7, 0), (0, 0)] (l10Code1_ok n t p xs k ht hx hk) (by simp) (by simp [Mem.get, assoc]) rfl rfl ?_
  rintro _ _ _ ⟨rfl, rfl, rfl⟩
  by_cases h : rcd1 n t p xs k = 0
  · obtain ⟨h1, h2, h3⟩ := rcd1_zero h
    simp only [absE, absL, absF, reduceCtorEq, ↓reduceIte, Nat.reduceEqDiff, Nat.reduceAdd, Nat.reduceLT, Nat.reduceMul, Nat.reduceSub, Nat.reduceLeDiff, Int.reduceLT, Int.reduceLE, Int.reduceEq, Option.isSome_some, implies_true, false_implies, Prod.mk.injEq, ne_eq, not_false_eq_true, not_true_eq_false, ge_iff_le, gt_iff_lt, Int.toNat_natCast, Int.reduceToNat, Int.cast_ofNat_Int, Int.natCast_nonneg, h]
    refine CallsVia.args [(0, 0)] (l10Augment_ok n.toNat p xs k (loopB_le h1) h2 h3) (by simp) (by simp [Mem.get]) rfl rfl ?_
    rintro _ _ _ ⟨rfl, rfl, rfl⟩
    simp only [absE, absL, absF, reduceCtorEq, ↓reduceIte, Nat.reduceEqDiff, Nat.reduceAdd, Nat.reduceLT, Nat.reduceMul, Nat.reduceSub, Nat.reduceLeDiff, Int.reduceLT, Int.reduceLE, Int.reduceEq, Option.isSome_some, implies_true, false_implies, Prod.mk.injEq, ne_eq, not_false_eq_true, not_true_eq_false, ge_iff_le, gt_iff_lt, Int.toNat_natCast, Int.reduceToNat, Int.cast_ofNat_Int, Int.natCast_nonneg, Try.results15]
    exact ⟨[], by simp, by simp, by simp [renV, renVs, renSegs, renSg, h, renBlk]⟩
  · simp only [absE, absL, absF, reduceCtorEq, ↓reduceIte, Nat.reduceEqDiff, Nat.reduceAdd, Nat.reduceLT, Nat.reduceMul, Nat.reduceSub, Nat.reduceLeDiff, Int.reduceLT, Int.reduceLE, Int.reduceEq, Option.isSome_some, implies_true, false_implies, Prod.mk.injEq, ne_eq, not_false_eq_true, not_true_eq_false, ge_iff_le, gt_iff_lt, Int.toNat_natCast, Int.reduceToNat, Int.cast_ofNat_Int, Int.natCast_nonneg, h, Try.results15]
    exact ⟨[], by simp, by simp, by simp [renV, renVs, renSegs, renSg, h, renBlk]⟩
theorem implAug_ok (n : Int) (t : List Int) (p : Int) (xs : List Int) (k : Nat) (ht : Bytes 100 t) (hx : xs.length = k) (hk : k ≤ 2 ^ 20) :
    ACalls Try.prog 18 [.agg (sqS n t), .i .i64 p, .ref (.sl 0 0 0 0 k 1)] [.lv true [(0, .ints .i64 k xs)]] (fun v ms ns => v = augAV n t p xs k ∧ ms = [.lv true [(0, .ints .i64 k xs)]] ∧ ns = []) := by
  unfold augAV
  refine acalls_of_body mix Try.func18 rfl fok18 (Nat.le_of_ble_eq_true rfl) ?_
  unfold abody
  simp only [absE, absL, absF, reduceCtorEq, ↓reduceIte, Nat.reduceEqDiff, Nat.reduceAdd, Nat.reduceLT, Nat.reduceMul, Nat.reduceSub, Nat.reduceLeDiff, Int.reduceLT, Int.reduceLE, Int.reduceEq, Option.isSome_some, implies_true, false_implies, Prod.mk.injEq, ne_eq, not_false_eq_true, not_true_eq_false, ge_iff_le, gt_iff_lt, Int.toNat_natCast, Int.reduceToNat, Int.cast_ofNat_Int, Int.natCast_nonneg, Try.f18]
  refine CallsVia.args [(7, 0), (0, 0)] (ringCode1_ok n t p xs k ht hx hk) (by simp) (by simp [Mem.get, assoc]) rfl rfl ?_
  rintro _ _ _ ⟨rfl, rfl, rfl⟩
  by_cases h : rcd1 n t p xs k = 0
  · obtain ⟨h1, h2, h3⟩ := rcd1_zero h
    have hp2 := h2.le
    have p0 : ¬ p = 0 := by omega
    have hk3 := h3.2
    have hN := loopB_le h1
    simp only [absE, absL, absF, reduceCtorEq, ↓reduceIte, Nat.reduceEqDiff, Nat.reduceAdd, Nat.reduceLT, Nat.reduceMul, Nat.reduceSub, Nat.reduceLeDiff, Int.reduceLT, Int.reduceLE, Int.reduceEq, Option.isSome_some, implies_true, false_implies, Prod.mk.injEq, ne_eq, not_false_eq_true, not_true_eq_false, ge_iff_le, gt_iff_lt, Int.toNat_natCast, Int.reduceToNat, Int.cast_ofNat_Int, Int.natCast_nonneg, h]
    refine awpLoop.intro (fun i : Nat => [(1, .i .i64 p), (9, .i .i64 (sumN xs i)), (20, .ref (.sl 0 0 0 0 k 1)), (21, .i .i64 k), (22, .i .i64 i)]) (fun i => ⟨[.lv true [(0, .ints .i64 k xs)]], [], 16⟩) (fun i => i ≤ k) (fun i => k - i) 0 (by omega) ⟨[], rfl, ?_, ?_⟩ ?_
    · simp [wkEnv, lk, renV, renAt, renTo, sumN]
    · simp [wkMem, wkLoc, Mem.get, assoc, renBlk, renSegs, renSg, renTo, sumN]
    · intro i hi
      by_cases h' : (i : Int) < k
      · have w := wrap_i64s (show i < 2 ^ 62 by omega)
        have v1 : 0 + i * 1 < k := by omega
        have h1 := sumN_le h2 h3 (show i + 1 ≤ k by omega)
        rw [sumN] at h1
        have ws : IntKind.i64.wrap (sumN xs i + xs.getD (0 + i * 1) 0) = sumN xs i + xs.getD (0 + i * 1) 0 := wrap_i64 (by omega) (by omega)
        simp only [absE, absL, absF, reduceCtorEq, ↓reduceIte, Nat.reduceEqDiff, Nat.reduceAdd, Nat.reduceLT, Nat.reduceMul, Nat.reduceSub, Nat.reduceLeDiff, Int.reduceLT, Int.reduceLE, Int.reduceEq, Option.isSome_some, implies_true, false_implies, Prod.mk.injEq, ne_eq, not_false_eq_true, not_true_eq_false, ge_iff_le, gt_iff_lt, Int.toNat_natCast, Int.reduceToNat, Int.cast_ofNat_Int, Int.natCast_nonneg, h', v1, ws]
        refine LoopNext.intro (i + 1) (by omega) (by omega) ⟨[], rfl, ?_, ?_⟩
        · simp only [sumN]; simp [wkEnv, lk, renV, renAt, renTo, w]
        · simp [wkMem, wkLoc, Mem.get, assoc, renBlk, renSegs, renSg, renTo]
      · obtain rfl : i = k := by omega
        simp only [absE, absL, absF, reduceCtorEq, ↓reduceIte, Nat.reduceEqDiff, Nat.reduceAdd, Nat.reduceLT, Nat.reduceMul, Nat.reduceSub, Nat.reduceLeDiff, Int.reduceLT, Int.reduceLE, Int.reduceEq, Option.isSome_some, implies_true, false_implies, Prod.mk.injEq, ne_eq, not_false_eq_true, not_true_eq_false, ge_iff_le, gt_iff_lt, Int.toNat_natCast, Int.reduceToNat, Int.cast_ofNat_Int, Int.natCast_nonneg, h', p0, Try.results18]
        exact ⟨[], by simp, by simp, by simp [renV, renVs, renSegs, renSg, h, renBlk]⟩
  · simp only [absE, absL, absF, reduceCtorEq, ↓reduceIte, Nat.reduceEqDiff, Nat.reduceAdd, Nat.reduceLT, Nat.reduceMul, Nat.reduceSub, Nat.reduceLeDiff, Int.reduceLT, Int.reduceLE, Int.reduceEq, Option.isSome_some, implies_true, false_implies, Prod.mk.injEq, ne_eq, not_false_eq_true, not_true_eq_false, ge_iff_le, gt_iff_lt, Int.toNat_natCast, Int.reduceToNat, Int.cast_ofNat_Int, Int.natCast_nonneg, h, Try.results18]
    exact ⟨[], by simp, by simp, by simp [renV, renVs, renSegs, renSg, h, renBlk]⟩

end Go.Proofs.Ytnophcdinideaaa
