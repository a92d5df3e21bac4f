/-
Contracts of functions of the given program, by the abstract walk.
-/
import Derived.Test.YtjmenocghjggcaaAbsY
import Derived.Test.YtjmenocghjggcaaDa
namespace Go.Proofs.Ytjmenocghjggcaa
open Go Go.Abs
set_option linter.unusedVariables false
set_option linter.unusedSectionVars false
set_option linter.unusedSimpArgs false
set_option maxRecDepth 100000
/-- The marks m, m+1, .. that a law writes into a list that was handed back. -/
def marksL (m k : Nat) : List Int := (List.range k).map fun i => ((m + i : Nat) : Int)
theorem marksL_len {m k : Nat} : (marksL m k).length = k := by simp [marksL]
theorem marksL_get {m k i : Nat} (h : i < k) : (marksL m k).getD i 0 = ((m + i : Nat) : Int) := by simp [marksL, h]
def markedL (m : Nat) (xs : List Int) (i : Nat) : List Int := marksL m i ++ xs.drop i
theorem markedL_len {m i : Nat} {xs : List Int} (h : i ≤ xs.length) : (markedL m xs i).length = xs.length := by simp [markedL, marksL_len]; omega
theorem markedL_next {m i : Nat} {xs : List Int} (h : i < xs.length) : (markedL m xs i).set i ((m + i : Nat) : Int) = markedL m xs (i + 1) := by
  unfold markedL
  rw [List.set_append_right _ _ (by rw [marksL_len]; omega), marksL_len, Nat.sub_self]
  have h1 : xs.drop i = xs[i] :: xs.drop (i + 1) := List.drop_eq_getElem_cons h
  rw [h1, List.set_cons_zero]
  simp [marksL, List.range_succ]
theorem markedL_all {m : Nat} {xs : List Int} : markedL m xs xs.length = marksL m xs.length := by simp [markedL]
theorem markedL_zero {m : Nat} {xs : List Int} : markedL m xs 0 = xs := by simp [markedL, marksL]

theorem eqInts_nil : ACalls Try.prog 14 [.ref .nils, .ref .nils] [] (fun v ms ns => v = .b true ∧ ms = [] ∧ ns = []) := by
  refine acalls_of_body mix Try.func14 rfl fok14 (Nat.le_of_ble_eq_true rfl) ?_
  unfold abody
  simp only [absE, absL, absF, reduceCtorEq, ↓reduceIte, Nat.reduceEqDiff, Nat.reduceAdd, Nat.reduceLT, Nat.reduceMul, Nat.reduceSub, Nat.reduceLeDiff, Int.reduceLT, Int.reduceLE, Int.reduceEq, Option.isSome_some, implies_true, false_implies, Prod.mk.injEq, ne_eq, not_false_eq_true, not_true_eq_false, ge_iff_le, gt_iff_lt, Int.toNat_natCast, Int.reduceToNat, Int.cast_ofNat_Int, Int.natCast_nonneg, Try.f14]
  refine awpLoop.intro (fun i : Nat => [(0, .ref .nils), (1, .ref .nils), (5, .i .i64 i)]) (fun i => ⟨[], [], 8⟩) (fun i => i = 0) (fun i => 0) 0 rfl ⟨[], rfl, ?_, ?_⟩ ?_
  · simp [wkEnv, lk, renV, renAt, renTo]
  · simp [wkMem, wkLoc, Mem.get, assoc, renBlk, renSegs, renSg, renTo]
  · rintro i rfl
    simp only [absE, absL, absF, reduceCtorEq, ↓reduceIte, Nat.reduceEqDiff, Nat.reduceAdd, Nat.reduceLT, Nat.reduceMul, Nat.reduceSub, Nat.reduceLeDiff, Int.reduceLT, Int.reduceLE, Int.reduceEq, Option.isSome_some, implies_true, false_implies, Prod.mk.injEq, ne_eq, not_false_eq_true, not_true_eq_false, ge_iff_le, gt_iff_lt, Int.toNat_natCast, Int.reduceToNat, Int.cast_ofNat_Int, Int.natCast_nonneg, Int.lt_irrefl, Try.results14]
    exact fin_true rfl
theorem markInts_nil (m : Nat) : ACalls Try.prog 15 [.ref .nils, .i .i64 m] [] (fun v ms ns => v = .i .i64 m ∧ ms = [] ∧ ns = []) := by
  refine acalls_of_body mix Try.func15 rfl fok15 (Nat.le_of_ble_eq_true rfl) ?_
  unfold abody
  simp only [absE, absL, absF, reduceCtorEq, ↓reduceIte, Nat.reduceEqDiff, Nat.reduceAdd, Nat.reduceLT, Nat.reduceMul, Nat.reduceSub, Nat.reduceLeDiff, Int.reduceLT, Int.reduceLE, Int.reduceEq, Option.isSome_some, implies_true, false_implies, Prod.mk.injEq, ne_eq, not_false_eq_true, not_true_eq_false, ge_iff_le, gt_iff_lt, Int.toNat_natCast, Int.reduceToNat, Int.cast_ofNat_Int, Int.natCast_nonneg, Try.f15]
  refine awpLoop.intro (fun i : Nat => [(0, .ref .nils), (1, .i .i64 m), (5, .i .i64 i)]) (fun i => ⟨[], [], 3⟩) (fun i => i = 0) (fun i => 0) 0 rfl ⟨[], rfl, ?_, ?_⟩ ?_
  · simp [wkEnv, lk, renV, renAt, renTo]
  · simp [wkMem, wkLoc, Mem.get, assoc, renBlk, renSegs, renSg, renTo]
  · rintro i rfl
    simp only [absE, absL, absF, reduceCtorEq, ↓reduceIte, Nat.reduceEqDiff, Nat.reduceAdd, Nat.reduceLT, Nat.reduceMul, Nat.reduceSub, Nat.reduceLeDiff, Int.reduceLT, Int.reduceLE, Int.reduceEq, Option.isSome_some, implies_true, false_implies, Prod.mk.injEq, ne_eq, not_false_eq_true, not_true_eq_false, ge_iff_le, gt_iff_lt, Int.toNat_natCast, Int.reduceToNat, Int.cast_ofNat_Int, Int.natCast_nonneg, Int.lt_irrefl, Try.results15]
    exact ⟨[], by simp, by simp, by simp [renV, renVs, renSegs, renSg]⟩
theorem heldInts_nil (m : Nat) : ACalls Try.prog 16 [.ref .nils, .i .i64 m] [] (fun v ms ns => v = .i .i64 m ∧ ms = [] ∧ ns = []) := by
  refine acalls_of_body mix Try.func16 rfl fok16 (Nat.le_of_ble_eq_true rfl) ?_
  unfold abody
  simp only [absE, absL, absF, reduceCtorEq, ↓reduceIte, Nat.reduceEqDiff, Nat.reduceAdd, Nat.reduceLT, Nat.reduceMul, Nat.reduceSub, Nat.reduceLeDiff, Int.reduceLT, Int.reduceLE, Int.reduceEq, Option.isSome_some, implies_true, false_implies, Prod.mk.injEq, ne_eq, not_false_eq_true, not_true_eq_false, ge_iff_le, gt_iff_lt, Int.toNat_natCast, Int.reduceToNat, Int.cast_ofNat_Int, Int.natCast_nonneg, Try.f16]
  refine awpLoop.intro (fun i : Nat => [(0, .ref .nils), (1, .i .i64 m), (5, .i .i64 i)]) (fun i => ⟨[], [], 3⟩) (fun i => i = 0) (fun i => 0) 0 rfl ⟨[], rfl, ?_, ?_⟩ ?_
  · simp [wkEnv, lk, renV, renAt, renTo]
  · simp [wkMem, wkLoc, Mem.get, assoc, renBlk, renSegs, renSg, renTo]
  · rintro i rfl
    simp only [absE, absL, absF, reduceCtorEq, ↓reduceIte, Nat.reduceEqDiff, Nat.reduceAdd, Nat.reduceLT, Nat.reduceMul, Nat.reduceSub, Nat.reduceLeDiff, Int.reduceLT, Int.reduceLE, Int.reduceEq, Option.isSome_some, implies_true, false_implies, Prod.mk.injEq, ne_eq, not_false_eq_true, not_true_eq_false, ge_iff_le, gt_iff_lt, Int.toNat_natCast, Int.reduceToNat, Int.cast_ofNat_Int, Int.natCast_nonneg, Int.lt_irrefl, Try.results16]
    exact ⟨[], by simp, by simp, by simp [renV, renVs, renSegs, renSg]⟩
theorem eqInts_ok (k : Nat) (xs : List Int) (hx : xs.length = k) (hk : k < 2 ^ 40) :
    ACalls Try.prog 14 [.ref (.sl 0 0 0 0 k 1), .ref (.sl 0 1 0 0 k 1)] [.lv true [(0, .ints .i64 k xs)], .lv true [(0, .ints .i64 k xs)]] (fun v ms ns => v = .b true ∧ ms = [.lv true [(0, .ints .i64 k xs)], .lv true [(0, .ints .i64 k xs)]] ∧ ns = []) := by
  refine acalls_of_body mix Try.func14 rfl fok14 (Nat.le_of_ble_eq_true rfl) ?_
  unfold abody
  simp only [absE, absL, absF, reduceCtorEq, ↓reduceIte, Nat.reduceEqDiff, Nat.reduceAdd, Nat.reduceLT, Nat.reduceMul, Nat.reduceSub, Nat.reduceLeDiff, Int.reduceLT, Int.reduceLE, Int.reduceEq, Option.isSome_some, implies_true, false_implies, Prod.mk.injEq, ne_eq, not_false_eq_true, not_true_eq_false, ge_iff_le, gt_iff_lt, Int.toNat_natCast, Int.reduceToNat, Int.cast_ofNat_Int, Int.natCast_nonneg, Try.f14]
  refine awpLoop.intro (fun i : Nat => [(0, .ref (.sl 0 0 0 0 k 1)), (1, .ref (.sl 0 1 0 0 k 1)), (5, .i .i64 i)]) (fun i => ⟨[.lv true [(0, .ints .i64 k xs)], .lv true [(0, .ints .i64 k xs)]], [], 8⟩)
    (fun i => i ≤ k) (fun i => k - i) 0 (by omega) ⟨[], rfl, ?_, ?_⟩ ?_
  · simp [wkEnv, lk, renV, renAt, renTo]
  · simp [wkMem, wkLoc, Mem.get, assoc, renBlk, renSegs, renSg, renTo]
  · intro i hi
    by_cases h : (i : Int) < k
    · have w := wrap_i64s (show i < 2 ^ 62 by omega)
      have v1 : 0 + i * 1 < k := by omega
      simp only [absE, absL, absF, reduceCtorEq, ↓reduceIte, Nat.reduceEqDiff, Nat.reduceAdd, Nat.reduceLT, Nat.reduceMul, Nat.reduceSub, Nat.reduceLeDiff, Int.reduceLT, Int.reduceLE, Int.reduceEq, Option.isSome_some, implies_true, false_implies, Prod.mk.injEq, ne_eq, not_false_eq_true, not_true_eq_false, ge_iff_le, gt_iff_lt, Int.toNat_natCast, Int.reduceToNat, Int.cast_ofNat_Int, Int.natCast_nonneg, h, v1]
      refine LoopNext.intro (i + 1) (by omega) (by omega) ⟨[], rfl, ?_, ?_⟩
      · simp [wkEnv, lk, renV, renAt, renTo, w]
      · simp [wkMem, wkLoc, Mem.get, assoc, renBlk, renSegs, renSg, renTo, w]
    · simp only [absE, absL, absF, reduceCtorEq, ↓reduceIte, Nat.reduceEqDiff, Nat.reduceAdd, Nat.reduceLT, Nat.reduceMul, Nat.reduceSub, Nat.reduceLeDiff, Int.reduceLT, Int.reduceLE, Int.reduceEq, Option.isSome_some, implies_true, false_implies, Prod.mk.injEq, ne_eq, not_false_eq_true, not_true_eq_false, ge_iff_le, gt_iff_lt, Int.toNat_natCast, Int.reduceToNat, Int.cast_ofNat_Int, Int.natCast_nonneg, h, Try.results14]
      exact ⟨[], by simp, by simp, by simp [renV, renVs, renSegs, renSg, renBlk]⟩
theorem markInts_ok (k m : Nat) (xs : List Int) (hx : xs.length = k) (hk : k < 2 ^ 40) (hm : m < 2 ^ 40) :
    ACalls Try.prog 15 [.ref (.sl 0 0 0 0 k 1), .i .i64 m] [.lv true [(0, .ints .i64 k xs)]] (fun v ms ns => v = .i .i64 ((m + k : Nat) : Int) ∧ ms = [.lv true [(0, .ints .i64 k (marksL m k))]] ∧ ns = []) := by
  refine acalls_of_body mix Try.func15 rfl fok15 (Nat.le_of_ble_eq_true rfl) ?_
  unfold abody
  simp only [absE, absL, absF, reduceCtorEq, ↓reduceIte, Nat.reduceEqDiff, Nat.reduceAdd, Nat.reduceLT, Nat.reduceMul, Nat.reduceSub, Nat.reduceLeDiff, Int.reduceLT, Int.reduceLE, Int.reduceEq, Option.isSome_some, implies_true, false_implies, Prod.mk.injEq, ne_eq, not_false_eq_true, not_true_eq_false, ge_iff_le, gt_iff_lt, Int.toNat_natCast, Int.reduceToNat, Int.cast_ofNat_Int, Int.natCast_nonneg, Try.f15]
  refine awpLoop.intro (fun i : Nat => [(0, .ref (.sl 0 0 0 0 k 1)), (1, .i .i64 (m + i : Nat)), (5, .i .i64 i)]) (fun i => ⟨[.lv true [(0, .ints .i64 k (markedL m xs i))]], [], 3⟩)
    (fun i => i ≤ k) (fun i => k - i) 0 (by omega) ⟨[], rfl, ?_, ?_⟩ ?_
  · simp [wkEnv, lk, renV, renAt, renTo, markedL_zero]
  · simp [wkMem, wkLoc, Mem.get, assoc, renBlk, renSegs, renSg, renTo, markedL_zero]
  · intro i hi
    by_cases h : (i : Int) < k
    · have w := wrap_i64s (show i < 2 ^ 62 by omega)
      have w2 := wrap_i64s (show m + i < 2 ^ 62 by omega)
      have v1 : 0 + i * 1 + 1 ≤ k := by omega
      have e := markedL_next (m := m) (xs := xs) (show i < xs.length by omega)
      have e2 : (markedL m xs i).set (0 + i * 1) ((m + i : Nat) : Int) = markedL m xs (i + 1) := by rw [Nat.zero_add, Nat.mul_one]; exact e
      by_cases hk1 : 1 = k
      · subst hk1
        obtain rfl : i = 0 := by omega
        have e3 : [((m + 0 : Nat) : Int)] = markedL m xs (0 + 1) := by
          match xs, hx with
          | [x], _ => simp [markedL, marksL]
        simp only [absE, absL, absF, reduceCtorEq, ↓reduceIte, Nat.reduceEqDiff, Nat.reduceAdd, Nat.reduceLT, Nat.reduceMul, Nat.reduceSub, Nat.reduceLeDiff, Int.reduceLT, Int.reduceLE, Int.reduceEq, Option.isSome_some, implies_true, false_implies, Prod.mk.injEq, ne_eq, not_false_eq_true, not_true_eq_false, ge_iff_le, gt_iff_lt, Int.toNat_natCast, Int.reduceToNat, Int.cast_ofNat_Int, Int.natCast_nonneg, h, v1, w2, e3]
        have w0 : IntKind.i64.wrap 1 = 1 := by decide
        refine LoopNext.intro (0 + 1) (by omega) (by omega) ⟨[], rfl, ?_, ?_⟩
        · simp [wkEnv, lk, renV, renAt, renTo, w0, w2, Nat.add_assoc]
        · simp [wkMem, wkLoc, Mem.get, assoc, renBlk, renSegs, renSg, renTo, w0, w2, Nat.add_assoc]
      · simp only [absE, absL, absF, reduceCtorEq, ↓reduceIte, Nat.reduceEqDiff, Nat.reduceAdd, Nat.reduceLT, Nat.reduceMul, Nat.reduceSub, Nat.reduceLeDiff, Int.reduceLT, Int.reduceLE, Int.reduceEq, Option.isSome_some, implies_true, false_implies, Prod.mk.injEq, ne_eq, not_false_eq_true, not_true_eq_false, ge_iff_le, gt_iff_lt, Int.toNat_natCast, Int.reduceToNat, Int.cast_ofNat_Int, Int.natCast_nonneg, h, v1, w2, e2, hk1]
        refine LoopNext.intro (i + 1) (by omega) (by omega) ⟨[], rfl, ?_, ?_⟩
        · simp [wkEnv, lk, renV, renAt, renTo, w, Nat.add_assoc]
        · simp [wkMem, wkLoc, Mem.get, assoc, renBlk, renSegs, renSg, renTo, w, Nat.add_assoc]
    · have hk2 : i = k := by omega
      subst hk2
      have e : markedL m xs i = marksL m i := by rw [← hx]; exact markedL_all
      simp only [absE, absL, absF, reduceCtorEq, ↓reduceIte, Nat.reduceEqDiff, Nat.reduceAdd, Nat.reduceLT, Nat.reduceMul, Nat.reduceSub, Nat.reduceLeDiff, Int.reduceLT, Int.reduceLE, Int.reduceEq, Option.isSome_some, implies_true, false_implies, Prod.mk.injEq, ne_eq, not_false_eq_true, not_true_eq_false, ge_iff_le, gt_iff_lt, Int.toNat_natCast, Int.reduceToNat, Int.cast_ofNat_Int, Int.natCast_nonneg, h, Try.results15]
      exact ⟨[], by simp, by simp, by simp [renV, renVs, renSegs, renSg, renBlk, e]⟩
theorem heldInts_ok (k m : Nat) (hk : k < 2 ^ 40) (hm : m < 2 ^ 40) :
    ACalls Try.prog 16 [.ref (.sl 0 0 0 0 k 1), .i .i64 m] [.lv true [(0, .ints .i64 k (marksL m k))]] (fun v ms ns => v = .i .i64 ((m + k : Nat) : Int) ∧ ms = [.lv true [(0, .ints .i64 k (marksL m k))]] ∧ ns = []) := by
  refine acalls_of_body mix Try.func16 rfl fok16 (Nat.le_of_ble_eq_true rfl) ?_
  unfold abody
  simp only [absE, absL, absF, reduceCtorEq, ↓reduceIte, Nat.reduceEqDiff, Nat.reduceAdd, Nat.reduceLT, Nat.reduceMul, Nat.reduceSub, Nat.reduceLeDiff, Int.reduceLT, Int.reduceLE, Int.reduceEq, Option.isSome_some, implies_true, false_implies, Prod.mk.injEq, ne_eq, not_false_eq_true, not_true_eq_false, ge_iff_le, gt_iff_lt, Int.toNat_natCast, Int.reduceToNat, Int.cast_ofNat_Int, Int.natCast_nonneg, Try.f16]
  refine awpLoop.intro (fun i : Nat => [(0, .ref (.sl 0 0 0 0 k 1)), (1, .i .i64 (m + i : Nat)), (5, .i .i64 i)]) (fun i => ⟨[.lv true [(0, .ints .i64 k (marksL m k))]], [], 3⟩)
    (fun i => i ≤ k) (fun i => k - i) 0 (by omega) ⟨[], rfl, ?_, ?_⟩ ?_
  · simp [wkEnv, lk, renV, renAt, renTo]
  · simp [wkMem, wkLoc, Mem.get, assoc, renBlk, renSegs, renSg, renTo]
  · intro i hi
    by_cases h : (i : Int) < k
    · have w := wrap_i64s (show i < 2 ^ 62 by omega)
      have w2 := wrap_i64s (show m + i < 2 ^ 62 by omega)
      have v1 : 0 + i * 1 < k := by omega
      have k1 : (marksL m k).getD (0 + i * 1) 0 = ((m + i : Nat) : Int) := by rw [Nat.zero_add, Nat.mul_one]; exact marksL_get (by omega)
      simp only [absE, absL, absF, reduceCtorEq, ↓reduceIte, Nat.reduceEqDiff, Nat.reduceAdd, Nat.reduceLT, Nat.reduceMul, Nat.reduceSub, Nat.reduceLeDiff, Int.reduceLT, Int.reduceLE, Int.reduceEq, Option.isSome_some, implies_true, false_implies, Prod.mk.injEq, ne_eq, not_false_eq_true, not_true_eq_false, ge_iff_le, gt_iff_lt, Int.toNat_natCast, Int.reduceToNat, Int.cast_ofNat_Int, Int.natCast_nonneg, h, v1, w2, k1]
      refine LoopNext.intro (i + 1) (by omega) (by omega) ⟨[], rfl, ?_, ?_⟩
      · simp [wkEnv, lk, renV, renAt, renTo, w, Nat.add_assoc]
      · simp [wkMem, wkLoc, Mem.get, assoc, renBlk, renSegs, renSg, renTo, w, Nat.add_assoc]
    · have hk2 : i = k := by omega
      subst hk2
      simp only [absE, absL, absF, reduceCtorEq, ↓reduceIte, Nat.reduceEqDiff, Nat.reduceAdd, Nat.reduceLT, Nat.reduceMul, Nat.reduceSub, Nat.reduceLeDiff, Int.reduceLT, Int.reduceLE, Int.reduceEq, Option.isSome_some, implies_true, false_implies, Prod.mk.injEq, ne_eq, not_false_eq_true, not_true_eq_false, ge_iff_le, gt_iff_lt, Int.toNat_natCast, Int.reduceToNat, Int.cast_ofNat_Int, Int.natCast_nonneg, h, Try.results16]
      exact ⟨[], by simp, by simp, by simp [renV, renVs, renSegs, renSg, renBlk]⟩

end Go.Proofs.Ytjmenocghjggcaa
