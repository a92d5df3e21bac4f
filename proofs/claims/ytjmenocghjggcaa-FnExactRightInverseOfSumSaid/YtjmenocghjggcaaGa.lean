/-
Contracts of functions of the given program, by the abstract walk.
-/
import Derived.Test.YtjmenocghjggcaaAbsY
import Derived.Test.YtjmenocghjggcaaDc
import Derived.Test.YtjmenocghjggcaaFa
namespace Go.Proofs.Ytjmenocghjggcaa
open Go Go.Abs
set_option linter.unusedVariables false
set_option linter.unusedSectionVars false
set_option linter.unusedSimpArgs false
set_option maxRecDepth 100000
/-! sums of a square modulo a prime -/
def PrP (p : Int) : Prop := p = 2 ∨ p = 3 ∨ p = 5 ∨ p = 7
instance (p : Int) : Decidable (PrP p) := by unfold PrP; infer_instance
def prB (p : Int) : Bool := decide (PrP p)
theorem PrP.le {p : Int} (h : PrP p) : 2 ≤ p ∧ p ≤ 7 := by unfold PrP at h; omega
theorem isPrime_ok (p : Int) : ACalls Try.prog 60 [.i .i64 p] [] (fun v ms ns => v = .b (prB p) ∧ ms = [] ∧ ns = []) := by
  refine acalls_of_body mix Try.func60 rfl fok60 (Nat.le_of_ble_eq_true rfl) ?_
  unfold abody
  by_cases h2 : p = 2
  · subst h2
    simp only [absE, absL, absF, reduceCtorEq, ↓reduceIte, Nat.reduceEqDiff, Nat.reduceAdd, Nat.reduceLT, Nat.reduceMul, Nat.reduceSub, Nat.reduceLeDiff, Int.reduceLT, Int.reduceLE, Int.reduceEq, Option.isSome_some, implies_true, false_implies, Prod.mk.injEq, ne_eq, not_false_eq_true, not_true_eq_false, ge_iff_le, gt_iff_lt, Int.toNat_natCast, Int.reduceToNat, Int.cast_ofNat_Int, Int.natCast_nonneg, Try.f60, Try.results60]
    exact fin_true (by decide)
  · by_cases h3 : p = 3
    · subst h3
      simp only [absE, absL, absF, reduceCtorEq, ↓reduceIte, Nat.reduceEqDiff, Nat.reduceAdd, Nat.reduceLT, Nat.reduceMul, Nat.reduceSub, Nat.reduceLeDiff, Int.reduceLT, Int.reduceLE, Int.reduceEq, Option.isSome_some, implies_true, false_implies, Prod.mk.injEq, ne_eq, not_false_eq_true, not_true_eq_false, ge_iff_le, gt_iff_lt, Int.toNat_natCast, Int.reduceToNat, Int.cast_ofNat_Int, Int.natCast_nonneg, Try.f60, Try.results60]
      exact fin_true (by decide)
    · by_cases h5 : p = 5
      · subst h5
        simp only [absE, absL, absF, reduceCtorEq, ↓reduceIte, Nat.reduceEqDiff, Nat.reduceAdd, Nat.reduceLT, Nat.reduceMul, Nat.reduceSub, Nat.reduceLeDiff, Int.reduceLT, Int.reduceLE, Int.reduceEq, Option.isSome_some, implies_true, false_implies, Prod.mk.injEq, ne_eq, not_false_eq_true, not_true_eq_false, ge_iff_le, gt_iff_lt, Int.toNat_natCast, Int.reduceToNat, Int.cast_ofNat_Int, Int.natCast_nonneg, Try.f60, Try.results60]
        exact fin_true (by decide)
      · by_cases h7 : p = 7
        · subst h7
          simp only [absE, absL, absF, reduceCtorEq, ↓reduceIte, Nat.reduceEqDiff, Nat.reduceAdd, Nat.reduceLT, Nat.reduceMul, Nat.reduceSub, Nat.reduceLeDiff, Int.reduceLT, Int.reduceLE, Int.reduceEq, Option.isSome_some, implies_true, false_implies, Prod.mk.injEq, ne_eq, not_false_eq_true, not_true_eq_false, ge_iff_le, gt_iff_lt, Int.toNat_natCast, Int.reduceToNat, Int.cast_ofNat_Int, Int.natCast_nonneg, Try.f60, Try.results60]
          exact fin_true (by decide)
        · simp only [absE, absL, absF, reduceCtorEq, ↓reduceIte, Nat.reduceEqDiff, Nat.reduceAdd, Nat.reduceLT, Nat.reduceMul, Nat.reduceSub, Nat.reduceLeDiff, Int.reduceLT, Int.reduceLE, Int.reduceEq, Option.isSome_some, implies_true, false_implies, Prod.mk.injEq, ne_eq, not_false_eq_true, not_true_eq_false, ge_iff_le, gt_iff_lt, Int.toNat_natCast, Int.reduceToNat, Int.cast_ofNat_Int, Int.natCast_nonneg, h2, h3, h5, h7, Try.f60, Try.results60]
          exact fin_false (by simp [prB, PrP, h2, h3, h5, h7])
theorem l10Prime_ok (p : Int) : ACalls Try.prog 64 [.i .i64 p] [] (fun v ms ns => v = .b (prB p) ∧ ms = [] ∧ ns = []) := by
  refine acalls_of_body mix Try.func64 rfl fok64 (Nat.le_of_ble_eq_true rfl) ?_
  unfold abody
  by_cases h2 : p = 2
  · subst h2
    simp only [absE, absL, absF, reduceCtorEq, ↓reduceIte, Nat.reduceEqDiff, Nat.reduceAdd, Nat.reduceLT, Nat.reduceMul, Nat.reduceSub, Nat.reduceLeDiff, Int.reduceLT, Int.reduceLE, Int.reduceEq, Option.isSome_some, implies_true, false_implies, Prod.mk.injEq, ne_eq, not_false_eq_true, not_true_eq_false, ge_iff_le, gt_iff_lt, Int.toNat_natCast, Int.reduceToNat, Int.cast_ofNat_Int, Int.natCast_nonneg, Try.f64, Try.results64]
    exact fin_true (by decide)
  · by_cases h3 : p = 3
    · subst h3
      simp only [absE, absL, absF, reduceCtorEq, ↓reduceIte, Nat.reduceEqDiff, Nat.reduceAdd, Nat.reduceLT, Nat.reduceMul, Nat.reduceSub, Nat.reduceLeDiff, Int.reduceLT, Int.reduceLE, Int.reduceEq, Option.isSome_some, implies_true, false_implies, Prod.mk.injEq, ne_eq, not_false_eq_true, not_true_eq_false, ge_iff_le, gt_iff_lt, Int.toNat_natCast, Int.reduceToNat, Int.cast_ofNat_Int, Int.natCast_nonneg, Try.f64, Try.results64]
      exact fin_true (by decide)
    · by_cases h5 : p = 5
      · subst h5
        simp only [absE, absL, absF, reduceCtorEq, ↓reduceIte, Nat.reduceEqDiff, Nat.reduceAdd, Nat.reduceLT, Nat.reduceMul, Nat.reduceSub, Nat.reduceLeDiff, Int.reduceLT, Int.reduceLE, Int.reduceEq, Option.isSome_some, implies_true, false_implies, Prod.mk.injEq, ne_eq, not_false_eq_true, not_true_eq_false, ge_iff_le, gt_iff_lt, Int.toNat_natCast, Int.reduceToNat, Int.cast_ofNat_Int, Int.natCast_nonneg, Try.f64, Try.results64]
        exact fin_true (by decide)
      · by_cases h7 : p = 7
        · subst h7
          simp only [absE, absL, absF, reduceCtorEq, ↓reduceIte, Nat.reduceEqDiff, Nat.reduceAdd, Nat.reduceLT, Nat.reduceMul, Nat.reduceSub, Nat.reduceLeDiff, Int.reduceLT, Int.reduceLE, Int.reduceEq, Option.isSome_some, implies_true, false_implies, Prod.mk.injEq, ne_eq, not_false_eq_true, not_true_eq_false, ge_iff_le, gt_iff_lt, Int.toNat_natCast, Int.reduceToNat, Int.cast_ofNat_Int, Int.natCast_nonneg, Try.f64, Try.results64]
          exact fin_true (by decide)
        · simp only [absE, absL, absF, reduceCtorEq, ↓reduceIte, Nat.reduceEqDiff, Nat.reduceAdd, Nat.reduceLT, Nat.reduceMul, Nat.reduceSub, Nat.reduceLeDiff, Int.reduceLT, Int.reduceLE, Int.reduceEq, Option.isSome_some, implies_true, false_implies, Prod.mk.injEq, ne_eq, not_false_eq_true, not_true_eq_false, ge_iff_le, gt_iff_lt, Int.toNat_natCast, Int.reduceToNat, Int.cast_ofNat_Int, Int.natCast_nonneg, h2, h3, h5, h7, Try.f64, Try.results64]
          exact fin_false (by simp [prB, PrP, h2, h3, h5, h7])
def SumP (p : Int) (N : Nat) (xs : List Int) (k : Nat) : Prop := (∀ i, i < k → 0 ≤ xs.getD i 0 ∧ xs.getD i 0 ≤ p - 1) ∧ k = N
open Classical in
noncomputable def sumB (p : Int) (N : Nat) (xs : List Int) (k : Nat) : Bool := decide (SumP p N xs k)
theorem sumB_true {p : Int} {N : Nat} {xs : List Int} {k : Nat} (h : SumP p N xs k) : sumB p N xs k = true := by unfold sumB; exact @decide_eq_true _ (_) h
theorem sumB_false {p : Int} {N : Nat} {xs : List Int} {k : Nat} (h : ¬SumP p N xs k) : sumB p N xs k = false := by unfold sumB; exact @decide_eq_false _ (_) h
theorem sumB_iff {p : Int} {N : Nat} {xs : List Int} {k : Nat} : sumB p N xs k = true ↔ SumP p N xs k := by unfold sumB; exact @decide_eq_true_iff _ (_)
theorem isSum_ok (N : Nat) (t : List Int) (p : Int) (xs : List Int) (k : Nat) (hN : N ≤ 10) (hp : PrP p) (hx : xs.length = k) (hk : k ≤ 2 ^ 20) :
    ACalls Try.prog 61 [.agg (sqS N t), .i .i64 p, .ref (.sl 0 0 0 0 k 1)] [.lv true [(0, .ints .i64 k xs)]] (fun v ms ns => v = .b (sumB p N xs k) ∧ ms = [.lv true [(0, .ints .i64 k xs)]] ∧ ns = []) := by
  have hp2 := hp.le
  have wp : IntKind.i64.wrap (p - 1) = p - 1 := wrap_i64 (by omega) (by omega)
  refine acalls_of_body mix Try.func61 rfl fok61 (Nat.le_of_ble_eq_true rfl) ?_
  unfold abody
  simp only [absE, absL, absF, reduceCtorEq, ↓reduceIte, Nat.reduceEqDiff, Nat.reduceAdd, Nat.reduceLT, Nat.reduceMul, Nat.reduceSub, Nat.reduceLeDiff, Int.reduceLT, Int.reduceLE, Int.reduceEq, Option.isSome_some, implies_true, false_implies, Prod.mk.injEq, ne_eq, not_false_eq_true, not_true_eq_false, ge_iff_le, gt_iff_lt, Int.toNat_natCast, Int.reduceToNat, Int.cast_ofNat_Int, Int.natCast_nonneg, Try.f61]
  refine awpLoop.intro (fun i : Nat => [(1, .i .i64 p), (2, .ref (.sl 0 0 0 0 k 1)), (3, .ref (.ptr 1 0 0 0)), (9, .ref (.sl 0 0 0 0 k 1)), (10, .i .i64 k), (11, .i .i64 i)]) (fun i => ⟨[.lv true [(0, .ints .i64 k xs)]], [((1, 0), .lv true (sqS N t))], 6⟩)
    (fun i => i ≤ k ∧ ∀ j, j < i → 0 ≤ xs.getD j 0 ∧ xs.getD j 0 ≤ p - 1) (fun i => k - i) 0 ⟨by omega, fun j hj => absurd hj (by omega)⟩ ⟨[((1,0),(1,0))], rfl, ?_, ?_⟩ ?_
  · simp [wkEnv, lk, renV, renAt, renTo]
  · simp [wkMem, wkLoc, Mem.get, assoc, renBlk, renSegs, renSg, renTo]
  · rintro i ⟨hi, hq⟩
    by_cases h : (i : Int) < k
    · have w := wrap_i64s (show i < 2 ^ 62 by omega)
      have v1 : 0 + i * 1 < k := by omega
      have e0 : xs.getD (0 + i * 1) 0 = xs.getD i 0 := by rw [Nat.zero_add, Nat.mul_one]
      simp only [absE, absL, absF, reduceCtorEq, ↓reduceIte, Nat.reduceEqDiff, Nat.reduceAdd, Nat.reduceLT, Nat.reduceMul, Nat.reduceSub, Nat.reduceLeDiff, Int.reduceLT, Int.reduceLE, Int.reduceEq, Option.isSome_some, implies_true, false_implies, Prod.mk.injEq, ne_eq, not_false_eq_true, not_true_eq_false, ge_iff_le, gt_iff_lt, Int.toNat_natCast, Int.reduceToNat, Int.cast_ofNat_Int, Int.natCast_nonneg, h, v1, wp]
      refine CallsVia.none (within_ok (xs.getD (0 + i * 1) 0) 0 (p - 1)) ?_
      rintro _ _ _ ⟨rfl, rfl, rfl⟩
      by_cases hw : 0 ≤ xs.getD (0 + i * 1) 0 ∧ xs.getD (0 + i * 1) 0 ≤ p - 1
      · simp only [absE, absL, absF, reduceCtorEq, ↓reduceIte, Nat.reduceEqDiff, Nat.reduceAdd, Nat.reduceLT, Nat.reduceMul, Nat.reduceSub, Nat.reduceLeDiff, Int.reduceLT, Int.reduceLE, Int.reduceEq, Option.isSome_some, implies_true, false_implies, Prod.mk.injEq, ne_eq, not_false_eq_true, not_true_eq_false, ge_iff_le, gt_iff_lt, Int.toNat_natCast, Int.reduceToNat, Int.cast_ofNat_Int, Int.natCast_nonneg, hw, and_self]
        refine LoopNext.intro (i + 1) ⟨by omega, fun j hj => ?_⟩ (by omega) ⟨[((1,0),(1,0))], rfl, ?_, ?_⟩
        · by_cases ej : j = i
          · subst ej; rw [← e0]; exact hw
          · exact hq j (by omega)
        · simp [wkEnv, lk, renV, renAt, renTo, w]
        · simp [wkMem, wkLoc, Mem.get, assoc, renBlk, renSegs, renSg, renTo, w]
      · simp only [absE, absL, absF, reduceCtorEq, ↓reduceIte, Nat.reduceEqDiff, Nat.reduceAdd, Nat.reduceLT, Nat.reduceMul, Nat.reduceSub, Nat.reduceLeDiff, Int.reduceLT, Int.reduceLE, Int.reduceEq, Option.isSome_some, implies_true, false_implies, Prod.mk.injEq, ne_eq, not_false_eq_true, not_true_eq_false, ge_iff_le, gt_iff_lt, Int.toNat_natCast, Int.reduceToNat, Int.cast_ofNat_Int, Int.natCast_nonneg, hw, Try.results61]
        have hf : sumB p N xs k = false := sumB_false fun hu => hw (by rw [e0]; exact hu.1 i (by omega))
        exact ⟨[], by simp, by simp, by simp [renV, renBlk, renSegs, renSg, hf]⟩
    · by_cases hkN : k = N
      · subst hkN
        have hf : sumB p k xs k = true := sumB_true ⟨fun j hj => hq j (by omega), rfl⟩
        simp only [absE, absL, absF, reduceCtorEq, ↓reduceIte, Nat.reduceEqDiff, Nat.reduceAdd, Nat.reduceLT, Nat.reduceMul, Nat.reduceSub, Nat.reduceLeDiff, Int.reduceLT, Int.reduceLE, Int.reduceEq, Option.isSome_some, implies_true, false_implies, Prod.mk.injEq, ne_eq, not_false_eq_true, not_true_eq_false, ge_iff_le, gt_iff_lt, Int.toNat_natCast, Int.reduceToNat, Int.cast_ofNat_Int, Int.natCast_nonneg, h, eq_self, Try.results61]
        exact ⟨[], by simp, by simp, by simp [renV, renBlk, renSegs, renSg, hf]⟩
      · have g : ¬(k : Int) = N := by omega
        have hf : sumB p N xs k = false := sumB_false fun hu => hkN hu.2
        simp only [absE, absL, absF, reduceCtorEq, ↓reduceIte, Nat.reduceEqDiff, Nat.reduceAdd, Nat.reduceLT, Nat.reduceMul, Nat.reduceSub, Nat.reduceLeDiff, Int.reduceLT, Int.reduceLE, Int.reduceEq, Option.isSome_some, implies_true, false_implies, Prod.mk.injEq, ne_eq, not_false_eq_true, not_true_eq_false, ge_iff_le, gt_iff_lt, Int.toNat_natCast, Int.reduceToNat, Int.cast_ofNat_Int, Int.natCast_nonneg, h, g, Try.results61]
        exact ⟨[], by simp, by simp, by simp [renV, renBlk, renSegs, renSg, hf]⟩
theorem l10Is_ok (N : Nat) (t : List Int) (p : Int) (xs : List Int) (k : Nat) (hN : N ≤ 10) (hp : PrP p) (hx : xs.length = k) (hk : k ≤ 2 ^ 20) :
    ACalls Try.prog 65 [.i .i64 N, .i .i64 p, .ref (.sl 0 0 0 0 k 1)] [.lv true [(0, .ints .i64 k xs)]] (fun v ms ns => v = .b (sumB p N xs k) ∧ ms = [.lv true [(0, .ints .i64 k xs)]] ∧ ns = []) := by
  have hp2 := hp.le
  have wp : IntKind.i64.wrap (p - 1) = p - 1 := wrap_i64 (by omega) (by omega)
  refine acalls_of_body mix Try.func65 rfl fok65 (Nat.le_of_ble_eq_true rfl) ?_
  unfold abody
  simp only [absE, absL, absF, reduceCtorEq, ↓reduceIte, Nat.reduceEqDiff, Nat.reduceAdd, Nat.reduceLT, Nat.reduceMul, Nat.reduceSub, Nat.reduceLeDiff, Int.reduceLT, Int.reduceLE, Int.reduceEq, Option.isSome_some, implies_true, false_implies, Prod.mk.injEq, ne_eq, not_false_eq_true, not_true_eq_false, ge_iff_le, gt_iff_lt, Int.toNat_natCast, Int.reduceToNat, Int.cast_ofNat_Int, Int.natCast_nonneg, Try.f65]
  refine awpLoop.intro (fun i : Nat => [(0, .i .i64 N), (1, .i .i64 p), (2, .ref (.sl 0 0 0 0 k 1)), (7, .i .i64 i)]) (fun i => ⟨[.lv true [(0, .ints .i64 k xs)]], [], 3⟩)
    (fun i => i ≤ k ∧ ∀ j, j < i → 0 ≤ xs.getD j 0 ∧ xs.getD j 0 ≤ p - 1) (fun i => k - i) 0 ⟨by omega, fun j hj => absurd hj (by omega)⟩ ⟨[], rfl, ?_, ?_⟩ ?_
  · simp [wkEnv, lk, renV, renAt, renTo]
  · simp [wkMem, wkLoc, Mem.get, assoc, renBlk, renSegs, renSg, renTo]
  · rintro i ⟨hi, hq⟩
    by_cases h : (i : Int) < k
    · have w := wrap_i64s (show i < 2 ^ 62 by omega)
      have v1 : 0 + i * 1 < k := by omega
      have e0 : xs.getD (0 + i * 1) 0 = xs.getD i 0 := by rw [Nat.zero_add, Nat.mul_one]
      simp only [absE, absL, absF, reduceCtorEq, ↓reduceIte, Nat.reduceEqDiff, Nat.reduceAdd, Nat.reduceLT, Nat.reduceMul, Nat.reduceSub, Nat.reduceLeDiff, Int.reduceLT, Int.reduceLE, Int.reduceEq, Option.isSome_some, implies_true, false_implies, Prod.mk.injEq, ne_eq, not_false_eq_true, not_true_eq_false, ge_iff_le, gt_iff_lt, Int.toNat_natCast, Int.reduceToNat, Int.cast_ofNat_Int, Int.natCast_nonneg, h, v1, wp]
      refine CallsVia.none (l01In_ok (xs.getD (0 + i * 1) 0) 0 (p - 1)) ?_
      rintro _ _ _ ⟨rfl, rfl, rfl⟩
      by_cases hw : 0 ≤ xs.getD (0 + i * 1) 0 ∧ xs.getD (0 + i * 1) 0 ≤ p - 1
      · simp only [absE, absL, absF, reduceCtorEq, ↓reduceIte, Nat.reduceEqDiff, Nat.reduceAdd, Nat.reduceLT, Nat.reduceMul, Nat.reduceSub, Nat.reduceLeDiff, Int.reduceLT, Int.reduceLE, Int.reduceEq, Option.isSome_some, implies_true, false_implies, Prod.mk.injEq, ne_eq, not_false_eq_true, not_true_eq_false, ge_iff_le, gt_iff_lt, Int.toNat_natCast, Int.reduceToNat, Int.cast_ofNat_Int, Int.natCast_nonneg, hw, and_self]
        refine LoopNext.intro (i + 1) ⟨by omega, fun j hj => ?_⟩ (by omega) ⟨[], rfl, ?_, ?_⟩
        · by_cases ej : j = i
          · subst ej; rw [← e0]; exact hw
          · exact hq j (by omega)
        · simp [wkEnv, lk, renV, renAt, renTo, w]
        · simp [wkMem, wkLoc, Mem.get, assoc, renBlk, renSegs, renSg, renTo, w]
      · simp only [absE, absL, absF, reduceCtorEq, ↓reduceIte, Nat.reduceEqDiff, Nat.reduceAdd, Nat.reduceLT, Nat.reduceMul, Nat.reduceSub, Nat.reduceLeDiff, Int.reduceLT, Int.reduceLE, Int.reduceEq, Option.isSome_some, implies_true, false_implies, Prod.mk.injEq, ne_eq, not_false_eq_true, not_true_eq_false, ge_iff_le, gt_iff_lt, Int.toNat_natCast, Int.reduceToNat, Int.cast_ofNat_Int, Int.natCast_nonneg, hw, Try.results65]
        have hf : sumB p N xs k = false := sumB_false fun hu => hw (by rw [e0]; exact hu.1 i (by omega))
        exact ⟨[], by simp, by simp, by simp [renV, renBlk, renSegs, renSg, hf]⟩
    · by_cases hkN : k = N
      · subst hkN
        have hf : sumB p k xs k = true := sumB_true ⟨fun j hj => hq j (by omega), rfl⟩
        simp only [absE, absL, absF, reduceCtorEq, ↓reduceIte, Nat.reduceEqDiff, Nat.reduceAdd, Nat.reduceLT, Nat.reduceMul, Nat.reduceSub, Nat.reduceLeDiff, Int.reduceLT, Int.reduceLE, Int.reduceEq, Option.isSome_some, implies_true, false_implies, Prod.mk.injEq, ne_eq, not_false_eq_true, not_true_eq_false, ge_iff_le, gt_iff_lt, Int.toNat_natCast, Int.reduceToNat, Int.cast_ofNat_Int, Int.natCast_nonneg, h, eq_self, Try.results65]
        exact ⟨[], by simp, by simp, by simp [renV, renBlk, renSegs, renSg, hf]⟩
      · have g : ¬(k : Int) = N := by omega
        have hf : sumB p N xs k = false := sumB_false fun hu => hkN hu.2
        simp only [absE, absL, absF, reduceCtorEq, ↓reduceIte, Nat.reduceEqDiff, Nat.reduceAdd, Nat.reduceLT, Nat.reduceMul, Nat.reduceSub, Nat.reduceLeDiff, Int.reduceLT, Int.reduceLE, Int.reduceEq, Option.isSome_some, implies_true, false_implies, Prod.mk.injEq, ne_eq, not_false_eq_true, not_true_eq_false, ge_iff_le, gt_iff_lt, Int.toNat_natCast, Int.reduceToNat, Int.cast_ofNat_Int, Int.natCast_nonneg, h, g, Try.results65]
        exact ⟨[], by simp, by simp, by simp [renV, renBlk, renSegs, renSg, hf]⟩
noncomputable def rcd1 (n : Int) (t : List Int) (p : Int) (xs : List Int) (k : Nat) : Int := if loopB n t then (if prB p && sumB p n.toNat xs k then 0 else 2) else 1
theorem ringCode1_ok (n : Int) (t : List Int) (p : Int) (xs : List Int) (k : Nat) (ht : Bytes 100 t) (hx : xs.length = k) (hk : k ≤ 2 ^ 20) :
    ACalls Try.prog 30 [.agg (sqS n t), .i .i64 p, .ref (.sl 0 0 0 0 1 1)] [.lv true [(0, .cells 1 [.sl 0 1 0 0 k 1])], .lv true [(0, .ints .i64 k xs)]] (fun v ms ns => v = .i .i64 (rcd1 n t p xs k) ∧ ms = [.lv true [(0, .cells 1 [.sl 0 1 0 0 k 1])], .lv true [(0, .ints .i64 k xs)]] ∧ ns = []) := by
  refine acalls_of_body mix Try.func30 rfl fok30 (Nat.le_of_ble_eq_true rfl) ?_
  unfold abody
  simp only [absE, absL, absF, reduceCtorEq, ↓reduceIte, Nat.reduceEqDiff, Nat.reduceAdd, Nat.reduceLT, Nat.reduceMul, Nat.reduceSub, Nat.reduceLeDiff, Int.reduceLT, Int.reduceLE, Int.reduceEq, Option.isSome_some, implies_true, false_implies, Prod.mk.injEq, ne_eq, not_false_eq_true, not_true_eq_false, ge_iff_le, gt_iff_lt, Int.toNat_natCast, Int.reduceToNat, Int.cast_ofNat_Int, Int.natCast_nonneg, Try.f30]
  refine CallsVia.none (isLoop_ok n t ht) ?_
  rintro _ _ _ ⟨rfl, rfl, rfl⟩
  cases h1 : loopB n t
  · simp only [absE, absL, absF, reduceCtorEq, ↓reduceIte, Nat.reduceEqDiff, Nat.reduceAdd, Nat.reduceLT, Nat.reduceMul, Nat.reduceSub, Nat.reduceLeDiff, Int.reduceLT, Int.reduceLE, Int.reduceEq, Option.isSome_some, implies_true, false_implies, Prod.mk.injEq, ne_eq, not_false_eq_true, not_true_eq_false, ge_iff_le, gt_iff_lt, Int.toNat_natCast, Int.reduceToNat, Int.cast_ofNat_Int, Int.natCast_nonneg, Try.results30]
    exact ⟨[], by simp, by simp, by simp [renV, renBlk, renSegs, renSg, renAt, renFin, rcd1, h1]⟩
  · have hs : SqP n t := by simp only [loopB, Bool.and_eq_true] at h1; exact sqB_iff.1 h1.1
    obtain ⟨N, rfl⟩ : ∃ N : Nat, n = N := ⟨n.toNat, by have := hs.1; omega⟩
    have hN := hs.le
    simp only [absE, absL, absF, reduceCtorEq, ↓reduceIte, Nat.reduceEqDiff, Nat.reduceAdd, Nat.reduceLT, Nat.reduceMul, Nat.reduceSub, Nat.reduceLeDiff, Int.reduceLT, Int.reduceLE, Int.reduceEq, Option.isSome_some, implies_true, false_implies, Prod.mk.injEq, ne_eq, not_false_eq_true, not_true_eq_false, ge_iff_le, gt_iff_lt, Int.toNat_natCast, Int.reduceToNat, Int.cast_ofNat_Int, Int.natCast_nonneg]
    refine CallsVia.none (isPrime_ok p) ?_
    rintro _ _ _ ⟨rfl, rfl, rfl⟩
    cases h2 : prB p
    · simp only [absE, absL, absF, reduceCtorEq, ↓reduceIte, Nat.reduceEqDiff, Nat.reduceAdd, Nat.reduceLT, Nat.reduceMul, Nat.reduceSub, Nat.reduceLeDiff, Int.reduceLT, Int.reduceLE, Int.reduceEq, Option.isSome_some, implies_true, false_implies, Prod.mk.injEq, ne_eq, not_false_eq_true, not_true_eq_false, ge_iff_le, gt_iff_lt, Int.toNat_natCast, Int.reduceToNat, Int.cast_ofNat_Int, Int.natCast_nonneg, Try.results30]
      exact ⟨[], by simp, by simp, by simp [renV, renBlk, renSegs, renSg, renAt, renFin, rcd1, h1, h2]⟩
    · have hp : PrP p := of_decide_eq_true h2
      simp only [absE, absL, absF, reduceCtorEq, ↓reduceIte, Nat.reduceEqDiff, Nat.reduceAdd, Nat.reduceLT, Nat.reduceMul, Nat.reduceSub, Nat.reduceLeDiff, Int.reduceLT, Int.reduceLE, Int.reduceEq, Option.isSome_some, implies_true, false_implies, Prod.mk.injEq, ne_eq, not_false_eq_true, not_true_eq_false, ge_iff_le, gt_iff_lt, Int.toNat_natCast, Int.reduceToNat, Int.cast_ofNat_Int, Int.natCast_nonneg]
      refine awpLoop.intro (fun i : Nat => [(1, .i .i64 p), (3, .ref (.ptr 1 0 0 0)), (17, .ref (.sl 0 0 0 0 1 1)), (18, .i .i64 1), (19, .i .i64 i)]) (fun i => ⟨[.lv true [(0, .cells 1 [.sl 0 1 0 0 k 1])], .lv true [(0, .ints .i64 k xs)]], [((1, 0), .lv true (sqS N t))], 14⟩)
        (fun i => i ≤ 1 ∧ (i = 1 → sumB p N xs k = true)) (fun i => 1 - i) 0 ⟨by omega, fun h => absurd h (by omega)⟩ ⟨[((1,0),(1,0))], rfl, ?_, ?_⟩ ?_
      · simp [wkEnv, lk, renV, renAt, renTo, renAt]
      · simp [wkMem, wkLoc, Mem.get, assoc, renBlk, renSegs, renSg, renTo, renAt]
      · rintro i ⟨hi, hq⟩
        have w0 : IntKind.i64.wrap 1 = 1 := by decide
        by_cases h0 : i = 0
        · subst h0
          simp only [absE, absL, absF, reduceCtorEq, ↓reduceIte, Nat.reduceEqDiff, Nat.reduceAdd, Nat.reduceLT, Nat.reduceMul, Nat.reduceSub, Nat.reduceLeDiff, Int.reduceLT, Int.reduceLE, Int.reduceEq, Option.isSome_some, implies_true, false_implies, Prod.mk.injEq, ne_eq, not_false_eq_true, not_true_eq_false, ge_iff_le, gt_iff_lt, Int.toNat_natCast, Int.reduceToNat, Int.cast_ofNat_Int, Int.natCast_nonneg]
          refine CallsVia.args [(0, 1)] (isSum_ok N t p xs k hN hp hx hk) (by simp) (by simp [Mem.get]) rfl rfl ?_
          try rintro _ _ _ ⟨rfl, rfl, rfl⟩
          cases h3 : sumB p N xs k
          · simp only [absE, absL, absF, reduceCtorEq, ↓reduceIte, Nat.reduceEqDiff, Nat.reduceAdd, Nat.reduceLT, Nat.reduceMul, Nat.reduceSub, Nat.reduceLeDiff, Int.reduceLT, Int.reduceLE, Int.reduceEq, Option.isSome_some, implies_true, false_implies, Prod.mk.injEq, ne_eq, not_false_eq_true, not_true_eq_false, ge_iff_le, gt_iff_lt, Int.toNat_natCast, Int.reduceToNat, Int.cast_ofNat_Int, Int.natCast_nonneg, Try.results30]
            exact ⟨[], by simp, by simp, by simp [renV, renBlk, renSegs, renSg, renAt, renFin, rcd1, h1, h2, h3]⟩
          · simp only [absE, absL, absF, reduceCtorEq, ↓reduceIte, Nat.reduceEqDiff, Nat.reduceAdd, Nat.reduceLT, Nat.reduceMul, Nat.reduceSub, Nat.reduceLeDiff, Int.reduceLT, Int.reduceLE, Int.reduceEq, Option.isSome_some, implies_true, false_implies, Prod.mk.injEq, ne_eq, not_false_eq_true, not_true_eq_false, ge_iff_le, gt_iff_lt, Int.toNat_natCast, Int.reduceToNat, Int.cast_ofNat_Int, Int.natCast_nonneg]
            refine LoopNext.intro 1 ⟨by omega, fun _ => by first | rfl | exact h3⟩ (by omega) ⟨[((1,0),(1,0))], rfl, ?_, ?_⟩
            · simp [wkEnv, lk, renV, renAt, renTo, w0, renAt]
            · simp [wkMem, wkLoc, Mem.get, assoc, renBlk, renSegs, renSg, renTo, w0, renAt]
        · obtain rfl : i = 1 := by omega
          have h3 := hq rfl
          simp only [absE, absL, absF, reduceCtorEq, ↓reduceIte, Nat.reduceEqDiff, Nat.reduceAdd, Nat.reduceLT, Nat.reduceMul, Nat.reduceSub, Nat.reduceLeDiff, Int.reduceLT, Int.reduceLE, Int.reduceEq, Option.isSome_some, implies_true, false_implies, Prod.mk.injEq, ne_eq, not_false_eq_true, not_true_eq_false, ge_iff_le, gt_iff_lt, Int.toNat_natCast, Int.reduceToNat, Int.cast_ofNat_Int, Int.natCast_nonneg, Try.results30]
          exact ⟨[], by simp, by simp, by simp [renV, renBlk, renSegs, renSg, renAt, renFin, rcd1, h1, h2, h3]⟩
theorem l10Code1_ok (n : Int) (t : List Int) (p : Int) (xs : List Int) (k : Nat) (ht : Bytes 100 t) (hx : xs.length = k) (hk : k ≤ 2 ^ 20) :
    ACalls Try.prog 35 [.agg (sqS n t), .i .i64 p, .ref (.sl 0 0 0 0 1 1)] [.lv true [(0, .cells 1 [.sl 0 1 0 0 k 1])], .lv true [(0, .ints .i64 k xs)]] (fun v ms ns => v = .i .i64 (rcd1 n t p xs k) ∧ ms = [.lv true [(0, .cells 1 [.sl 0 1 0 0 k 1])], .lv true [(0, .ints .i64 k xs)]] ∧ ns = []) := by
  refine acalls_of_body mix Try.func35 rfl fok35 (Nat.le_of_ble_eq_true rfl) ?_
  unfold abody
  simp only [absE, absL, absF, reduceCtorEq, ↓reduceIte, Nat.reduceEqDiff, Nat.reduceAdd, Nat.reduceLT, Nat.reduceMul, Nat.reduceSub, Nat.reduceLeDiff, Int.reduceLT, Int.reduceLE, Int.reduceEq, Option.isSome_some, implies_true, false_implies, Prod.mk.injEq, ne_eq, not_false_eq_true, not_true_eq_false, ge_iff_le, gt_iff_lt, Int.toNat_natCast, Int.reduceToNat, Int.cast_ofNat_Int, Int.natCast_nonneg, Try.f35]
  refine CallsVia.none (l01Loop_ok n t ht) ?_
  rintro _ _ _ ⟨rfl, rfl, rfl⟩
  cases h1 : loopB n t
  · simp only [absE, absL, absF, reduceCtorEq, ↓reduceIte, Nat.reduceEqDiff, Nat.reduceAdd, Nat.reduceLT, Nat.reduceMul, Nat.reduceSub, Nat.reduceLeDiff, Int.reduceLT, Int.reduceLE, Int.reduceEq, Option.isSome_some, implies_true, false_implies, Prod.mk.injEq, ne_eq, not_false_eq_true, not_true_eq_false, ge_iff_le, gt_iff_lt, Int.toNat_natCast, Int.reduceToNat, Int.cast_ofNat_Int, Int.natCast_nonneg, Try.results35]
    exact ⟨[], by simp, by simp, by simp [renV, renBlk, renSegs, renSg, renAt, renFin, rcd1, h1]⟩
  · have hs : SqP n t := by simp only [loopB, Bool.and_eq_true] at h1; exact sqB_iff.1 h1.1
    obtain ⟨N, rfl⟩ : ∃ N : Nat, n = N := ⟨n.toNat, by have := hs.1; omega⟩
    have hN := hs.le
    simp only [absE, absL, absF, reduceCtorEq, ↓reduceIte, Nat.reduceEqDiff, Nat.reduceAdd, Nat.reduceLT, Nat.reduceMul, Nat.reduceSub, Nat.reduceLeDiff, Int.reduceLT, Int.reduceLE, Int.reduceEq, Option.isSome_some, implies_true, false_implies, Prod.mk.injEq, ne_eq, not_false_eq_true, not_true_eq_false, ge_iff_le, gt_iff_lt, Int.toNat_natCast, Int.reduceToNat, Int.cast_ofNat_Int, Int.natCast_nonneg]
    refine CallsVia.none (l10Prime_ok p) ?_
    rintro _ _ _ ⟨rfl, rfl, rfl⟩
    cases h2 : prB p
    · simp only [absE, absL, absF, reduceCtorEq, ↓reduceIte, Nat.reduceEqDiff, Nat.reduceAdd, Nat.reduceLT, Nat.reduceMul, Nat.reduceSub, Nat.reduceLeDiff, Int.reduceLT, Int.reduceLE, Int.reduceEq, Option.isSome_some, implies_true, false_implies, Prod.mk.injEq, ne_eq, not_false_eq_true, not_true_eq_false, ge_iff_le, gt_iff_lt, Int.toNat_natCast, Int.reduceToNat, Int.cast_ofNat_Int, Int.natCast_nonneg, Try.results35]
      exact ⟨[], by simp, by simp, by simp [renV, renBlk, renSegs, renSg, renAt, renFin, rcd1, h1, h2]⟩
    · have hp : PrP p := of_decide_eq_true h2
      simp only [absE, absL, absF, reduceCtorEq, ↓reduceIte, Nat.reduceEqDiff, Nat.reduceAdd, Nat.reduceLT, Nat.reduceMul, Nat.reduceSub, Nat.reduceLeDiff, Int.reduceLT, Int.reduceLE, Int.reduceEq, Option.isSome_some, implies_true, false_implies, Prod.mk.injEq, ne_eq, not_false_eq_true, not_true_eq_false, ge_iff_le, gt_iff_lt, Int.toNat_natCast, Int.reduceToNat, Int.cast_ofNat_Int, Int.natCast_nonneg]
      refine awpLoop.intro (fun i : Nat => [(1, .i .i64 p), (2, .ref (.sl 0 0 0 0 1 1)), (3, .ref (.ptr 1 0 0 0)), (7, .i .i64 i)]) (fun i => ⟨[.lv true [(0, .cells 1 [.sl 0 1 0 0 k 1])], .lv true [(0, .ints .i64 k xs)]], [((1, 0), .lv true (sqS N t))], 12⟩)
        (fun i => i ≤ 1 ∧ (i = 1 → sumB p N xs k = true)) (fun i => 1 - i) 0 ⟨by omega, fun h => absurd h (by omega)⟩ ⟨[((1,0),(1,0))], rfl, ?_, ?_⟩ ?_
      · simp [wkEnv, lk, renV, renAt, renTo, renAt]
      · simp [wkMem, wkLoc, Mem.get, assoc, renBlk, renSegs, renSg, renTo, renAt]
      · rintro i ⟨hi, hq⟩
        have w0 : IntKind.i64.wrap 1 = 1 := by decide
        by_cases h0 : i = 0
        · subst h0
          simp only [absE, absL, absF, reduceCtorEq, ↓reduceIte, Nat.reduceEqDiff, Nat.reduceAdd, Nat.reduceLT, Nat.reduceMul, Nat.reduceSub, Nat.reduceLeDiff, Int.reduceLT, Int.reduceLE, Int.reduceEq, Option.isSome_some, implies_true, false_implies, Prod.mk.injEq, ne_eq, not_false_eq_true, not_true_eq_false, ge_iff_le, gt_iff_lt, Int.toNat_natCast, Int.reduceToNat, Int.cast_ofNat_Int, Int.natCast_nonneg]
          refine CallsX.args [(0, 1)] (l10Is_ok N t p xs k hN hp hx hk) (by simp) (by simp [Mem.get]) rfl rfl ?_
          try rintro _ _ _ ⟨rfl, rfl, rfl⟩
          cases h3 : sumB p N xs k
          · simp only [absE, absL, absF, reduceCtorEq, ↓reduceIte, Nat.reduceEqDiff, Nat.reduceAdd, Nat.reduceLT, Nat.reduceMul, Nat.reduceSub, Nat.reduceLeDiff, Int.reduceLT, Int.reduceLE, Int.reduceEq, Option.isSome_some, implies_true, false_implies, Prod.mk.injEq, ne_eq, not_false_eq_true, not_true_eq_false, ge_iff_le, gt_iff_lt, Int.toNat_natCast, Int.reduceToNat, Int.cast_ofNat_Int, Int.natCast_nonneg, Try.results35]
            exact ⟨[], by simp, by simp, by simp [renV, renBlk, renSegs, renSg, renAt, renFin, rcd1, h1, h2, h3]⟩
          · simp only [absE, absL, absF, reduceCtorEq, ↓reduceIte, Nat.reduceEqDiff, Nat.reduceAdd, Nat.reduceLT, Nat.reduceMul, Nat.reduceSub, Nat.reduceLeDiff, Int.reduceLT, Int.reduceLE, Int.reduceEq, Option.isSome_some, implies_true, false_implies, Prod.mk.injEq, ne_eq, not_false_eq_true, not_true_eq_false, ge_iff_le, gt_iff_lt, Int.toNat_natCast, Int.reduceToNat, Int.cast_ofNat_Int, Int.natCast_nonneg]
            refine LoopNext.intro 1 ⟨by omega, fun _ => by first | rfl | exact h3⟩ (by omega) ⟨[((1,0),(1,0))], rfl, ?_, ?_⟩
            · simp [wkEnv, lk, renV, renAt, renTo, w0, renAt]
            · simp [wkMem, wkLoc, Mem.get, assoc, renBlk, renSegs, renSg, renTo, w0, renAt]
        · obtain rfl : i = 1 := by omega
          have h3 := hq rfl
          simp only [absE, absL, absF, reduceCtorEq, ↓reduceIte, Nat.reduceEqDiff, Nat.reduceAdd, Nat.reduceLT, Nat.reduceMul, Nat.reduceSub, Nat.reduceLeDiff, Int.reduceLT, Int.reduceLE, Int.reduceEq, Option.isSome_some, implies_true, false_implies, Prod.mk.injEq, ne_eq, not_false_eq_true, not_true_eq_false, ge_iff_le, gt_iff_lt, Int.toNat_natCast, Int.reduceToNat, Int.cast_ofNat_Int, Int.natCast_nonneg, Try.results35]
          exact ⟨[], by simp, by simp, by simp [renV, renBlk, renSegs, renSg, renAt, renFin, rcd1, h1, h2, h3]⟩

end Go.Proofs.Ytjmenocghjggcaa
