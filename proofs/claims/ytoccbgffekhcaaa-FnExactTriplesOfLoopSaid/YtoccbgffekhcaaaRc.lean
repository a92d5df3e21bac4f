/-
Contracts of functions of the given program, by the abstract walk.
-/
import Derived.Test.YtoccbgffekhcaaaAbsY
import Derived.Test.YtoccbgffekhcaaaRb
namespace Go.Proofs.Ytoccbgffekhcaaa
open Go Go.Abs
set_option linter.unusedVariables false
set_option linter.unusedSectionVars false
set_option linter.unusedSimpArgs false
set_option maxRecDepth 100000
/-! triple systems: comparing triples, the program's table -/
def cmpI (a b : Int) : Int := if a < b then -1 else if b < a then 1 else 0
theorem isNaN_ok (a : Int) : ACalls Try.prog 190 [.i .i64 a] [] (fun r ms ns => r = .b false ∧ ms = [] ∧ ns = []) := by
  refine acalls_of_body mix Try.func190 rfl fok190 (Nat.le_of_ble_eq_true rfl) ?_
  unfold abody
  simp only [absE, absL, absF, reduceCtorEq, ↓reduceIte, Nat.reduceEqDiff, Nat.reduceAdd, Nat.reduceLT, Nat.reduceMul, Nat.reduceSub, Nat.reduceLeDiff, Int.reduceLT, Int.reduceLE, Int.reduceEq, Option.isSome_some, implies_true, false_implies, Prod.mk.injEq, ne_eq, not_false_eq_true, not_true_eq_false, ge_iff_le, gt_iff_lt, Int.toNat_natCast, Int.reduceToNat, Int.cast_ofNat_Int, Int.natCast_nonneg, Try.f190, Try.results190]
  exact ⟨[], by simp, by simp, by simp [renV]⟩
theorem cmpI_ok (a b : Int) : ACalls Try.prog 188 [.i .i64 a, .i .i64 b] [] (fun r ms ns => r = .i .i64 (cmpI a b) ∧ ms = [] ∧ ns = []) := by
  refine acalls_of_body mix Try.func188 rfl fok188 (Nat.le_of_ble_eq_true rfl) ?_
  unfold abody
  simp only [absE, absL, absF, reduceCtorEq, ↓reduceIte, Nat.reduceEqDiff, Nat.reduceAdd, Nat.reduceLT, Nat.reduceMul, Nat.reduceSub, Nat.reduceLeDiff, Int.reduceLT, Int.reduceLE, Int.reduceEq, Option.isSome_some, implies_true, false_implies, Prod.mk.injEq, ne_eq, not_false_eq_true, not_true_eq_false, ge_iff_le, gt_iff_lt, Int.toNat_natCast, Int.reduceToNat, Int.cast_ofNat_Int, Int.natCast_nonneg, Try.f188]
  refine CallsVia.none (isNaN_ok a) ?_
  rintro _ _ _ ⟨rfl, rfl, rfl⟩
  refine CallsVia.none (isNaN_ok b) ?_
  rintro _ _ _ ⟨rfl, rfl, rfl⟩
  by_cases h1 : a < b
  · have e : cmpI a b = -1 := by unfold cmpI; rw [if_pos h1]
    simp only [absE, absL, absF, reduceCtorEq, ↓reduceIte, Nat.reduceEqDiff, Nat.reduceAdd, Nat.reduceLT, Nat.reduceMul, Nat.reduceSub, Nat.reduceLeDiff, Int.reduceLT, Int.reduceLE, Int.reduceEq, Option.isSome_some, implies_true, false_implies, Prod.mk.injEq, ne_eq, not_false_eq_true, not_true_eq_false, ge_iff_le, gt_iff_lt, Int.toNat_natCast, Int.reduceToNat, Int.cast_ofNat_Int, Int.natCast_nonneg, h1, Try.results188]
    exact ⟨[], by simp, by simp, by simp [renV, e]⟩
  · by_cases h2 : b < a
    · have e : cmpI a b = 1 := by unfold cmpI; rw [if_neg h1, if_pos h2]
      simp only [absE, absL, absF, reduceCtorEq, ↓reduceIte, Nat.reduceEqDiff, Nat.reduceAdd, Nat.reduceLT, Nat.reduceMul, Nat.reduceSub, Nat.reduceLeDiff, Int.reduceLT, Int.reduceLE, Int.reduceEq, Option.isSome_some, implies_true, false_implies, Prod.mk.injEq, ne_eq, not_false_eq_true, not_true_eq_false, ge_iff_le, gt_iff_lt, Int.toNat_natCast, Int.reduceToNat, Int.cast_ofNat_Int, Int.natCast_nonneg, h1, h2, Try.results188]
      exact ⟨[], by simp, by simp, by simp [renV, e]⟩
    · have e : cmpI a b = 0 := by unfold cmpI; rw [if_neg h1, if_neg h2]
      simp only [absE, absL, absF, reduceCtorEq, ↓reduceIte, Nat.reduceEqDiff, Nat.reduceAdd, Nat.reduceLT, Nat.reduceMul, Nat.reduceSub, Nat.reduceLeDiff, Int.reduceLT, Int.reduceLE, Int.reduceEq, Option.isSome_some, implies_true, false_implies, Prod.mk.injEq, ne_eq, not_false_eq_true, not_true_eq_false, ge_iff_le, gt_iff_lt, Int.toNat_natCast, Int.reduceToNat, Int.cast_ofNat_Int, Int.natCast_nonneg, h1, h2, Try.results188]
      exact ⟨[], by simp, by simp, by simp [renV, e]⟩
def cmp3 (p t : List Int) : Int := if lex3 p t then -1 else if lex3 t p then 1 else 0
theorem cmp3_at {p t : List Int} {i : Nat} (hi : i < 3) (h : ∀ j, j < i → p.getD j 0 = t.getD j 0) (hne : p.getD i 0 ≠ t.getD i 0) : cmp3 p t = cmpI (p.getD i 0) (t.getD i 0) := by
  unfold cmp3 cmpI
  simp only [lex3_at hi h hne, lex3_at hi (fun j hj => (h j hj).symm) hne.symm]
theorem cmp3_no {p t : List Int} (h : ∀ j, j < 3 → p.getD j 0 = t.getD j 0) : cmp3 p t = 0 := by
  unfold cmp3
  rw [if_neg (lex3_no h), if_neg (lex3_no fun j hj => (h j hj).symm)]
theorem cmp3_neg {p t : List Int} : 0 ≤ cmp3 p t ↔ ¬ lex3 p t := by
  unfold cmp3
  split
  · rename_i h; exact ⟨fun hh => absurd hh (by decide), fun hh => absurd h hh⟩
  · rename_i h
    refine ⟨fun _ => h, fun _ => ?_⟩
    split <;> decide
theorem compare_ok (p t : List Int) (hp : p.length = 3) (ht : t.length = 3) :
    ACalls Try.prog 172 [.ref (.sl 0 0 0 0 3 1), .ref (.sl 0 1 0 0 3 1)] [ibk p, ibk t] (fun v ms ns => v = .i .i64 (cmp3 p t) ∧ ms = [ibk p, ibk t] ∧ ns = []) := by
  unfold ibk
  refine acalls_of_body mix Try.func172 rfl fok172 (Nat.le_of_ble_eq_true rfl) ?_
  unfold abody
  simp only [absE, absL, absF, reduceCtorEq, ↓reduceIte, Nat.reduceEqDiff, Nat.reduceAdd, Nat.reduceLT, Nat.reduceMul, Nat.reduceSub, Nat.reduceLeDiff, Int.reduceLT, Int.reduceLE, Int.reduceEq, Option.isSome_some, implies_true, false_implies, Prod.mk.injEq, ne_eq, not_false_eq_true, not_true_eq_false, ge_iff_le, gt_iff_lt, Int.toNat_natCast, Int.reduceToNat, Int.cast_ofNat_Int, Int.natCast_nonneg, Try.f172]
  refine awpLoop.intro (fun i : Nat => [(0, .ref (.sl 0 0 0 0 3 1)), (1, .ref (.sl 0 1 0 0 3 1)), (9, .ref (.sl 0 0 0 0 3 1)), (10, .i .i64 3), (11, .i .i64 i)]) (fun i => ⟨[.lv true [(0, .ints .i64 3 p)], .lv true [(0, .ints .i64 3 t)]], [], 100⟩)
    (fun i => i ≤ 3 ∧ ∀ j, j < i → p.getD j 0 = t.getD j 0) (fun i => 3 - i) 0 ⟨by omega, fun j hj => absurd hj (by omega)⟩ ⟨[], rfl, ?_, ?_⟩ ?_
  · simp [wkEnv, lk, renV, renAt, renTo]
  · simp [wkMem, wkLoc, Mem.get, assoc, renBlk, renSegs, renSg, renTo]
  · rintro i ⟨hi, hq⟩
    by_cases h : (i : Int) < 3
    · have w := wrap_i64s (show i < 2 ^ 62 by omega)
      have v1 : 0 + i * 1 < 3 := by omega
      have e1 : p.getD (0 + i * 1) 0 = p.getD i 0 := by rw [Nat.zero_add, Nat.mul_one]
      have e2 : t.getD (0 + i * 1) 0 = t.getD i 0 := by rw [Nat.zero_add, Nat.mul_one]
      have h3 : ¬ (3 : Int) ≤ i := by omega
      simp only [absE, absL, absF, reduceCtorEq, ↓reduceIte, Nat.reduceEqDiff, Nat.reduceAdd, Nat.reduceLT, Nat.reduceMul, Nat.reduceSub, Nat.reduceLeDiff, Int.reduceLT, Int.reduceLE, Int.reduceEq, Option.isSome_some, implies_true, false_implies, Prod.mk.injEq, ne_eq, not_false_eq_true, not_true_eq_false, ge_iff_le, gt_iff_lt, Int.toNat_natCast, Int.reduceToNat, Int.cast_ofNat_Int, Int.natCast_nonneg, h, v1, e1, e2, h3]
      refine CallsVia.none (cmpI_ok (p.getD i 0) (t.getD i 0)) ?_
      rintro _ _ _ ⟨rfl, rfl, rfl⟩
      by_cases e : p.getD i 0 = t.getD i 0
      · have e0 : cmpI (p.getD i 0) (t.getD i 0) = 0 := by rw [e]; unfold cmpI; simp
        simp only [absE, absL, absF, reduceCtorEq, ↓reduceIte, Nat.reduceEqDiff, Nat.reduceAdd, Nat.reduceLT, Nat.reduceMul, Nat.reduceSub, Nat.reduceLeDiff, Int.reduceLT, Int.reduceLE, Int.reduceEq, Option.isSome_some, implies_true, false_implies, Prod.mk.injEq, ne_eq, not_false_eq_true, not_true_eq_false, ge_iff_le, gt_iff_lt, Int.toNat_natCast, Int.reduceToNat, Int.cast_ofNat_Int, Int.natCast_nonneg, e0]
        refine LoopNext.intro (i + 1) ⟨by omega, fun j hj => ?_⟩ (by omega) ⟨[], rfl, ?_, ?_⟩
        · by_cases ej : j = i
          · subst ej; exact e
          · exact hq j (by omega)
        · simp [wkEnv, lk, renV, renAt, renTo, w]
        · simp [wkMem, wkLoc, Mem.get, assoc, renBlk, renSegs, renSg, renTo, w]
      · have e0 : ¬ cmpI (p.getD i 0) (t.getD i 0) = 0 := by
          unfold cmpI
          split
          · decide
          · split
            · decide
            · omega
        have el := cmp3_at (by omega) hq e
        simp only [absE, absL, absF, reduceCtorEq, ↓reduceIte, Nat.reduceEqDiff, Nat.reduceAdd, Nat.reduceLT, Nat.reduceMul, Nat.reduceSub, Nat.reduceLeDiff, Int.reduceLT, Int.reduceLE, Int.reduceEq, Option.isSome_some, implies_true, false_implies, Prod.mk.injEq, ne_eq, not_false_eq_true, not_true_eq_false, ge_iff_le, gt_iff_lt, Int.toNat_natCast, Int.reduceToNat, Int.cast_ofNat_Int, Int.natCast_nonneg, e0, Try.results172]
        exact ⟨[], by simp, by simp, by simp [renV, renBlk, renSegs, renSg, el]⟩
    · have hl := cmp3_no (p := p) (t := t) fun j hj => hq j (by omega)
      simp only [absE, absL, absF, reduceCtorEq, ↓reduceIte, Nat.reduceEqDiff, Nat.reduceAdd, Nat.reduceLT, Nat.reduceMul, Nat.reduceSub, Nat.reduceLeDiff, Int.reduceLT, Int.reduceLE, Int.reduceEq, Option.isSome_some, implies_true, false_implies, Prod.mk.injEq, ne_eq, not_false_eq_true, not_true_eq_false, ge_iff_le, gt_iff_lt, Int.toNat_natCast, Int.reduceToNat, Int.cast_ofNat_Int, Int.natCast_nonneg, h, Try.results172]
      exact ⟨[], by simp, by simp, by simp [renV, renBlk, renSegs, renSg, hl]⟩

end Go.Proofs.Ytoccbgffekhcaaa
