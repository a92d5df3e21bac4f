/-
Contracts of functions of the given program, by the abstract walk.
-/
import Derived.Test.YtjmenocghjggcaaAbsY
import Derived.Test.YtjmenocghjggcaaGc
namespace Go.Proofs.Ytjmenocghjggcaa
open Go Go.Abs
set_option linter.unusedVariables false
set_option linter.unusedSectionVars false
set_option linter.unusedSimpArgs false
set_option maxRecDepth 100000
noncomputable def rcd2 (n : Int) (t : List Int) (p : Int) (xs : List Int) (k : Nat) (ys : List Int) (m : Nat) : Int := if loopB n t then (if prB p && sumB p n.toNat xs k && sumB p n.toNat ys m then 0 else 2) else 1
theorem rcd2_zero {n : Int} {t : List Int} {p : Int} {xs ys : List Int} {k m : Nat} (h : rcd2 n t p xs k ys m = 0) : loopB n t = true ∧ PrP p ∧ SumP p n.toNat xs k ∧ SumP p n.toNat ys m := by
  unfold rcd2 at h
  split at h
  · rename_i h1
    split at h
    · rename_i h2
      rw [Bool.and_eq_true, Bool.and_eq_true] at h2
      exact ⟨h1, of_decide_eq_true h2.1.1, sumB_iff.1 h2.1.2, sumB_iff.1 h2.2⟩
    · omega
  · omega
theorem ringCode2_ok (n : Int) (t : List Int) (p : Int) (xs : List Int) (k : Nat) (ys : List Int) (m : Nat) (ht : Bytes 100 t) (hx : xs.length = k) (hk : k ≤ 2 ^ 20) (hy : ys.length = m) (hm : m ≤ 2 ^ 20) :
    ACalls Try.prog 30 [.agg (sqS n t), .i .i64 p, .ref (.sl 0 0 0 0 2 1)] [.lv true [(0, .cells 2 [.sl 0 1 0 0 k 1, .sl 0 2 0 0 m 1])], .lv true [(0, .ints .i64 k xs)], .lv true [(0, .ints .i64 m ys)]] (fun v ms ns => v = .i .i64 (rcd2 n t p xs k ys m) ∧ ms = [.lv true [(0, .cells 2 [.sl 0 1 0 0 k 1, .sl 0 2 0 0 m 1])], .lv true [(0, .ints .i64 k xs)], .lv true [(0, .ints .i64 m ys)]] ∧ ns = []) := by
  refine acalls_of_body mix Try.func30 rfl fok30 (Nat.le_of_ble_eq_true rfl) ?_
  unfold abody
  simp only [absE, absL, absF, reduceCtorEq, ↓reduceIte, Nat.reduceEqDiff, Nat.reduceAdd, Nat.reduceLT, Nat.reduceMul, Nat.reduceSub, Nat.reduceLeDiff, Int.reduceLT, Int.reduceLE, Int.reduceEq, Option.isSome_some, implies_true, false_implies, Prod.mk.injEq, ne_eq, not_false_eq_true, not_true_eq_false, ge_iff_le, gt_iff_lt, Int.toNat_natCast, Int.reduceToNat, Int.cast_ofNat_Int, Int.natCast_nonneg, Try.f30]
  refine CallsVia.none (isLoop_ok n t ht) ?_
  rintro _ _ _ ⟨rfl, rfl, rfl⟩
  cases h1 : loopB n t
  · simp only [absE, absL, absF, reduceCtorEq, ↓reduceIte, Nat.reduceEqDiff, Nat.reduceAdd, Nat.reduceLT, Nat.reduceMul, Nat.reduceSub, Nat.reduceLeDiff, Int.reduceLT, Int.reduceLE, Int.reduceEq, Option.isSome_some, implies_true, false_implies, Prod.mk.injEq, ne_eq, not_false_eq_true, not_true_eq_false, ge_iff_le, gt_iff_lt, Int.toNat_natCast, Int.reduceToNat, Int.cast_ofNat_Int, Int.natCast_nonneg, Try.results30]
    exact ⟨[], by simp, by simp, by simp [renV, renBlk, renSegs, renSg, renAt, renFin, rcd2, h1]⟩
  · have hs : SqP n t := by simp only [loopB, Bool.and_eq_true] at h1; exact sqB_iff.1 h1.1
    obtain ⟨N, rfl⟩ : ∃ N : Nat, n = N := ⟨n.toNat, by have := hs.1; omega⟩
    have hN := hs.le
    simp only [absE, absL, absF, reduceCtorEq, ↓reduceIte, Nat.reduceEqDiff, Nat.reduceAdd, Nat.reduceLT, Nat.reduceMul, Nat.reduceSub, Nat.reduceLeDiff, Int.reduceLT, Int.reduceLE, Int.reduceEq, Option.isSome_some, implies_true, false_implies, Prod.mk.injEq, ne_eq, not_false_eq_true, not_true_eq_false, ge_iff_le, gt_iff_lt, Int.toNat_natCast, Int.reduceToNat, Int.cast_ofNat_Int, Int.natCast_nonneg]
    refine CallsVia.none (isPrime_ok p) ?_
    rintro _ _ _ ⟨rfl, rfl, rfl⟩
    cases h2 : prB p
    · simp only [absE, absL, absF, reduceCtorEq, ↓reduceIte, Nat.reduceEqDiff, Nat.reduceAdd, Nat.reduceLT, Nat.reduceMul, Nat.reduceSub, Nat.reduceLeDiff, Int.reduceLT, Int.reduceLE, Int.reduceEq, Option.isSome_some, implies_true, false_implies, Prod.mk.injEq, ne_eq, not_false_eq_true, not_true_eq_false, ge_iff_le, gt_iff_lt, Int.toNat_natCast, Int.reduceToNat, Int.cast_ofNat_Int, Int.natCast_nonneg, Try.results30]
      exact ⟨[], by simp, by simp, by simp [renV, renBlk, renSegs, renSg, renAt, renFin, rcd2, h1, h2]⟩
    · have hp : PrP p := of_decide_eq_true h2
      simp only [absE, absL, absF, reduceCtorEq, ↓reduceIte, Nat.reduceEqDiff, Nat.reduceAdd, Nat.reduceLT, Nat.reduceMul, Nat.reduceSub, Nat.reduceLeDiff, Int.reduceLT, Int.reduceLE, Int.reduceEq, Option.isSome_some, implies_true, false_implies, Prod.mk.injEq, ne_eq, not_false_eq_true, not_true_eq_false, ge_iff_le, gt_iff_lt, Int.toNat_natCast, Int.reduceToNat, Int.cast_ofNat_Int, Int.natCast_nonneg]
      refine awpLoop.intro (fun i : Nat => [(1, .i .i64 p), (3, .ref (.ptr 1 0 0 0)), (17, .ref (.sl 0 0 0 0 2 1)), (18, .i .i64 2), (19, .i .i64 i)]) (fun i => ⟨[.lv true [(0, .cells 2 [.sl 0 1 0 0 k 1, .sl 0 2 0 0 m 1])], .lv true [(0, .ints .i64 k xs)], .lv true [(0, .ints .i64 m ys)]], [((1, 0), .lv true (sqS N t))], 14⟩)
        (fun i => i ≤ 2 ∧ (1 ≤ i → sumB p N xs k = true) ∧ (2 ≤ i → sumB p N ys m = true)) (fun i => 2 - i) 0 ⟨by omega, fun h => absurd h (by omega), fun h => absurd h (by omega)⟩ ⟨[((1,0),(1,0))], rfl, ?_, ?_⟩ ?_
      · simp [wkEnv, lk, renV, renAt, renTo, renAt]
      · simp [wkMem, wkLoc, Mem.get, assoc, renBlk, renSegs, renSg, renTo, renAt]
      · rintro i ⟨hi, hq, hr⟩
        have w0 : IntKind.i64.wrap 1 = 1 := by decide
        have w1 : IntKind.i64.wrap 2 = 2 := by decide
        by_cases h0 : i = 0
        · subst h0
          simp only [absE, absL, absF, reduceCtorEq, ↓reduceIte, Nat.reduceEqDiff, Nat.reduceAdd, Nat.reduceLT, Nat.reduceMul, Nat.reduceSub, Nat.reduceLeDiff, Int.reduceLT, Int.reduceLE, Int.reduceEq, Option.isSome_some, implies_true, false_implies, Prod.mk.injEq, ne_eq, not_false_eq_true, not_true_eq_false, ge_iff_le, gt_iff_lt, Int.toNat_natCast, Int.reduceToNat, Int.cast_ofNat_Int, Int.natCast_nonneg]
          refine CallsVia.args [(0, 1)] (isSum_ok N t p xs k hN hp hx hk) (by simp) (by simp [Mem.get]) rfl rfl ?_
          try rintro _ _ _ ⟨rfl, rfl, rfl⟩
          cases h3 : sumB p N xs k
          · simp only [absE, absL, absF, reduceCtorEq, ↓reduceIte, Nat.reduceEqDiff, Nat.reduceAdd, Nat.reduceLT, Nat.reduceMul, Nat.reduceSub, Nat.reduceLeDiff, Int.reduceLT, Int.reduceLE, Int.reduceEq, Option.isSome_some, implies_true, false_implies, Prod.mk.injEq, ne_eq, not_false_eq_true, not_true_eq_false, ge_iff_le, gt_iff_lt, Int.toNat_natCast, Int.reduceToNat, Int.cast_ofNat_Int, Int.natCast_nonneg, Try.results30]
            exact ⟨[], by simp, by simp, by simp [renV, renBlk, renSegs, renSg, renAt, renFin, rcd2, h1, h2, h3]⟩
          · simp only [absE, absL, absF, reduceCtorEq, ↓reduceIte, Nat.reduceEqDiff, Nat.reduceAdd, Nat.reduceLT, Nat.reduceMul, Nat.reduceSub, Nat.reduceLeDiff, Int.reduceLT, Int.reduceLE, Int.reduceEq, Option.isSome_some, implies_true, false_implies, Prod.mk.injEq, ne_eq, not_false_eq_true, not_true_eq_false, ge_iff_le, gt_iff_lt, Int.toNat_natCast, Int.reduceToNat, Int.cast_ofNat_Int, Int.natCast_nonneg]
            refine LoopNext.intro 1 ⟨by omega, fun _ => by first | rfl | exact h3, fun h => absurd h (by omega)⟩ (by omega) ⟨[((1,0),(1,0))], rfl, ?_, ?_⟩
            · simp [wkEnv, lk, renV, renAt, renTo, w0, renAt]
            · simp [wkMem, wkLoc, Mem.get, assoc, renBlk, renSegs, renSg, renTo, w0, renAt]
        · by_cases h0' : i = 1
          · subst h0'
            have h3 := hq (by omega)
            simp only [absE, absL, absF, reduceCtorEq, ↓reduceIte, Nat.reduceEqDiff, Nat.reduceAdd, Nat.reduceLT, Nat.reduceMul, Nat.reduceSub, Nat.reduceLeDiff, Int.reduceLT, Int.reduceLE, Int.reduceEq, Option.isSome_some, implies_true, false_implies, Prod.mk.injEq, ne_eq, not_false_eq_true, not_true_eq_false, ge_iff_le, gt_iff_lt, Int.toNat_natCast, Int.reduceToNat, Int.cast_ofNat_Int, Int.natCast_nonneg]
            refine CallsVia.args [(0, 2)] (isSum_ok N t p ys m hN hp hy hm) (by simp) (by simp [Mem.get]) rfl rfl ?_
            try rintro _ _ _ ⟨rfl, rfl, rfl⟩
            cases h4 : sumB p N ys m
            · simp only [absE, absL, absF, reduceCtorEq, ↓reduceIte, Nat.reduceEqDiff, Nat.reduceAdd, Nat.reduceLT, Nat.reduceMul, Nat.reduceSub, Nat.reduceLeDiff, Int.reduceLT, Int.reduceLE, Int.reduceEq, Option.isSome_some, implies_true, false_implies, Prod.mk.injEq, ne_eq, not_false_eq_true, not_true_eq_false, ge_iff_le, gt_iff_lt, Int.toNat_natCast, Int.reduceToNat, Int.cast_ofNat_Int, Int.natCast_nonneg, Try.results30]
              exact ⟨[], by simp, by simp, by simp [renV, renBlk, renSegs, renSg, renAt, renFin, rcd2, h1, h2, h3, h4]⟩
            · simp only [absE, absL, absF, reduceCtorEq, ↓reduceIte, Nat.reduceEqDiff, Nat.reduceAdd, Nat.reduceLT, Nat.reduceMul, Nat.reduceSub, Nat.reduceLeDiff, Int.reduceLT, Int.reduceLE, Int.reduceEq, Option.isSome_some, implies_true, false_implies, Prod.mk.injEq, ne_eq, not_false_eq_true, not_true_eq_false, ge_iff_le, gt_iff_lt, Int.toNat_natCast, Int.reduceToNat, Int.cast_ofNat_Int, Int.natCast_nonneg]
              refine LoopNext.intro 2 ⟨by omega, fun _ => h3, fun _ => by first | rfl | exact h4⟩ (by omega) ⟨[((1,0),(1,0))], rfl, ?_, ?_⟩
              · simp [wkEnv, lk, renV, renAt, renTo, w1, renAt]
              · simp [wkMem, wkLoc, Mem.get, assoc, renBlk, renSegs, renSg, renTo, w1, renAt]
          · obtain rfl : i = 2 := by omega
            have h3 := hq (by omega)
            have h4 := hr (by omega)
            simp only [absE, absL, absF, reduceCtorEq, ↓reduceIte, Nat.reduceEqDiff, Nat.reduceAdd, Nat.reduceLT, Nat.reduceMul, Nat.reduceSub, Nat.reduceLeDiff, Int.reduceLT, Int.reduceLE, Int.reduceEq, Option.isSome_some, implies_true, false_implies, Prod.mk.injEq, ne_eq, not_false_eq_true, not_true_eq_false, ge_iff_le, gt_iff_lt, Int.toNat_natCast, Int.reduceToNat, Int.cast_ofNat_Int, Int.natCast_nonneg, Try.results30]
            exact ⟨[], by simp, by simp, by simp [renV, renBlk, renSegs, renSg, renAt, renFin, rcd2, h1, h2, h3, h4]⟩
theorem l10Code2_ok (n : Int) (t : List Int) (p : Int) (xs : List Int) (k : Nat) (ys : List Int) (m : Nat) (ht : Bytes 100 t) (hx : xs.length = k) (hk : k ≤ 2 ^ 20) (hy : ys.length = m) (hm : m ≤ 2 ^ 20) :
    ACalls Try.prog 35 [.agg (sqS n t), .i .i64 p, .ref (.sl 0 0 0 0 2 1)] [.lv true [(0, .cells 2 [.sl 0 1 0 0 k 1, .sl 0 2 0 0 m 1])], .lv true [(0, .ints .i64 k xs)], .lv true [(0, .ints .i64 m ys)]] (fun v ms ns => v = .i .i64 (rcd2 n t p xs k ys m) ∧ ms = [.lv true [(0, .cells 2 [.sl 0 1 0 0 k 1, .sl 0 2 0 0 m 1])], .lv true [(0, .ints .i64 k xs)], .lv true [(0, .ints .i64 m ys)]] ∧ ns = []) := by
  refine acalls_of_body mix Try.func35 rfl fok35 (Nat.le_of_ble_eq_true rfl) ?_
  unfold abody
  simp only [absE, absL, absF, reduceCtorEq, ↓reduceIte, Nat.reduceEqDiff, Nat.reduceAdd, Nat.reduceLT, Nat.reduceMul, Nat.reduceSub, Nat.reduceLeDiff, Int.reduceLT, Int.reduceLE, Int.reduceEq, Option.isSome_some, implies_true, false_implies, Prod.mk.injEq, ne_eq, not_false_eq_true, not_true_eq_false, ge_iff_le, gt_iff_lt, Int.toNat_natCast, Int.reduceToNat, Int.cast_ofNat_Int, Int.natCast_nonneg, Try.f35]
  refine CallsVia.none (l01Loop_ok n t ht) ?_
  rintro _ _ _ ⟨rfl, rfl, rfl⟩
  cases h1 : loopB n t
  · simp only [absE, absL, absF, reduceCtorEq, ↓reduceIte, Nat.reduceEqDiff, Nat.reduceAdd, Nat.reduceLT, Nat.reduceMul, Nat.reduceSub, Nat.reduceLeDiff, Int.reduceLT, Int.reduceLE, Int.reduceEq, Option.isSome_some, implies_true, false_implies, Prod.mk.injEq, ne_eq, not_false_eq_true, not_true_eq_false, ge_iff_le, gt_iff_lt, Int.toNat_natCast, Int.reduceToNat, Int.cast_ofNat_Int, Int.natCast_nonneg, Try.results35]
    exact ⟨[], by simp, by simp, by simp [renV, renBlk, renSegs, renSg, renAt, renFin, rcd2, h1]⟩
  · have hs : SqP n t := by simp only [loopB, Bool.and_eq_true] at h1; exact sqB_iff.1 h1.1
    obtain ⟨N, rfl⟩ : ∃ N : Nat, n = N := ⟨n.toNat, by have := hs.1; omega⟩
    have hN := hs.le
    simp only [absE, absL, absF, reduceCtorEq, ↓reduceIte, Nat.reduceEqDiff, Nat.reduceAdd, Nat.reduceLT, Nat.reduceMul, Nat.reduceSub, Nat.reduceLeDiff, Int.reduceLT, Int.reduceLE, Int.reduceEq, Option.isSome_some, implies_true, false_implies, Prod.mk.injEq, ne_eq, not_false_eq_true, not_true_eq_false, ge_iff_le, gt_iff_lt, Int.toNat_natCast, Int.reduceToNat, Int.cast_ofNat_Int, Int.natCast_nonneg]
    refine CallsVia.none (l10Prime_ok p) ?_
    rintro _ _ _ ⟨rfl, rfl, rfl⟩
    cases h2 : prB p
    · simp only [absE, absL, absF, reduceCtorEq, ↓reduceIte, Nat.reduceEqDiff, Nat.reduceAdd, Nat.reduceLT, Nat.reduceMul, Nat.reduceSub, Nat.reduceLeDiff, Int.reduceLT, Int.reduceLE, Int.reduceEq, Option.isSome_some, implies_true, false_implies, Prod.mk.injEq, ne_eq, not_false_eq_true, not_true_eq_false, ge_iff_le, gt_iff_lt, Int.toNat_natCast, Int.reduceToNat, Int.cast_ofNat_Int, Int.natCast_nonneg, Try.results35]
      exact ⟨[], by simp, by simp, by simp [renV, renBlk, renSegs, renSg, renAt, renFin, rcd2, h1, h2]⟩
    · have hp : PrP p := of_decide_eq_true h2
      simp only [absE, absL, absF, reduceCtorEq, ↓reduceIte, Nat.reduceEqDiff, Nat.reduceAdd, Nat.reduceLT, Nat.reduceMul, Nat.reduceSub, Nat.reduceLeDiff, Int.reduceLT, Int.reduceLE, Int.reduceEq, Option.isSome_some, implies_true, false_implies, Prod.mk.injEq, ne_eq, not_false_eq_true, not_true_eq_false, ge_iff_le, gt_iff_lt, Int.toNat_natCast, Int.reduceToNat, Int.cast_ofNat_Int, Int.natCast_nonneg]
      refine awpLoop.intro (fun i : Nat => [(1, .i .i64 p), (2, .ref (.sl 0 0 0 0 2 1)), (3, .ref (.ptr 1 0 0 0)), (7, .i .i64 i)]) (fun i => ⟨[.lv true [(0, .cells 2 [.sl 0 1 0 0 k 1, .sl 0 2 0 0 m 1])], .lv true [(0, .ints .i64 k xs)], .lv true [(0, .ints .i64 m ys)]], [((1, 0), .lv true (sqS N t))], 12⟩)
        (fun i => i ≤ 2 ∧ (1 ≤ i → sumB p N xs k = true) ∧ (2 ≤ i → sumB p N ys m = true)) (fun i => 2 - i) 0 ⟨by omega, fun h => absurd h (by omega), fun h => absurd h (by omega)⟩ ⟨[((1,0),(1,0))], rfl, ?_, ?_⟩ ?_
      · simp [wkEnv, lk, renV, renAt, renTo, renAt]
      · simp [wkMem, wkLoc, Mem.get, assoc, renBlk, renSegs, renSg, renTo, renAt]
      · rintro i ⟨hi, hq, hr⟩
        have w0 : IntKind.i64.wrap 1 = 1 := by decide
        have w1 : IntKind.i64.wrap 2 = 2 := by decide
        by_cases h0 : i = 0
        · subst h0
          simp only [absE, absL, absF, reduceCtorEq, ↓reduceIte, Nat.reduceEqDiff, Nat.reduceAdd, Nat.reduceLT, Nat.reduceMul, Nat.reduceSub, Nat.reduceLeDiff, Int.reduceLT, Int.reduceLE, Int.reduceEq, Option.isSome_some, implies_true, false_implies, Prod.mk.injEq, ne_eq, not_false_eq_true, not_true_eq_false, ge_iff_le, gt_iff_lt, Int.toNat_natCast, Int.reduceToNat, Int.cast_ofNat_Int, Int.natCast_nonneg]
          refine CallsX.args [(0, 1)] (l10Is_ok N t p xs k hN hp hx hk) (by simp) (by simp [Mem.get]) rfl rfl ?_
          try rintro _ _ _ ⟨rfl, rfl, rfl⟩
          cases h3 : sumB p N xs k
          · simp only [absE, absL, absF, reduceCtorEq, ↓reduceIte, Nat.reduceEqDiff, Nat.reduceAdd, Nat.reduceLT, Nat.reduceMul, Nat.reduceSub, Nat.reduceLeDiff, Int.reduceLT, Int.reduceLE, Int.reduceEq, Option.isSome_some, implies_true, false_implies, Prod.mk.injEq, ne_eq, not_false_eq_true, not_true_eq_false, ge_iff_le, gt_iff_lt, Int.toNat_natCast, Int.reduceToNat, Int.cast_ofNat_Int, Int.natCast_nonneg, Try.results35]
            exact ⟨[], by simp, by simp, by simp [renV, renBlk, renSegs, renSg, renAt, renFin, rcd2, h1, h2, h3]⟩
          · simp only [absE, absL, absF, reduceCtorEq, ↓reduceIte, Nat.reduceEqDiff, Nat.reduceAdd, Nat.reduceLT, Nat.reduceMul, Nat.reduceSub, Nat.reduceLeDiff, Int.reduceLT, Int.reduceLE, Int.reduceEq, Option.isSome_some, implies_true, false_implies, Prod.mk.injEq, ne_eq, not_false_eq_true, not_true_eq_false, ge_iff_le, gt_iff_lt, Int.toNat_natCast, Int.reduceToNat, Int.cast_ofNat_Int, Int.natCast_nonneg]
            refine LoopNext.intro 1 ⟨by omega, fun _ => by first | rfl | exact h3, fun h => absurd h (by omega)⟩ (by omega) ⟨[((1,0),(1,0))], rfl, ?_, ?_⟩
            · simp [wkEnv, lk, renV, renAt, renTo, w0, renAt]
            · simp [wkMem, wkLoc, Mem.get, assoc, renBlk, renSegs, renSg, renTo, w0, renAt]
        · by_cases h0' : i = 1
          · subst h0'
            have h3 := hq (by omega)
            simp only [absE, absL, absF, reduceCtorEq, ↓reduceIte, Nat.reduceEqDiff, Nat.reduceAdd, Nat.reduceLT, Nat.reduceMul, Nat.reduceSub, Nat.reduceLeDiff, Int.reduceLT, Int.reduceLE, Int.reduceEq, Option.isSome_some, implies_true, false_implies, Prod.mk.injEq, ne_eq, not_false_eq_true, not_true_eq_false, ge_iff_le, gt_iff_lt, Int.toNat_natCast, Int.reduceToNat, Int.cast_ofNat_Int, Int.natCast_nonneg]
            refine CallsX.args [(0, 2)] (l10Is_ok N t p ys m hN hp hy hm) (by simp) (by simp [Mem.get]) rfl rfl ?_
            try rintro _ _ _ ⟨rfl, rfl, rfl⟩
            cases h4 : sumB p N ys m
            · simp only [absE, absL, absF, reduceCtorEq, ↓reduceIte, Nat.reduceEqDiff, Nat.reduceAdd, Nat.reduceLT, Nat.reduceMul, Nat.reduceSub, Nat.reduceLeDiff, Int.reduceLT, Int.reduceLE, Int.reduceEq, Option.isSome_some, implies_true, false_implies, Prod.mk.injEq, ne_eq, not_false_eq_true, not_true_eq_false, ge_iff_le, gt_iff_lt, Int.toNat_natCast, Int.reduceToNat, Int.cast_ofNat_Int, Int.natCast_nonneg, Try.results35]
              exact ⟨[], by simp, by simp, by simp [renV, renBlk, renSegs, renSg, renAt, renFin, rcd2, h1, h2, h3, h4]⟩
            · simp only [absE, absL, absF, reduceCtorEq, ↓reduceIte, Nat.reduceEqDiff, Nat.reduceAdd, Nat.reduceLT, Nat.reduceMul, Nat.reduceSub, Nat.reduceLeDiff, Int.reduceLT, Int.reduceLE, Int.reduceEq, Option.isSome_some, implies_true, false_implies, Prod.mk.injEq, ne_eq, not_false_eq_true, not_true_eq_false, ge_iff_le, gt_iff_lt, Int.toNat_natCast, Int.reduceToNat, Int.cast_ofNat_Int, Int.natCast_nonneg]
              refine LoopNext.intro 2 ⟨by omega, fun _ => h3, fun _ => by first | rfl | exact h4⟩ (by omega) ⟨[((1,0),(1,0))], rfl, ?_, ?_⟩
              · simp [wkEnv, lk, renV, renAt, renTo, w1, renAt]
              · simp [wkMem, wkLoc, Mem.get, assoc, renBlk, renSegs, renSg, renTo, w1, renAt]
          · obtain rfl : i = 2 := by omega
            have h3 := hq (by omega)
            have h4 := hr (by omega)
            simp only [absE, absL, absF, reduceCtorEq, ↓reduceIte, Nat.reduceEqDiff, Nat.reduceAdd, Nat.reduceLT, Nat.reduceMul, Nat.reduceSub, Nat.reduceLeDiff, Int.reduceLT, Int.reduceLE, Int.reduceEq, Option.isSome_some, implies_true, false_implies, Prod.mk.injEq, ne_eq, not_false_eq_true, not_true_eq_false, ge_iff_le, gt_iff_lt, Int.toNat_natCast, Int.reduceToNat, Int.cast_ofNat_Int, Int.natCast_nonneg, Try.results35]
            exact ⟨[], by simp, by simp, by simp [renV, renBlk, renSegs, renSg, renAt, renFin, rcd2, h1, h2, h3, h4]⟩
def mulR (n : Int) (t : List Int) (p : Int) (xs ys : List Int) : List Int := tmT n.toNat t p xs ys n.toNat
theorem mulR_len {n : Int} {t : List Int} {p : Int} {xs ys : List Int} {k m : Nat} (h : decide (rcd2 n t p xs k ys m = 0) = true) : (mulR n t p xs ys).length < 2 ^ 40 := by
  have h1 := (rcd2_zero (of_decide_eq_true h)).1
  have := loopB_le h1
  unfold mulR; rw [tmT_len]; omega

end Go.Proofs.Ytjmenocghjggcaa
