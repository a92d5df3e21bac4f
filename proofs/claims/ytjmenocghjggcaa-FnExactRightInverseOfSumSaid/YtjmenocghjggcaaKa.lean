/-
Contracts of functions of the given program, by the abstract walk.
-/
import Derived.Test.YtjmenocghjggcaaAbsY
import Derived.Test.YtjmenocghjggcaaGf
import Derived.Test.YtjmenocghjggcaaDp
namespace Go.Proofs.Ytjmenocghjggcaa
open Go Go.Abs
set_option linter.unusedVariables false
set_option linter.unusedSectionVars false
set_option linter.unusedSimpArgs false
set_option maxRecDepth 100000
noncomputable def rcd3 (n : Int) (t : List Int) (p : Int) (xs ys zs : List Int) : Int := if loopB n t then (if prB p && sumB p n.toNat xs xs.length && sumB p n.toNat ys ys.length && sumB p n.toNat zs zs.length then 0 else 2) else 1
theorem rcd3_zero {n : Int} {t : List Int} {p : Int} {xs ys zs : List Int} (h : rcd3 n t p xs ys zs = 0) : loopB n t = true ∧ PrP p ∧ SumP p n.toNat xs xs.length ∧ SumP p n.toNat ys ys.length ∧ SumP p n.toNat zs zs.length := by
  unfold rcd3 at h
  split at h
  · rename_i h1
    split at h
    · rename_i h2
      rw [Bool.and_eq_true, Bool.and_eq_true, Bool.and_eq_true] at h2
      exact ⟨h1, of_decide_eq_true h2.1.1.1, sumB_iff.1 h2.1.1.2, sumB_iff.1 h2.1.2, sumB_iff.1 h2.2⟩
    · omega
  · omega
def m3 (xs ys zs : List Int) : List Blk := [.lv true [(0, .cells 3 [.sl 0 1 0 0 xs.length 1, .sl 0 2 0 0 ys.length 1, .sl 0 3 0 0 zs.length 1])], .lv true [(0, .ints .i64 xs.length xs)], .lv true [(0, .ints .i64 ys.length ys)], .lv true [(0, .ints .i64 zs.length zs)]]
theorem ringCode3_ok (n : Int) (t : List Int) (p : Int) (xs ys zs : List Int) (ht : Bytes 100 t) (hk : xs.length ≤ 2 ^ 20) (hm : ys.length ≤ 2 ^ 20) (hl : zs.length ≤ 2 ^ 20) :
    ACalls Try.prog 30 [.agg (sqS n t), .i .i64 p, .ref (.sl 0 0 0 0 3 1)] (m3 xs ys zs) (fun v ms ns => v = .i .i64 (rcd3 n t p xs ys zs) ∧ ms = m3 xs ys zs ∧ ns = []) := by
  unfold m3
  refine acalls_of_body mix Try.func30 rfl fok30 (Nat.le_of_ble_eq_true rfl) ?_
  unfold abody
  simp only [absE, absL, absF, reduceCtorEq, ↓reduceIte, Nat.reduceEqDiff, Nat.reduceAdd, Nat.reduceLT, Nat.reduceMul, Nat.reduceSub, Nat.reduceLeDiff, Int.reduceLT, Int.reduceLE, Int.reduceEq, Option.isSome_some, implies_true, false_implies, Prod.mk.injEq, ne_eq, not_false_eq_true, not_true_eq_false, ge_iff_le, gt_iff_lt, Int.toNat_natCast, Int.reduceToNat, Int.cast_ofNat_Int, Int.natCast_nonneg, Try.f30]
  refine CallsVia.none (isLoop_ok n t ht) ?_
  rintro _ _ _ ⟨rfl, rfl, rfl⟩
  cases h1 : loopB n t
  · simp only [absE, absL, absF, reduceCtorEq, ↓reduceIte, Nat.reduceEqDiff, Nat.reduceAdd, Nat.reduceLT, Nat.reduceMul, Nat.reduceSub, Nat.reduceLeDiff, Int.reduceLT, Int.reduceLE, Int.reduceEq, Option.isSome_some, implies_true, false_implies, Prod.mk.injEq, ne_eq, not_false_eq_true, not_true_eq_false, ge_iff_le, gt_iff_lt, Int.toNat_natCast, Int.reduceToNat, Int.cast_ofNat_Int, Int.natCast_nonneg, Try.results30]
    exact ⟨[], by simp, by simp, by simp [renV, renBlk, renSegs, renSg, renAt, renFin, rcd3, h1]⟩
  · have hs : SqP n t := by simp only [loopB, Bool.and_eq_true] at h1; exact sqB_iff.1 h1.1
    obtain ⟨N, rfl⟩ : ∃ N : Nat, n = N := ⟨n.toNat, by have := hs.1; omega⟩
    have hN := hs.le
    simp only [absE, absL, absF, reduceCtorEq, ↓reduceIte, Nat.reduceEqDiff, Nat.reduceAdd, Nat.reduceLT, Nat.reduceMul, Nat.reduceSub, Nat.reduceLeDiff, Int.reduceLT, Int.reduceLE, Int.reduceEq, Option.isSome_some, implies_true, false_implies, Prod.mk.injEq, ne_eq, not_false_eq_true, not_true_eq_false, ge_iff_le, gt_iff_lt, Int.toNat_natCast, Int.reduceToNat, Int.cast_ofNat_Int, Int.natCast_nonneg]
    refine CallsVia.none (isPrime_ok p) ?_
    rintro _ _ _ ⟨rfl, rfl, rfl⟩
    cases h2 : prB p
    · simp only [absE, absL, absF, reduceCtorEq, ↓reduceIte, Nat.reduceEqDiff, Nat.reduceAdd, Nat.reduceLT, Nat.reduceMul, Nat.reduceSub, Nat.reduceLeDiff, Int.reduceLT, Int.reduceLE, Int.reduceEq, Option.isSome_some, implies_true, false_implies, Prod.mk.injEq, ne_eq, not_false_eq_true, not_true_eq_false, ge_iff_le, gt_iff_lt, Int.toNat_natCast, Int.reduceToNat, Int.cast_ofNat_Int, Int.natCast_nonneg, Try.results30]
      exact ⟨[], by simp, by simp, by simp [renV, renBlk, renSegs, renSg, renAt, renFin, rcd3, h1, h2]⟩
    · have hp : PrP p := of_decide_eq_true h2
      simp only [absE, absL, absF, reduceCtorEq, ↓reduceIte, Nat.reduceEqDiff, Nat.reduceAdd, Nat.reduceLT, Nat.reduceMul, Nat.reduceSub, Nat.reduceLeDiff, Int.reduceLT, Int.reduceLE, Int.reduceEq, Option.isSome_some, implies_true, false_implies, Prod.mk.injEq, ne_eq, not_false_eq_true, not_true_eq_false, ge_iff_le, gt_iff_lt, Int.toNat_natCast, Int.reduceToNat, Int.cast_ofNat_Int, Int.natCast_nonneg]
      refine awpLoop.intro (fun i : Nat => [(1, .i .i64 p), (3, .ref (.ptr 1 0 0 0)), (17, .ref (.sl 0 0 0 0 3 1)), (18, .i .i64 3), (19, .i .i64 i)]) (fun i => ⟨[.lv true [(0, .cells 3 [.sl 0 1 0 0 xs.length 1, .sl 0 2 0 0 ys.length 1, .sl 0 3 0 0 zs.length 1])], .lv true [(0, .ints .i64 xs.length xs)], .lv true [(0, .ints .i64 ys.length ys)], .lv true [(0, .ints .i64 zs.length zs)]], [((1, 0), .lv true (sqS N t))], 14⟩)
        (fun i => i ≤ 3 ∧ (1 ≤ i → sumB p N xs xs.length = true) ∧ (2 ≤ i → sumB p N ys ys.length = true) ∧ (3 ≤ i → sumB p N zs zs.length = true)) (fun i => 3 - i) 0 ⟨by omega, fun h => absurd h (by omega), fun h => absurd h (by omega), fun h => absurd h (by omega)⟩ ⟨[((1,0),(1,0))], rfl, ?_, ?_⟩ ?_
      · simp [wkEnv, lk, renV, renAt, renTo, renAt]
      · simp [wkMem, wkLoc, Mem.get, assoc, renBlk, renSegs, renSg, renTo, renAt]
      · rintro i ⟨hi, hq, hr, hr3⟩
        have w0 : IntKind.i64.wrap 1 = 1 := by decide
        have w1 : IntKind.i64.wrap 2 = 2 := by decide
        have w2 : IntKind.i64.wrap 3 = 3 := by decide
        by_cases h0 : i = 0
        · subst h0
          simp only [absE, absL, absF, reduceCtorEq, ↓reduceIte, Nat.reduceEqDiff, Nat.reduceAdd, Nat.reduceLT, Nat.reduceMul, Nat.reduceSub, Nat.reduceLeDiff, Int.reduceLT, Int.reduceLE, Int.reduceEq, Option.isSome_some, implies_true, false_implies, Prod.mk.injEq, ne_eq, not_false_eq_true, not_true_eq_false, ge_iff_le, gt_iff_lt, Int.toNat_natCast, Int.reduceToNat, Int.cast_ofNat_Int, Int.natCast_nonneg]
          refine CallsVia.args [(0, 1)] (isSum_ok N t p xs xs.length hN hp rfl hk) (by simp) (by simp [Mem.get]) rfl rfl ?_
          try rintro _ _ _ ⟨rfl, rfl, rfl⟩
          cases h3 : sumB p N xs xs.length
          · simp only [absE, absL, absF, reduceCtorEq, ↓reduceIte, Nat.reduceEqDiff, Nat.reduceAdd, Nat.reduceLT, Nat.reduceMul, Nat.reduceSub, Nat.reduceLeDiff, Int.reduceLT, Int.reduceLE, Int.reduceEq, Option.isSome_some, implies_true, false_implies, Prod.mk.injEq, ne_eq, not_false_eq_true, not_true_eq_false, ge_iff_le, gt_iff_lt, Int.toNat_natCast, Int.reduceToNat, Int.cast_ofNat_Int, Int.natCast_nonneg, Try.results30]
            exact ⟨[], by simp, by simp, by simp [renV, renBlk, renSegs, renSg, renAt, renFin, rcd3, h1, h2, h3]⟩
          · simp only [absE, absL, absF, reduceCtorEq, ↓reduceIte, Nat.reduceEqDiff, Nat.reduceAdd, Nat.reduceLT, Nat.reduceMul, Nat.reduceSub, Nat.reduceLeDiff, Int.reduceLT, Int.reduceLE, Int.reduceEq, Option.isSome_some, implies_true, false_implies, Prod.mk.injEq, ne_eq, not_false_eq_true, not_true_eq_false, ge_iff_le, gt_iff_lt, Int.toNat_natCast, Int.reduceToNat, Int.cast_ofNat_Int, Int.natCast_nonneg]
            refine LoopNext.intro 1 ⟨by omega, fun _ => by first | rfl | exact h3, fun h => absurd h (by omega), fun h => absurd h (by omega)⟩ (by omega) ⟨[((1,0),(1,0))], rfl, ?_, ?_⟩
            · simp [wkEnv, lk, renV, renAt, renTo, w0, renAt]
            · simp [wkMem, wkLoc, Mem.get, assoc, renBlk, renSegs, renSg, renTo, w0, renAt]
        · have h3 := hq (by omega)
          by_cases h0' : i = 1
          · subst h0'
            simp only [absE, absL, absF, reduceCtorEq, ↓reduceIte, Nat.reduceEqDiff, Nat.reduceAdd, Nat.reduceLT, Nat.reduceMul, Nat.reduceSub, Nat.reduceLeDiff, Int.reduceLT, Int.reduceLE, Int.reduceEq, Option.isSome_some, implies_true, false_implies, Prod.mk.injEq, ne_eq, not_false_eq_true, not_true_eq_false, ge_iff_le, gt_iff_lt, Int.toNat_natCast, Int.reduceToNat, Int.cast_ofNat_Int, Int.natCast_nonneg]
            refine CallsVia.args [(0, 2)] (isSum_ok N t p ys ys.length hN hp rfl hm) (by simp) (by simp [Mem.get]) rfl rfl ?_
            try rintro _ _ _ ⟨rfl, rfl, rfl⟩
            cases h4 : sumB p N ys ys.length
            · simp only [absE, absL, absF, reduceCtorEq, ↓reduceIte, Nat.reduceEqDiff, Nat.reduceAdd, Nat.reduceLT, Nat.reduceMul, Nat.reduceSub, Nat.reduceLeDiff, Int.reduceLT, Int.reduceLE, Int.reduceEq, Option.isSome_some, implies_true, false_implies, Prod.mk.injEq, ne_eq, not_false_eq_true, not_true_eq_false, ge_iff_le, gt_iff_lt, Int.toNat_natCast, Int.reduceToNat, Int.cast_ofNat_Int, Int.natCast_nonneg, Try.results30]
              exact ⟨[], by simp, by simp, by simp [renV, renBlk, renSegs, renSg, renAt, renFin, rcd3, h1, h2, h3, h4]⟩
            · simp only [absE, absL, absF, reduceCtorEq, ↓reduceIte, Nat.reduceEqDiff, Nat.reduceAdd, Nat.reduceLT, Nat.reduceMul, Nat.reduceSub, Nat.reduceLeDiff, Int.reduceLT, Int.reduceLE, Int.reduceEq, Option.isSome_some, implies_true, false_implies, Prod.mk.injEq, ne_eq, not_false_eq_true, not_true_eq_false, ge_iff_le, gt_iff_lt, Int.toNat_natCast, Int.reduceToNat, Int.cast_ofNat_Int, Int.natCast_nonneg]
              refine LoopNext.intro 2 ⟨by omega, fun _ => h3, fun _ => by first | rfl | exact h4, fun h => absurd h (by omega)⟩ (by omega) ⟨[((1,0),(1,0))], rfl, ?_, ?_⟩
              · simp [wkEnv, lk, renV, renAt, renTo, w1, renAt]
              · simp [wkMem, wkLoc, Mem.get, assoc, renBlk, renSegs, renSg, renTo, w1, renAt]
          · have h4 := hr (by omega)
            by_cases h0'' : i = 2
            · subst h0''
              simp only [absE, absL, absF, reduceCtorEq, ↓reduceIte, Nat.reduceEqDiff, Nat.reduceAdd, Nat.reduceLT, Nat.reduceMul, Nat.reduceSub, Nat.reduceLeDiff, Int.reduceLT, Int.reduceLE, Int.reduceEq, Option.isSome_some, implies_true, false_implies, Prod.mk.injEq, ne_eq, not_false_eq_true, not_true_eq_false, ge_iff_le, gt_iff_lt, Int.toNat_natCast, Int.reduceToNat, Int.cast_ofNat_Int, Int.natCast_nonneg]
              refine CallsVia.args [(0, 3)] (isSum_ok N t p zs zs.length hN hp rfl hl) (by simp) (by simp [Mem.get]) rfl rfl ?_
              try rintro _ _ _ ⟨rfl, rfl, rfl⟩
              cases h5 : sumB p N zs zs.length
              · simp only [absE, absL, absF, reduceCtorEq, ↓reduceIte, Nat.reduceEqDiff, Nat.reduceAdd, Nat.reduceLT, Nat.reduceMul, Nat.reduceSub, Nat.reduceLeDiff, Int.reduceLT, Int.reduceLE, Int.reduceEq, Option.isSome_some, implies_true, false_implies, Prod.mk.injEq, ne_eq, not_false_eq_true, not_true_eq_false, ge_iff_le, gt_iff_lt, Int.toNat_natCast, Int.reduceToNat, Int.cast_ofNat_Int, Int.natCast_nonneg, Try.results30]
                exact ⟨[], by simp, by simp, by simp [renV, renBlk, renSegs, renSg, renAt, renFin, rcd3, h1, h2, h3, h4, h5]⟩
              · simp only [absE, absL, absF, reduceCtorEq, ↓reduceIte, Nat.reduceEqDiff, Nat.reduceAdd, Nat.reduceLT, Nat.reduceMul, Nat.reduceSub, Nat.reduceLeDiff, Int.reduceLT, Int.reduceLE, Int.reduceEq, Option.isSome_some, implies_true, false_implies, Prod.mk.injEq, ne_eq, not_false_eq_true, not_true_eq_false, ge_iff_le, gt_iff_lt, Int.toNat_natCast, Int.reduceToNat, Int.cast_ofNat_Int, Int.natCast_nonneg]
                refine LoopNext.intro 3 ⟨by omega, fun _ => h3, fun _ => h4, fun _ => by first | rfl | exact h5⟩ (by omega) ⟨[((1,0),(1,0))], rfl, ?_, ?_⟩
                · simp [wkEnv, lk, renV, renAt, renTo, w2, renAt]
                · simp [wkMem, wkLoc, Mem.get, assoc, renBlk, renSegs, renSg, renTo, w2, renAt]
            · obtain rfl : i = 3 := by omega
              have h5 := hr3 (by omega)
              simp only [absE, absL, absF, reduceCtorEq, ↓reduceIte, Nat.reduceEqDiff, Nat.reduceAdd, Nat.reduceLT, Nat.reduceMul, Nat.reduceSub, Nat.reduceLeDiff, Int.reduceLT, Int.reduceLE, Int.reduceEq, Option.isSome_some, implies_true, false_implies, Prod.mk.injEq, ne_eq, not_false_eq_true, not_true_eq_false, ge_iff_le, gt_iff_lt, Int.toNat_natCast, Int.reduceToNat, Int.cast_ofNat_Int, Int.natCast_nonneg, Try.results30]
              exact ⟨[], by simp, by simp, by simp [renV, renBlk, renSegs, renSg, renAt, renFin, rcd3, h1, h2, h3, h4, h5]⟩
theorem l10Code3_ok (n : Int) (t : List Int) (p : Int) (xs ys zs : List Int) (ht : Bytes 100 t) (hk : xs.length ≤ 2 ^ 20) (hm : ys.length ≤ 2 ^ 20) (hl : zs.length ≤ 2 ^ 20) :
    ACalls Try.prog 35 [.agg (sqS n t), .i .i64 p, .ref (.sl 0 0 0 0 3 1)] (m3 xs ys zs) (fun v ms ns => v = .i .i64 (rcd3 n t p xs ys zs) ∧ ms = m3 xs ys zs ∧ ns = []) := by
  unfold m3
  refine acalls_of_body mix Try.func35 rfl fok35 (Nat.le_of_ble_eq_true rfl) ?_
  unfold abody
  simp only [absE, absL, absF, reduceCtorEq, ↓reduceIte, Nat.reduceEqDiff, Nat.reduceAdd, Nat.reduceLT, Nat.reduceMul, Nat.reduceSub, Nat.reduceLeDiff, Int.reduceLT, Int.reduceLE, Int.reduceEq, Option.isSome_some, implies_true, false_implies, Prod.mk.injEq, ne_eq, not_false_eq_true, not_true_eq_false, ge_iff_le, gt_iff_lt, Int.toNat_natCast, Int.reduceToNat, Int.cast_ofNat_Int, Int.natCast_nonneg, Try.f35]
  refine CallsVia.none (l01Loop_ok n t ht) ?_
  rintro _ _ _ ⟨rfl, rfl, rfl⟩
  cases h1 : loopB n t
  · simp only [absE, absL, absF, reduceCtorEq, ↓reduceIte, Nat.reduceEqDiff, Nat.reduceAdd, Nat.reduceLT, Nat.reduceMul, Nat.reduceSub, Nat.reduceLeDiff, Int.reduceLT, Int.reduceLE, Int.reduceEq, Option.isSome_some, implies_true, false_implies, Prod.mk.injEq, ne_eq, not_false_eq_true, not_true_eq_false, ge_iff_le, gt_iff_lt, Int.toNat_natCast, Int.reduceToNat, Int.cast_ofNat_Int, Int.natCast_nonneg, Try.results35]
    exact ⟨[], by simp, by simp, by simp [renV, renBlk, renSegs, renSg, renAt, renFin, rcd3, h1]⟩
  · have hs : SqP n t := by simp only [loopB, Bool.and_eq_true] at h1; exact sqB_iff.1 h1.1
    obtain ⟨N, rfl⟩ : ∃ N : Nat, n = N := ⟨n.toNat, by have := hs.1; omega⟩
    have hN := hs.le
    simp only [absE, absL, absF, reduceCtorEq, ↓reduceIte, Nat.reduceEqDiff, Nat.reduceAdd, Nat.reduceLT, Nat.reduceMul, Nat.reduceSub, Nat.reduceLeDiff, Int.reduceLT, Int.reduceLE, Int.reduceEq, Option.isSome_some, implies_true, false_implies, Prod.mk.injEq, ne_eq, not_false_eq_true, not_true_eq_false, ge_iff_le, gt_iff_lt, Int.toNat_natCast, Int.reduceToNat, Int.cast_ofNat_Int, Int.natCast_nonneg]
    refine CallsVia.none (l10Prime_ok p) ?_
    rintro _ _ _ ⟨rfl, rfl, rfl⟩
    cases h2 : prB p
    · simp only [absE, absL, absF, reduceCtorEq, ↓reduceIte, Nat.reduceEqDiff, Nat.reduceAdd, Nat.reduceLT, Nat.reduceMul, Nat.reduceSub, Nat.reduceLeDiff, Int.reduceLT, Int.reduceLE, Int.reduceEq, Option.isSome_some, implies_true, false_implies, Prod.mk.injEq, ne_eq, not_false_eq_true, not_true_eq_false, ge_iff_le, gt_iff_lt, Int.toNat_natCast, Int.reduceToNat, Int.cast_ofNat_Int, Int.natCast_nonneg, Try.results35]
      exact ⟨[], by simp, by simp, by simp [renV, renBlk, renSegs, renSg, renAt, renFin, rcd3, h1, h2]⟩
    · have hp : PrP p := of_decide_eq_true h2
      simp only [absE, absL, absF, reduceCtorEq, ↓reduceIte, Nat.reduceEqDiff, Nat.reduceAdd, Nat.reduceLT, Nat.reduceMul, Nat.reduceSub, Nat.reduceLeDiff, Int.reduceLT, Int.reduceLE, Int.reduceEq, Option.isSome_some, implies_true, false_implies, Prod.mk.injEq, ne_eq, not_false_eq_true, not_true_eq_false, ge_iff_le, gt_iff_lt, Int.toNat_natCast, Int.reduceToNat, Int.cast_ofNat_Int, Int.natCast_nonneg]
      refine awpLoop.intro (fun i : Nat => [(1, .i .i64 p), (2, .ref (.sl 0 0 0 0 3 1)), (3, .ref (.ptr 1 0 0 0)), (7, .i .i64 i)]) (fun i => ⟨[.lv true [(0, .cells 3 [.sl 0 1 0 0 xs.length 1, .sl 0 2 0 0 ys.length 1, .sl 0 3 0 0 zs.length 1])], .lv true [(0, .ints .i64 xs.length xs)], .lv true [(0, .ints .i64 ys.length ys)], .lv true [(0, .ints .i64 zs.length zs)]], [((1, 0), .lv true (sqS N t))], 12⟩)
        (fun i => i ≤ 3 ∧ (1 ≤ i → sumB p N xs xs.length = true) ∧ (2 ≤ i → sumB p N ys ys.length = true) ∧ (3 ≤ i → sumB p N zs zs.length = true)) (fun i => 3 - i) 0 ⟨by omega, fun h => absurd h (by omega), fun h => absurd h (by omega), fun h => absurd h (by omega)⟩ ⟨[((1,0),(1,0))], rfl, ?_, ?_⟩ ?_
      · simp [wkEnv, lk, renV, renAt, renTo, renAt]
      · simp [wkMem, wkLoc, Mem.get, assoc, renBlk, renSegs, renSg, renTo, renAt]
      · rintro i ⟨hi, hq, hr, hr3⟩
        have w0 : IntKind.i64.wrap 1 = 1 := by decide
        have w1 : IntKind.i64.wrap 2 = 2 := by decide
        have w2 : IntKind.i64.wrap 3 = 3 := by decide
        by_cases h0 : i = 0
        · subst h0
          simp only [absE, absL, absF, reduceCtorEq, ↓reduceIte, Nat.reduceEqDiff, Nat.reduceAdd, Nat.reduceLT, Nat.reduceMul, Nat.reduceSub, Nat.reduceLeDiff, Int.reduceLT, Int.reduceLE, Int.reduceEq, Option.isSome_some, implies_true, false_implies, Prod.mk.injEq, ne_eq, not_false_eq_true, not_true_eq_false, ge_iff_le, gt_iff_lt, Int.toNat_natCast, Int.reduceToNat, Int.cast_ofNat_Int, Int.natCast_nonneg]
          refine CallsX.args [(0, 1)] (l10Is_ok N t p xs xs.length hN hp rfl hk) (by simp) (by simp [Mem.get]) rfl rfl ?_
          try rintro _ _ _ ⟨rfl, rfl, rfl⟩
          cases h3 : sumB p N xs xs.length
          · simp only [absE, absL, absF, reduceCtorEq, ↓reduceIte, Nat.reduceEqDiff, Nat.reduceAdd, Nat.reduceLT, Nat.reduceMul, Nat.reduceSub, Nat.reduceLeDiff, Int.reduceLT, Int.reduceLE, Int.reduceEq, Option.isSome_some, implies_true, false_implies, Prod.mk.injEq, ne_eq, not_false_eq_true, not_true_eq_false, ge_iff_le, gt_iff_lt, Int.toNat_natCast, Int.reduceToNat, Int.cast_ofNat_Int, Int.natCast_nonneg, Try.results35]
            exact ⟨[], by simp, by simp, by simp [renV, renBlk, renSegs, renSg, renAt, renFin, rcd3, h1, h2, h3]⟩
          · simp only [absE, absL, absF, reduceCtorEq, ↓reduceIte, Nat.reduceEqDiff, Nat.reduceAdd, Nat.reduceLT, Nat.reduceMul, Nat.reduceSub, Nat.reduceLeDiff, Int.reduceLT, Int.reduceLE, Int.reduceEq, Option.isSome_some, implies_true, false_implies, Prod.mk.injEq, ne_eq, not_false_eq_true, not_true_eq_false, ge_iff_le, gt_iff_lt, Int.toNat_natCast, Int.reduceToNat, Int.cast_ofNat_Int, Int.natCast_nonneg]
            refine LoopNext.intro 1 ⟨by omega, fun _ => by first | rfl | exact h3, fun h => absurd h (by omega), fun h => absurd h (by omega)⟩ (by omega) ⟨[((1,0),(1,0))], rfl, ?_, ?_⟩
            · simp [wkEnv, lk, renV, renAt, renTo, w0, renAt]
            · simp [wkMem, wkLoc, Mem.get, assoc, renBlk, renSegs, renSg, renTo, w0, renAt]
        · have h3 := hq (by omega)
          by_cases h0' : i = 1
          · subst h0'
            simp only [absE, absL, absF, reduceCtorEq, ↓reduceIte, Nat.reduceEqDiff, Nat.reduceAdd, Nat.reduceLT, Nat.reduceMul, Nat.reduceSub, Nat.reduceLeDiff, Int.reduceLT, Int.reduceLE, Int.reduceEq, Option.isSome_some, implies_true, false_implies, Prod.mk.injEq, ne_eq, not_false_eq_true, not_true_eq_false, ge_iff_le, gt_iff_lt, Int.toNat_natCast, Int.reduceToNat, Int.cast_ofNat_Int, Int.natCast_nonneg]
            refine CallsX.args [(0, 2)] (l10Is_ok N t p ys ys.length hN hp rfl hm) (by simp) (by simp [Mem.get]) rfl rfl ?_
            try rintro _ _ _ ⟨rfl, rfl, rfl⟩
            cases h4 : sumB p N ys ys.length
            · simp only [absE, absL, absF, reduceCtorEq, ↓reduceIte, Nat.reduceEqDiff, Nat.reduceAdd, Nat.reduceLT, Nat.reduceMul, Nat.reduceSub, Nat.reduceLeDiff, Int.reduceLT, Int.reduceLE, Int.reduceEq, Option.isSome_some, implies_true, false_implies, Prod.mk.injEq, ne_eq, not_false_eq_true, not_true_eq_false, ge_iff_le, gt_iff_lt, Int.toNat_natCast, Int.reduceToNat, Int.cast_ofNat_Int, Int.natCast_nonneg, Try.results35]
              exact ⟨[], by simp, by simp, by simp [renV, renBlk, renSegs, renSg, renAt, renFin, rcd3, h1, h2, h3, h4]⟩
            · simp only [absE, absL, absF, reduceCtorEq, ↓reduceIte, Nat.reduceEqDiff, Nat.reduceAdd, Nat.reduceLT, Nat.reduceMul, Nat.reduceSub, Nat.reduceLeDiff, Int.reduceLT, Int.reduceLE, Int.reduceEq, Option.isSome_some, implies_true, false_implies, Prod.mk.injEq, ne_eq, not_false_eq_true, not_true_eq_false, ge_iff_le, gt_iff_lt, Int.toNat_natCast, Int.reduceToNat, Int.cast_ofNat_Int, Int.natCast_nonneg]
              refine LoopNext.intro 2 ⟨by omega, fun _ => h3, fun _ => by first | rfl | exact h4, fun h => absurd h (by omega)⟩ (by omega) ⟨[((1,0),(1,0))], rfl, ?_, ?_⟩
              · simp [wkEnv, lk, renV, renAt, renTo, w1, renAt]
              · simp [wkMem, wkLoc, Mem.get, assoc, renBlk, renSegs, renSg, renTo, w1, renAt]
          · have h4 := hr (by omega)
            by_cases h0'' : i = 2
            · subst h0''
              simp only [absE, absL, absF, reduceCtorEq, ↓reduceIte, Nat.reduceEqDiff, Nat.reduceAdd, Nat.reduceLT, Nat.reduceMul, Nat.reduceSub, Nat.reduceLeDiff, Int.reduceLT, Int.reduceLE, Int.reduceEq, Option.isSome_some, implies_true, false_implies, Prod.mk.injEq, ne_eq, not_false_eq_true, not_true_eq_false, ge_iff_le, gt_iff_lt, Int.toNat_natCast, Int.reduceToNat, Int.cast_ofNat_Int, Int.natCast_nonneg]
              refine CallsX.args [(0, 3)] (l10Is_ok N t p zs zs.length hN hp rfl hl) (by simp) (by simp [Mem.get]) rfl rfl ?_
              try rintro _ _ _ ⟨rfl, rfl, rfl⟩
              cases h5 : sumB p N zs zs.length
              · simp only [absE, absL, absF, reduceCtorEq, ↓reduceIte, Nat.reduceEqDiff, Nat.reduceAdd, Nat.reduceLT, Nat.reduceMul, Nat.reduceSub, Nat.reduceLeDiff, Int.reduceLT, Int.reduceLE, Int.reduceEq, Option.isSome_some, implies_true, false_implies, Prod.mk.injEq, ne_eq, not_false_eq_true, not_true_eq_false, ge_iff_le, gt_iff_lt, Int.toNat_natCast, Int.reduceToNat, Int.cast_ofNat_Int, Int.natCast_nonneg, Try.results35]
                exact ⟨[], by simp, by simp, by simp [renV, renBlk, renSegs, renSg, renAt, renFin, rcd3, h1, h2, h3, h4, h5]⟩
              · simp only [absE, absL, absF, reduceCtorEq, ↓reduceIte, Nat.reduceEqDiff, Nat.reduceAdd, Nat.reduceLT, Nat.reduceMul, Nat.reduceSub, Nat.reduceLeDiff, Int.reduceLT, Int.reduceLE, Int.reduceEq, Option.isSome_some, implies_true, false_implies, Prod.mk.injEq, ne_eq, not_false_eq_true, not_true_eq_false, ge_iff_le, gt_iff_lt, Int.toNat_natCast, Int.reduceToNat, Int.cast_ofNat_Int, Int.natCast_nonneg]
                refine LoopNext.intro 3 ⟨by omega, fun _ => h3, fun _ => h4, fun _ => by first | rfl | exact h5⟩ (by omega) ⟨[((1,0),(1,0))], rfl, ?_, ?_⟩
                · simp [wkEnv, lk, renV, renAt, renTo, w2, renAt]
                · simp [wkMem, wkLoc, Mem.get, assoc, renBlk, renSegs, renSg, renTo, w2, renAt]
            · obtain rfl : i = 3 := by omega
              have h5 := hr3 (by omega)
              simp only [absE, absL, absF, reduceCtorEq, ↓reduceIte, Nat.reduceEqDiff, Nat.reduceAdd, Nat.reduceLT, Nat.reduceMul, Nat.reduceSub, Nat.reduceLeDiff, Int.reduceLT, Int.reduceLE, Int.reduceEq, Option.isSome_some, implies_true, false_implies, Prod.mk.injEq, ne_eq, not_false_eq_true, not_true_eq_false, ge_iff_le, gt_iff_lt, Int.toNat_natCast, Int.reduceToNat, Int.cast_ofNat_Int, Int.natCast_nonneg, Try.results35]
              exact ⟨[], by simp, by simp, by simp [renV, renBlk, renSegs, renSg, renAt, renFin, rcd3, h1, h2, h3, h4, h5]⟩
/-! differences of sums -/
def subV (p : Int) (a b : List Int) (i : Nat) : Int := (a.getD i 0 + p - b.getD i 0).tmod p
def subS (p : Int) (a b : List Int) : Nat → List Int
  | 0 => a
  | i + 1 => (subS p a b i).set i (subV p a b i)
theorem subS_len {p : Int} {a b : List Int} : ∀ {i}, (subS p a b i).length = a.length
  | 0 => rfl
  | i + 1 => by rw [subS, List.length_set, subS_len]
theorem subS_get {p : Int} {a b : List Int} {j : Nat} : ∀ {i}, i ≤ a.length → (subS p a b i).getD j 0 = if j < i then subV p a b j else a.getD j 0
  | 0, _ => by rw [if_neg (by omega)]; rfl
  | i + 1, h => by
    rw [subS, getD_set_int (by rw [subS_len]; omega), subS_get (by omega)]
    by_cases e : i = j
    · subst e; rw [if_pos rfl, if_pos (by omega)]
    · rw [if_neg e]
      by_cases e2 : j < i
      · rw [if_pos e2, if_pos (by omega)]
      · rw [if_neg e2, if_neg (by omega)]
def subR (p : Int) (a b : List Int) : Nat → List Int
  | 0 => []
  | i + 1 => subR p a b i ++ [subV p a b i]
theorem subR_len {p : Int} {a b : List Int} : ∀ {i}, (subR p a b i).length = i
  | 0 => rfl
  | i + 1 => by rw [subR, List.length_append, subR_len]; rfl
theorem subR_get {p : Int} {a b : List Int} {j : Nat} : ∀ {i}, j < i → (subR p a b i).getD j 0 = subV p a b j
  | 0, h => absurd h (by omega)
  | i + 1, h => by
    rw [subR, List.getD_eq_getElem?_getD]
    by_cases e : j < i
    · rw [List.getElem?_append_left (by rw [subR_len]; exact e), ← List.getD_eq_getElem?_getD, subR_get e]
    · obtain rfl : j = i := by omega
      rw [List.getElem?_append_right (by rw [subR_len]; omega), subR_len, Nat.sub_self]; rfl
theorem subR_eq {p : Int} {a b : List Int} {N : Nat} (h : a.length = N) : subR p a b N = subS p a b N := by
  refine ext_getD (by rw [subR_len, subS_len, h]) fun i hi => ?_
  rw [subR_len] at hi
  rw [subR_get hi, subS_get (by omega), if_pos hi]
theorem subV_rng {p : Int} {a b : List Int} (hp : PrP p) (ha : RngP p a) (hb : RngP p b) (i : Nat) : 0 ≤ subV p a b i ∧ subV p a b i ≤ p - 1 := by
  have h1 := ha i
  have h2 := hb i
  have h3 := hp.le
  unfold subV
  have h4 := Int.tmod_nonneg p (show 0 ≤ a.getD i 0 + p - b.getD i 0 by omega)
  have h5 := Int.tmod_lt_of_pos (a.getD i 0 + p - b.getD i 0) (show 0 < p by omega)
  omega
theorem subS_rng {p : Int} {a b : List Int} {N : Nat} (hp : PrP p) (ha : RngP p a) (hb : RngP p b) (hN : N ≤ a.length) : RngP p (subS p a b N) := fun i => by
  rw [subS_get hN]
  split
  · exact subV_rng hp ha hb i
  · exact ha i
theorem l10Sub_ok (N : Nat) (p : Int) (a b : List Int) (hN : N ≤ 10) (hp : PrP p) (ha : RngP p a) (hb : RngP p b) (la : a.length = N) (lb : b.length = N) :
    ACalls Try.prog 55 [.i .i64 p, .ref (.sl 0 0 0 0 N 1), .ref (.sl 0 1 0 0 N 1), .i .i64 (-1)] [.lv true [(0, .ints .i64 N a)], .lv true [(0, .ints .i64 N b)]]
      (fun v ms ns => v = .ref (.sl 1 0 0 0 N 1) ∧ ms = [.lv true [(0, .ints .i64 N a)], .lv true [(0, .ints .i64 N b)]] ∧ ns = [.lv true [(0, .ints .i64 N (subS p a b N))]]) := by
  have hp2 := hp.le
  have p0 : ¬ p = 0 := by omega
  refine acalls_of_body mix Try.func55 rfl fok55 (Nat.le_of_ble_eq_true rfl) ?_
  unfold abody
  simp only [absE, absL, absF, reduceCtorEq, ↓reduceIte, Nat.reduceEqDiff, Nat.reduceAdd, Nat.reduceLT, Nat.reduceMul, Nat.reduceSub, Nat.reduceLeDiff, Int.reduceLT, Int.reduceLE, Int.reduceEq, Option.isSome_some, implies_true, false_implies, Prod.mk.injEq, ne_eq, not_false_eq_true, not_true_eq_false, ge_iff_le, gt_iff_lt, Int.toNat_natCast, Int.reduceToNat, Int.cast_ofNat_Int, Int.natCast_nonneg, Try.f55]
  refine awpLoop.intro (fun i : Nat => [(0, .i .i64 p), (1, .ref (.sl 0 0 0 0 N 1)), (2, .ref (.sl 0 1 0 0 N 1)), (3, .i .i64 (-1)), (9, .ref (.sl 2 0 0 0 i 1)), (10, .i .i64 i)]) (fun i => ⟨[.lv true [(0, .ints .i64 N a)], .lv true [(0, .ints .i64 N b)]], [((2, 0), .lv true ([(0, .ints .i64 i (subR p a b i))]))], 5⟩)
    (fun i => i ≤ N) (fun i => N - i) 0 (by omega) ⟨[((2,0),(2,0))], rfl, ?_, ?_⟩ ?_
  · simp [wkEnv, lk, renV, renAt, renTo, subR]
  · simp [wkMem, wkLoc, Mem.get, assoc, renBlk, renSegs, renSg, renTo, subR]
  · intro i hi
    by_cases h' : (i : Int) < N
    · have w := wrap_i64s (show i < 2 ^ 62 by omega)
      have v1 : 0 + i * 1 < N := by omega
      have e0 : a.getD (0 + i * 1) 0 = a.getD i 0 := by rw [Nat.zero_add, Nat.mul_one]
      have e1 : b.getD (0 + i * 1) 0 = b.getD i 0 := by rw [Nat.zero_add, Nat.mul_one]
      have r1 := ha i
      have r2 := hb i
      have wm : IntKind.i64.wrap (-1 * b.getD i 0) = - b.getD i 0 := by rw [wrap_i64 (by omega) (by omega)]; omega
      have wa : IntKind.i64.wrap (a.getD i 0 + -b.getD i 0) = a.getD i 0 - b.getD i 0 := by rw [wrap_i64 (by omega) (by omega)]; omega
      have q1 : (a.getD i 0 - b.getD i 0).tmod p = a.getD i 0 - b.getD i 0 := by
        by_cases hc : 0 ≤ a.getD i 0 - b.getD i 0
        · exact Int.tmod_eq_of_lt hc (by omega)
        · have : a.getD i 0 - b.getD i 0 = -(b.getD i 0 - a.getD i 0) := by omega
          rw [this, Int.neg_tmod, Int.tmod_eq_of_lt (by omega) (by omega)]
      have wb : IntKind.i64.wrap (a.getD i 0 - b.getD i 0 + p) = a.getD i 0 + p - b.getD i 0 := by rw [wrap_i64 (by omega) (by omega)]; omega
      have mx : i * 1 = i := Nat.mul_one i
      have e2 : a.getD (0 + i) 0 = a.getD i 0 := by rw [Nat.zero_add]
      have e3 : b.getD (0 + i) 0 = b.getD i 0 := by rw [Nat.zero_add]
      have e4 : (a.getD i 0 + p - b.getD i 0).tmod p = subV p a b i := rfl
      simp only [absE, absL, absF, reduceCtorEq, ↓reduceIte, Nat.reduceEqDiff, Nat.reduceAdd, Nat.reduceLT, Nat.reduceMul, Nat.reduceSub, Nat.reduceLeDiff, Int.reduceLT, Int.reduceLE, Int.reduceEq, Option.isSome_some, implies_true, false_implies, Prod.mk.injEq, ne_eq, not_false_eq_true, not_true_eq_false, ge_iff_le, gt_iff_lt, Int.toNat_natCast, Int.reduceToNat, Int.cast_ofNat_Int, Int.natCast_nonneg, h', v1, e0, e1, e2, e3, wm, wa, q1, wb, e4, p0, mx]
      repeat refine And.intro (by first | omega | decide +kernel) ?_
      refine LoopNext.intro (i + 1) (by omega) (by omega) ⟨[((28,0),(2,0))], rfl, ?_, ?_⟩
      · simp [wkEnv, lk, renV, renAt, renTo, w, subR]
      · simp [wkMem, wkLoc, Mem.get, assoc, renBlk, renSegs, renSg, renTo, w, subR]
    · obtain rfl : i = N := by omega
      have e := subR_eq (p := p) (b := b) la
      simp only [absE, absL, absF, reduceCtorEq, ↓reduceIte, Nat.reduceEqDiff, Nat.reduceAdd, Nat.reduceLT, Nat.reduceMul, Nat.reduceSub, Nat.reduceLeDiff, Int.reduceLT, Int.reduceLE, Int.reduceEq, Option.isSome_some, implies_true, false_implies, Prod.mk.injEq, ne_eq, not_false_eq_true, not_true_eq_false, ge_iff_le, gt_iff_lt, Int.toNat_natCast, Int.reduceToNat, Int.cast_ofNat_Int, Int.natCast_nonneg, h', e, Try.results55]
      exact ⟨[(2, 0)], by simp, by simp, by simp [renV, renVs, renAt, renFin, idx], by simp [renBlk, renSegs, renSg], by simp [renBlk, renSegs, renSg, Mem.get, assoc]⟩
def ascS (N : Nat) (t : List Int) (p : Int) (a b c : List Int) : List Int := subS p (tmT N t p (tmT N t p a b N) c N) (tmT N t p a (tmT N t p b c N) N) N
def a3 (N : Nat) (a b c : List Int) : List Blk := [.lv true [(0, .ints .i64 N a)], .lv true [(0, .ints .i64 N b)], .lv true [(0, .ints .i64 N c)]]
theorem ascS_len {N : Nat} {t : List Int} {p : Int} {a b c : List Int} : (ascS N t p a b c).length = N := by rw [ascS, subS_len, tmT_len]
noncomputable def rdB (n : Int) (t : List Int) (p : Int) (xs ys zs : List Int) : Bool := decide (rcd3 n t p xs ys zs = 0)
theorem as_len {n : Int} {t : List Int} {p : Int} {xs ys zs : List Int} (h : rdB n t p xs ys zs = true) : (ascS n.toNat t p xs ys zs).length < 2 ^ 40 := by
  have h1 := (rcd3_zero (of_decide_eq_true h)).1
  have := loopB_le h1
  rw [ascS_len]; omega

end Go.Proofs.Ytjmenocghjggcaa
