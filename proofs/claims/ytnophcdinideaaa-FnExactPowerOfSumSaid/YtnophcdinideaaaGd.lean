/-
Contracts of functions of the given program, by the abstract walk.
-/
import Derived.Test.YtnophcdinideaaaAbsW
import Derived.Test.YtnophcdinideaaaGc
namespace Go.Proofs.Ytnophcdinideaaa
open Go Go.Abs
set_option linter.unusedVariables false
set_option linter.unusedSectionVars false
set_option linter.unusedSimpArgs false
set_option maxRecDepth 100000
theorem unitL_rng {N : Nat} {p : Int} (hp : PrP p) (h1 : 1 ≤ N) : RngP p (unitL N) := fun i => by
  have := hp.le
  unfold unitL
  rw [getD_set_int (by simp; omega), getD_rep0]
  split <;> omega
theorem unitL_len {N : Nat} : (unitL N).length = N := by simp [unitL]
def powL (N : Nat) (t : List Int) (p : Int) (a : List Int) : Nat → List Int
  | 0 => unitL N
  | i + 1 => tmT N t p (powL N t p a i) a N
theorem powL_len {N : Nat} {t : List Int} {p : Int} {a : List Int} : ∀ {i}, (powL N t p a i).length = N
  | 0 => unitL_len
  | i + 1 => tmT_len
theorem powL_rng {N : Nat} {t : List Int} {p : Int} {a : List Int} (hp : PrP p) (h1 : 1 ≤ N) (ha : RngP p a) : ∀ {i}, RngP p (powL N t p a i)
  | 0 => unitL_rng hp h1
  | i + 1 => tmT_rng hp (powL_rng hp h1 ha) ha
noncomputable def pwcode (n : Int) (t : List Int) (p : Int) (xs : List Int) (m : Nat) (k : Int) : Int := if rcd1 n t p xs m = 0 then (if 0 ≤ k ∧ k ≤ 1000 then 0 else 2) else rcd1 n t p xs m
theorem pwcode_zero {n : Int} {t : List Int} {p : Int} {xs : List Int} {m : Nat} {k : Int} (h : pwcode n t p xs m k = 0) : rcd1 n t p xs m = 0 ∧ 0 ≤ k ∧ k ≤ 1000 := by
  unfold pwcode at h
  split at h
  · rename_i h1
    split at h
    · rename_i h2; exact ⟨h1, h2⟩
    · omega
  · rename_i h1; exact absurd h h1
def powR (n : Int) (t : List Int) (p : Int) (xs : List Int) (k : Int) : List Int := powL n.toNat t p xs k.toNat
theorem implPow_yes (n : Int) (t : List Int) (p : Int) (xs : List Int) (m : Nat) (k : Int) (ht : Bytes 100 t) (hx : xs.length = m) (hm : m ≤ 2 ^ 20) (h : decide (pwcode n t p xs m k = 0) = true) :
    ACalls Try.prog 29 [.agg (sqS n t), .i .i64 p, .ref (.sl 0 0 0 0 m 1), .i .i64 k] [.lv true [(0, .ints .i64 m xs)]] (fun v ms ns => v = .tup [.ref (.sl 1 0 0 0 (powR n t p xs k).length 1), .i .i64 0] ∧ ms = [.lv true [(0, .ints .i64 m xs)]] ∧ ns = [.lv true [(0, .ints .i64 (powR n t p xs k).length (powR n t p xs k))]]) := by
  obtain ⟨h1, h2, h3⟩ := pwcode_zero (of_decide_eq_true h)
  obtain ⟨hl, hp, hS⟩ := rcd1_zero h1
  have hs : SqP n t := by simp only [loopB, Bool.and_eq_true] at hl; exact sqB_iff.1 hl.1
  obtain ⟨N, rfl⟩ : ∃ N : Nat, n = N := ⟨n.toNat, by have := hs.1; omega⟩
  obtain ⟨K, rfl⟩ : ∃ K : Nat, k = K := ⟨k.toNat, by omega⟩
  have hN := hs.le
  have hpos := hs.pos
  have hR := RngP.of hp hS hx
  obtain rfl : m = N := by have := hS.2; simpa using this
  have tK : (K : Int).toNat = K := by omega
  have tN : (m : Int).toNat = m := by omega
  unfold powR
  rw [tK, tN, powL_len]
  refine acalls_of_body mix Try.func29 rfl fok29 (Nat.le_of_ble_eq_true rfl) ?_
  unfold abody
  simp only [absE, absL, absF, reduceCtorEq, ↓reduceIte, Nat.reduceEqDiff, Nat.reduceAdd, Nat.reduceLT, Nat.reduceMul, Nat.reduceSub, Nat.reduceLeDiff, Int.reduceLT, Int.reduceLE, Int.reduceEq, Option.isSome_some, implies_true, false_implies, Prod.mk.injEq, ne_eq, not_false_eq_true, not_true_eq_false, ge_iff_le, gt_iff_lt, Int.toNat_natCast, Int.reduceToNat, Int.cast_ofNat_Int, Int.natCast_nonneg, Try.f29]
  refine CallsVia.args [(7, 0), (0, 0)] (ringCode1_ok m t p xs m ht hx hm) (by simp) (by simp [Mem.get, assoc]) rfl rfl ?_
  rintro _ _ _ ⟨rfl, rfl, rfl⟩
  simp only [absE, absL, absF, reduceCtorEq, ↓reduceIte, Nat.reduceEqDiff, Nat.reduceAdd, Nat.reduceLT, Nat.reduceMul, Nat.reduceSub, Nat.reduceLeDiff, Int.reduceLT, Int.reduceLE, Int.reduceEq, Option.isSome_some, implies_true, false_implies, Prod.mk.injEq, ne_eq, not_false_eq_true, not_true_eq_false, ge_iff_le, gt_iff_lt, Int.toNat_natCast, Int.reduceToNat, Int.cast_ofNat_Int, Int.natCast_nonneg, h1]
  refine CallsVia.none (within_ok K 0 1000) ?_
  rintro _ _ _ ⟨rfl, rfl, rfl⟩
  have g : (0 : Int) ≤ K ∧ (K : Int) ≤ 1000 := ⟨h2, h3⟩
  simp only [absE, absL, absF, reduceCtorEq, ↓reduceIte, Nat.reduceEqDiff, Nat.reduceAdd, Nat.reduceLT, Nat.reduceMul, Nat.reduceSub, Nat.reduceLeDiff, Int.reduceLT, Int.reduceLE, Int.reduceEq, Option.isSome_some, implies_true, false_implies, Prod.mk.injEq, ne_eq, not_false_eq_true, not_true_eq_false, ge_iff_le, gt_iff_lt, Int.toNat_natCast, Int.reduceToNat, Int.cast_ofNat_Int, Int.natCast_nonneg, g, and_self]
  refine CallsVia.none (unit_ok m t hpos hN) ?_
  rintro _ _ _ ⟨rfl, rfl, rfl⟩
  simp only [absE, absL, absF, reduceCtorEq, ↓reduceIte, Nat.reduceEqDiff, Nat.reduceAdd, Nat.reduceLT, Nat.reduceMul, Nat.reduceSub, Nat.reduceLeDiff, Int.reduceLT, Int.reduceLE, Int.reduceEq, Option.isSome_some, implies_true, false_implies, Prod.mk.injEq, ne_eq, not_false_eq_true, not_true_eq_false, ge_iff_le, gt_iff_lt, Int.toNat_natCast, Int.reduceToNat, Int.cast_ofNat_Int, Int.natCast_nonneg]
  refine awpLoop.intro (fun i : Nat => [(1, .i .i64 p), (2, .ref (.sl 0 0 0 0 m 1)), (4, .ref (.ptr 1 0 0 0)), (11, .ref (.sl 16 0 0 0 m 1)), (25, .i .i64 K), (26, .i .i64 i)]) (fun i => ⟨[.lv true [(0, .ints .i64 m xs)]], [((1, 0), .lv true (sqS m t)), ((16, 0), .lv true ([(0, .ints .i64 m (powL m t p xs i))]))], 20⟩)
    (fun i => i ≤ K) (fun i => K - i) 0 (by omega) ⟨[((1,0),(1,0)), ((16,0),(16,0))], rfl, ?_, ?_⟩ ?_
  · simp [wkEnv, lk, renV, renAt, renTo, powL]
  · simp [wkMem, wkLoc, Mem.get, assoc, renBlk, renSegs, renSg, renTo, powL]
  · intro i hi
    by_cases h' : (i : Int) < K
    · have w := wrap_i64s (show i < 2 ^ 62 by omega)
      simp only [absE, absL, absF, reduceCtorEq, ↓reduceIte, Nat.reduceEqDiff, Nat.reduceAdd, Nat.reduceLT, Nat.reduceMul, Nat.reduceSub, Nat.reduceLeDiff, Int.reduceLT, Int.reduceLE, Int.reduceEq, Option.isSome_some, implies_true, false_implies, Prod.mk.injEq, ne_eq, not_false_eq_true, not_true_eq_false, ge_iff_le, gt_iff_lt, Int.toNat_natCast, Int.reduceToNat, Int.cast_ofNat_Int, Int.natCast_nonneg, h']
      refine CallsVia.args [(16, 0), (0, 0)] (times_ok m t p (powL m t p xs i) xs ht hs hp (powL_rng hp hpos hR) hR powL_len hx) (by simp) (by simp [Mem.get, assoc]) rfl rfl ?_
      rintro _ _ _ ⟨rfl, rfl, rfl⟩
      simp only [absE, absL, absF, reduceCtorEq, ↓reduceIte, Nat.reduceEqDiff, Nat.reduceAdd, Nat.reduceLT, Nat.reduceMul, Nat.reduceSub, Nat.reduceLeDiff, Int.reduceLT, Int.reduceLE, Int.reduceEq, Option.isSome_some, implies_true, false_implies, Prod.mk.injEq, ne_eq, not_false_eq_true, not_true_eq_false, ge_iff_le, gt_iff_lt, Int.toNat_natCast, Int.reduceToNat, Int.cast_ofNat_Int, Int.natCast_nonneg]
      refine LoopNext.intro (i + 1) (by omega) (by omega) ⟨[((1,0),(1,0)), ((25,0),(16,0))], rfl, ?_, ?_⟩
      · simp [wkEnv, lk, renV, renAt, renTo, w, powL]
      · simp [wkMem, wkLoc, Mem.get, assoc, renBlk, renSegs, renSg, renTo, w, powL]
    · obtain rfl : i = K := by omega
      simp only [absE, absL, absF, reduceCtorEq, ↓reduceIte, Nat.reduceEqDiff, Nat.reduceAdd, Nat.reduceLT, Nat.reduceMul, Nat.reduceSub, Nat.reduceLeDiff, Int.reduceLT, Int.reduceLE, Int.reduceEq, Option.isSome_some, implies_true, false_implies, Prod.mk.injEq, ne_eq, not_false_eq_true, not_true_eq_false, ge_iff_le, gt_iff_lt, Int.toNat_natCast, Int.reduceToNat, Int.cast_ofNat_Int, Int.natCast_nonneg, h', Try.results29]
      exact ⟨[(16, 0)], by simp, by simp, by simp [renV, renVs, renAt, renFin, idx], by simp [renBlk, renSegs, renSg], by simp [renBlk, renSegs, renSg, Mem.get, assoc]⟩
theorem implPow_no (n : Int) (t : List Int) (p : Int) (xs : List Int) (m : Nat) (k : Int) (ht : Bytes 100 t) (hx : xs.length = m) (hm : m ≤ 2 ^ 20) (h : decide (pwcode n t p xs m k = 0) = false) :
    ACalls Try.prog 29 [.agg (sqS n t), .i .i64 p, .ref (.sl 0 0 0 0 m 1), .i .i64 k] [.lv true [(0, .ints .i64 m xs)]] (fun v ms ns => v = .tup [.ref .nils, .i .i64 (pwcode n t p xs m k)] ∧ ms = [.lv true [(0, .ints .i64 m xs)]] ∧ ns = []) := by
  have h := of_decide_eq_false h
  refine acalls_of_body mix Try.func29 rfl fok29 (Nat.le_of_ble_eq_true rfl) ?_
  unfold abody
  simp only [absE, absL, absF, reduceCtorEq, ↓reduceIte, Nat.reduceEqDiff, Nat.reduceAdd, Nat.reduceLT, Nat.reduceMul, Nat.reduceSub, Nat.reduceLeDiff, Int.reduceLT, Int.reduceLE, Int.reduceEq, Option.isSome_some, implies_true, false_implies, Prod.mk.injEq, ne_eq, not_false_eq_true, not_true_eq_false, ge_iff_le, gt_iff_lt, Int.toNat_natCast, Int.reduceToNat, Int.cast_ofNat_Int, Int.natCast_nonneg, Try.f29]
  refine CallsVia.args [(7, 0), (0, 0)] (ringCode1_ok n t p xs m ht hx hm) (by simp) (by simp [Mem.get, assoc]) rfl rfl ?_
  rintro _ _ _ ⟨rfl, rfl, rfl⟩
  by_cases h1 : rcd1 n t p xs m = 0
  · have h2 : ¬(0 ≤ k ∧ k ≤ 1000) := fun h2 => h (by simp [pwcode, h1, h2])
    simp only [absE, absL, absF, reduceCtorEq, ↓reduceIte, Nat.reduceEqDiff, Nat.reduceAdd, Nat.reduceLT, Nat.reduceMul, Nat.reduceSub, Nat.reduceLeDiff, Int.reduceLT, Int.reduceLE, Int.reduceEq, Option.isSome_some, implies_true, false_implies, Prod.mk.injEq, ne_eq, not_false_eq_true, not_true_eq_false, ge_iff_le, gt_iff_lt, Int.toNat_natCast, Int.reduceToNat, Int.cast_ofNat_Int, Int.natCast_nonneg, h1]
    refine CallsVia.none (within_ok k 0 1000) ?_
    rintro _ _ _ ⟨rfl, rfl, rfl⟩
    simp only [absE, absL, absF, reduceCtorEq, ↓reduceIte, Nat.reduceEqDiff, Nat.reduceAdd, Nat.reduceLT, Nat.reduceMul, Nat.reduceSub, Nat.reduceLeDiff, Int.reduceLT, Int.reduceLE, Int.reduceEq, Option.isSome_some, implies_true, false_implies, Prod.mk.injEq, ne_eq, not_false_eq_true, not_true_eq_false, ge_iff_le, gt_iff_lt, Int.toNat_natCast, Int.reduceToNat, Int.cast_ofNat_Int, Int.natCast_nonneg, h2, Try.results29]
    exact ⟨[], by simp, by simp, by simp [renV, renVs, renAt, renBlk, renSegs, renSg, pwcode, h1, h2]⟩
  · simp only [absE, absL, absF, reduceCtorEq, ↓reduceIte, Nat.reduceEqDiff, Nat.reduceAdd, Nat.reduceLT, Nat.reduceMul, Nat.reduceSub, Nat.reduceLeDiff, Int.reduceLT, Int.reduceLE, Int.reduceEq, Option.isSome_some, implies_true, false_implies, Prod.mk.injEq, ne_eq, not_false_eq_true, not_true_eq_false, ge_iff_le, gt_iff_lt, Int.toNat_natCast, Int.reduceToNat, Int.cast_ofNat_Int, Int.natCast_nonneg, h1, Try.results29]
    exact ⟨[], by simp, by simp, by simp [renV, renVs, renAt, renBlk, renSegs, renSg, pwcode, h1]⟩
theorem specPow_yes (n : Int) (t : List Int) (p : Int) (xs : List Int) (m : Nat) (k : Int) (ht : Bytes 100 t) (hx : xs.length = m) (hm : m ≤ 2 ^ 20) (h : decide (pwcode n t p xs m k = 0) = true) :
    ACalls Try.prog 28 [.agg (sqS n t), .i .i64 p, .ref (.sl 0 0 0 0 m 1), .i .i64 k] [.lv true [(0, .ints .i64 m xs)]] (fun v ms ns => v = .tup [.ref (.sl 1 0 0 0 (powR n t p xs k).length 1), .i .i64 0] ∧ ms = [.lv true [(0, .ints .i64 m xs)]] ∧ ns = [.lv true [(0, .ints .i64 (powR n t p xs k).length (powR n t p xs k))]]) := by
  obtain ⟨h1, h2, h3⟩ := pwcode_zero (of_decide_eq_true h)
  obtain ⟨hl, hp, hS⟩ := rcd1_zero h1
  have hs : SqP n t := by simp only [loopB, Bool.and_eq_true] at hl; exact sqB_iff.1 hl.1
  obtain ⟨N, rfl⟩ : ∃ N : Nat, n = N := ⟨n.toNat, by have := hs.1; omega⟩
  obtain ⟨K, rfl⟩ : ∃ K : Nat, k = K := ⟨k.toNat, by omega⟩
  have hN := hs.le
  have hpos := hs.pos
  have hR := RngP.of hp hS hx
  obtain rfl : m = N := by have := hS.2; simpa using this
  have tK : (K : Int).toNat = K := by omega
  have tN : (m : Int).toNat = m := by omega
  unfold powR
  rw [tK, tN, powL_len]
  refine acalls_of_body mix Try.func28 rfl fok28 (Nat.le_of_ble_eq_true rfl) ?_
  unfold abody
  simp only [absE, absL, absF, reduceCtorEq, ↓reduceIte, Nat.reduceEqDiff, Nat.reduceAdd, Nat.reduceLT, Nat.reduceMul, Nat.reduceSub, Nat.reduceLeDiff, Int.reduceLT, Int.reduceLE, Int.reduceEq, Option.isSome_some, implies_true, false_implies, Prod.mk.injEq, ne_eq, not_false_eq_true, not_true_eq_false, ge_iff_le, gt_iff_lt, Int.toNat_natCast, Int.reduceToNat, Int.cast_ofNat_Int, Int.natCast_nonneg, Try.f28]
  refine CallsVia.args [(7, 0), (0, 0)] (l10Code1_ok m t p xs m ht hx hm) (by simp) (by simp [Mem.get, assoc]) rfl rfl ?_
  rintro _ _ _ ⟨rfl, rfl, rfl⟩
  simp only [absE, absL, absF, reduceCtorEq, ↓reduceIte, Nat.reduceEqDiff, Nat.reduceAdd, Nat.reduceLT, Nat.reduceMul, Nat.reduceSub, Nat.reduceLeDiff, Int.reduceLT, Int.reduceLE, Int.reduceEq, Option.isSome_some, implies_true, false_implies, Prod.mk.injEq, ne_eq, not_false_eq_true, not_true_eq_false, ge_iff_le, gt_iff_lt, Int.toNat_natCast, Int.reduceToNat, Int.cast_ofNat_Int, Int.natCast_nonneg, h1]
  refine CallsVia.none (l01In_ok K 0 1000) ?_
  rintro _ _ _ ⟨rfl, rfl, rfl⟩
  have g : (0 : Int) ≤ K ∧ (K : Int) ≤ 1000 := ⟨h2, h3⟩
  simp only [absE, absL, absF, reduceCtorEq, ↓reduceIte, Nat.reduceEqDiff, Nat.reduceAdd, Nat.reduceLT, Nat.reduceMul, Nat.reduceSub, Nat.reduceLeDiff, Int.reduceLT, Int.reduceLE, Int.reduceEq, Option.isSome_some, implies_true, false_implies, Prod.mk.injEq, ne_eq, not_false_eq_true, not_true_eq_false, ge_iff_le, gt_iff_lt, Int.toNat_natCast, Int.reduceToNat, Int.cast_ofNat_Int, Int.natCast_nonneg, g, and_self, h1]
  refine CallsVia.none (l10Unit_ok m hpos hN) ?_
  rintro _ _ _ ⟨rfl, rfl, rfl⟩
  simp only [absE, absL, absF, reduceCtorEq, ↓reduceIte, Nat.reduceEqDiff, Nat.reduceAdd, Nat.reduceLT, Nat.reduceMul, Nat.reduceSub, Nat.reduceLeDiff, Int.reduceLT, Int.reduceLE, Int.reduceEq, Option.isSome_some, implies_true, false_implies, Prod.mk.injEq, ne_eq, not_false_eq_true, not_true_eq_false, ge_iff_le, gt_iff_lt, Int.toNat_natCast, Int.reduceToNat, Int.cast_ofNat_Int, Int.natCast_nonneg]
  refine awpLoop.intro (fun i : Nat => [(1, .i .i64 p), (2, .ref (.sl 0 0 0 0 m 1)), (3, .i .i64 ((K - i : Nat) : Int)), (4, .ref (.ptr 1 0 0 0)), (11, .ref (.sl 21 0 0 0 m 1))]) (fun i => ⟨[.lv true [(0, .ints .i64 m xs)]], [((1, 0), .lv true (sqS m t)), ((21, 0), .lv true ([(0, .ints .i64 m (powL m t p xs i))]))], 23⟩)
    (fun i => i ≤ K) (fun i => K - i) 0 (by omega) ⟨[((1,0),(1,0)), ((21,0),(21,0))], rfl, ?_, ?_⟩ ?_
  · simp [wkEnv, lk, renV, renAt, renTo, powL]
  · simp [wkMem, wkLoc, Mem.get, assoc, renBlk, renSegs, renSg, renTo, powL]
  · intro i hi
    by_cases h' : i < K
    · have g1 : (0 : Int) < ((K - i : Nat) : Int) := by omega
      have w : IntKind.i64.wrap (((K - i : Nat) : Int) - 1) = ((K - (i + 1) : Nat) : Int) := by rw [wrap_i64 (by omega) (by omega)]; omega
      simp only [absE, absL, absF, reduceCtorEq, ↓reduceIte, Nat.reduceEqDiff, Nat.reduceAdd, Nat.reduceLT, Nat.reduceMul, Nat.reduceSub, Nat.reduceLeDiff, Int.reduceLT, Int.reduceLE, Int.reduceEq, Option.isSome_some, implies_true, false_implies, Prod.mk.injEq, ne_eq, not_false_eq_true, not_true_eq_false, ge_iff_le, gt_iff_lt, Int.toNat_natCast, Int.reduceToNat, Int.cast_ofNat_Int, Int.natCast_nonneg, g1]
      refine CallsVia.args [(21, 0), (0, 0)] (l10Times_ok m t p (powL m t p xs i) xs ht hs hp (powL_rng hp hpos hR) hR powL_len hx) (by simp) (by simp [Mem.get, assoc]) rfl rfl ?_
      rintro _ _ _ ⟨rfl, rfl, rfl⟩
      simp only [absE, absL, absF, reduceCtorEq, ↓reduceIte, Nat.reduceEqDiff, Nat.reduceAdd, Nat.reduceLT, Nat.reduceMul, Nat.reduceSub, Nat.reduceLeDiff, Int.reduceLT, Int.reduceLE, Int.reduceEq, Option.isSome_some, implies_true, false_implies, Prod.mk.injEq, ne_eq, not_false_eq_true, not_true_eq_false, ge_iff_le, gt_iff_lt, Int.toNat_natCast, Int.reduceToNat, Int.cast_ofNat_Int, Int.natCast_nonneg, w]
      refine LoopNext.intro (i + 1) (by omega) (by omega) ⟨[((1,0),(1,0)), ((29,0),(21,0))], rfl, ?_, ?_⟩
      · simp [wkEnv, lk, renV, renAt, renTo, powL]
      · simp [wkMem, wkLoc, Mem.get, assoc, renBlk, renSegs, renSg, renTo, powL]
    · obtain rfl : i = K := by omega
      have g1 : ¬(0 : Int) < ((i - i : Nat) : Int) := by omega
      simp only [absE, absL, absF, reduceCtorEq, ↓reduceIte, Nat.reduceEqDiff, Nat.reduceAdd, Nat.reduceLT, Nat.reduceMul, Nat.reduceSub, Nat.reduceLeDiff, Int.reduceLT, Int.reduceLE, Int.reduceEq, Option.isSome_some, implies_true, false_implies, Prod.mk.injEq, ne_eq, not_false_eq_true, not_true_eq_false, ge_iff_le, gt_iff_lt, Int.toNat_natCast, Int.reduceToNat, Int.cast_ofNat_Int, Int.natCast_nonneg, g1, Try.results28]
      exact ⟨[(21, 0)], by simp, by simp, by simp [renV, renVs, renAt, renFin, idx], by simp [renBlk, renSegs, renSg], by simp [renBlk, renSegs, renSg, Mem.get, assoc]⟩
theorem specPow_no (n : Int) (t : List Int) (p : Int) (xs : List Int) (m : Nat) (k : Int) (ht : Bytes 100 t) (hx : xs.length = m) (hm : m ≤ 2 ^ 20) (h : decide (pwcode n t p xs m k = 0) = false) :
    ACalls Try.prog 28 [.agg (sqS n t), .i .i64 p, .ref (.sl 0 0 0 0 m 1), .i .i64 k] [.lv true [(0, .ints .i64 m xs)]] (fun v ms ns => v = .tup [.ref .nils, .i .i64 (pwcode n t p xs m k)] ∧ ms = [.lv true [(0, .ints .i64 m xs)]] ∧ ns = []) := by
  have h := of_decide_eq_false h
  refine acalls_of_body mix Try.func28 rfl fok28 (Nat.le_of_ble_eq_true rfl) ?_
  unfold abody
  simp only [absE, absL, absF, reduceCtorEq, ↓reduceIte, Nat.reduceEqDiff, Nat.reduceAdd, Nat.reduceLT, Nat.reduceMul, Nat.reduceSub, Nat.reduceLeDiff, Int.reduceLT, Int.reduceLE, Int.reduceEq, Option.isSome_some, implies_true, false_implies, Prod.mk.injEq, ne_eq, not_false_eq_true, not_true_eq_false, ge_iff_le, gt_iff_lt, Int.toNat_natCast, Int.reduceToNat, Int.cast_ofNat_Int, Int.natCast_nonneg, Try.f28]
  refine CallsVia.args [(7, 0), (0, 0)] (l10Code1_ok n t p xs m ht hx hm) (by simp) (by simp [Mem.get, assoc]) rfl rfl ?_
  rintro _ _ _ ⟨rfl, rfl, rfl⟩
  by_cases h1 : rcd1 n t p xs m = 0
  · have h2 : ¬(0 ≤ k ∧ k ≤ 1000) := fun h2 => h (by simp [pwcode, h1, h2])
    simp only [absE, absL, absF, reduceCtorEq, ↓reduceIte, Nat.reduceEqDiff, Nat.reduceAdd, Nat.reduceLT, Nat.reduceMul, Nat.reduceSub, Nat.reduceLeDiff, Int.reduceLT, Int.reduceLE, Int.reduceEq, Option.isSome_some, implies_true, false_implies, Prod.mk.injEq, ne_eq, not_false_eq_true, not_true_eq_false, ge_iff_le, gt_iff_lt, Int.toNat_natCast, Int.reduceToNat, Int.cast_ofNat_Int, Int.natCast_nonneg, h1]
    refine CallsVia.none (l01In_ok k 0 1000) ?_
    rintro _ _ _ ⟨rfl, rfl, rfl⟩
    simp only [absE, absL, absF, reduceCtorEq, ↓reduceIte, Nat.reduceEqDiff, Nat.reduceAdd, Nat.reduceLT, Nat.reduceMul, Nat.reduceSub, Nat.reduceLeDiff, Int.reduceLT, Int.reduceLE, Int.reduceEq, Option.isSome_some, implies_true, false_implies, Prod.mk.injEq, ne_eq, not_false_eq_true, not_true_eq_false, ge_iff_le, gt_iff_lt, Int.toNat_natCast, Int.reduceToNat, Int.cast_ofNat_Int, Int.natCast_nonneg, h2, Try.results28]
    exact ⟨[], by simp, by simp, by simp [renV, renVs, renAt, renBlk, renSegs, renSg, pwcode, h1, h2]⟩
  · simp only [absE, absL, absF, reduceCtorEq, ↓reduceIte, Nat.reduceEqDiff, Nat.reduceAdd, Nat.reduceLT, Nat.reduceMul, Nat.reduceSub, Nat.reduceLeDiff, Int.reduceLT, Int.reduceLE, Int.reduceEq, Option.isSome_some, implies_true, false_implies, Prod.mk.injEq, ne_eq, not_false_eq_true, not_true_eq_false, ge_iff_le, gt_iff_lt, Int.toNat_natCast, Int.reduceToNat, Int.cast_ofNat_Int, Int.natCast_nonneg, h1, Try.results28]
    exact ⟨[], by simp, by simp, by simp [renV, renVs, renAt, renBlk, renSegs, renSg, pwcode, h1]⟩
theorem powR_len {n : Int} {t : List Int} {p : Int} {xs : List Int} {m : Nat} {k : Int} (h : decide (pwcode n t p xs m k = 0) = true) : (powR n t p xs k).length < 2 ^ 40 := by
  have h1 := (rcd1_zero (pwcode_zero (of_decide_eq_true h)).1).1
  have := loopB_le h1
  unfold powR; rw [powL_len]; omega

end Go.Proofs.Ytnophcdinideaaa
