/-
Contracts of functions of the given program, by the abstract walk.
-/
import Derived.Test.YtcaadjjgggjefaaAbsY
import Derived.Test.YtcaadjjgggjefaaLc
namespace Go.Proofs.Ytcaadjjgggjefaa
open Go Go.Abs
set_option linter.unusedVariables false
set_option linter.unusedSectionVars false
set_option linter.unusedSimpArgs false
set_option maxRecDepth 100000
theorem isAlternative_ok (N : Nat) (t : List Int) (p : Int) (ht : Bytes 100 t) (hs : SqP N t) (hp : PrP p) :
    ACalls Try.prog 76 [.agg (sqS N t), .i .i64 p] [] (fun v ms ns => v = .b (!anyB N (altS p N t)) ∧ ms = [] ∧ ns = []) := by
  have hN := hs.le
  rw [← alt_any]
  refine acalls_of_body mix Try.func76 rfl fok76 (Nat.le_of_ble_eq_true rfl) ?_
  unfold abody
  simp only [absE, absL, absF, reduceCtorEq, ↓reduceIte, Nat.reduceEqDiff, Nat.reduceAdd, Nat.reduceLT, Nat.reduceMul, Nat.reduceSub, Nat.reduceLeDiff, Int.reduceLT, Int.reduceLE, Int.reduceEq, Option.isSome_some, implies_true, false_implies, Prod.mk.injEq, ne_eq, not_false_eq_true, not_true_eq_false, ge_iff_le, gt_iff_lt, Int.toNat_natCast, Int.reduceToNat, Int.cast_ofNat_Int, Int.natCast_nonneg, Try.f76]
  refine CallsVia.args [(1, 0), (2, 0)] (places2_ok N t hN 128 (altG p N t) (sqS N t) [(0, .ints .i64 1 [p])] (fun ρ => by simp [renSegs, renSg]) (fun ρ => by simp [renSegs, renSg]) (fun a b c ha hb hc => isAlternative1_ok N t p a b c ht hs hp ha hb hc)) (by simp) (by simp [Mem.get, assoc]) rfl rfl ?_
  rintro _ _ _ ⟨rfl, rfl, rfl⟩
  simp only [absE, absL, absF, reduceCtorEq, ↓reduceIte, Nat.reduceEqDiff, Nat.reduceAdd, Nat.reduceLT, Nat.reduceMul, Nat.reduceSub, Nat.reduceLeDiff, Int.reduceLT, Int.reduceLE, Int.reduceEq, Option.isSome_some, implies_true, false_implies, Prod.mk.injEq, ne_eq, not_false_eq_true, not_true_eq_false, ge_iff_le, gt_iff_lt, Int.toNat_natCast, Int.reduceToNat, Int.cast_ofNat_Int, Int.natCast_nonneg, Try.results76]
  exact ⟨[], by simp, by simp, by simp [renV, renVs, renSegs, renSg]⟩
noncomputable def rcd0 (n : Int) (t : List Int) (p : Int) : Int := if loopB n t then (if prB p then 0 else 2) else 1
theorem ringCode0_ok (n : Int) (t : List Int) (p : Int) (ht : Bytes 100 t) :
    ACalls Try.prog 73 [.agg (sqS n t), .i .i64 p, .ref .nils] [] (fun v ms ns => v = .i .i64 (rcd0 n t p) ∧ ms = [] ∧ ns = []) := by
  refine acalls_of_body mix Try.func73 rfl fok73 (Nat.le_of_ble_eq_true rfl) ?_
  unfold abody
  simp only [absE, absL, absF, reduceCtorEq, ↓reduceIte, Nat.reduceEqDiff, Nat.reduceAdd, Nat.reduceLT, Nat.reduceMul, Nat.reduceSub, Nat.reduceLeDiff, Int.reduceLT, Int.reduceLE, Int.reduceEq, Option.isSome_some, implies_true, false_implies, Prod.mk.injEq, ne_eq, not_false_eq_true, not_true_eq_false, ge_iff_le, gt_iff_lt, Int.toNat_natCast, Int.reduceToNat, Int.cast_ofNat_Int, Int.natCast_nonneg, Try.f73]
  refine CallsVia.none (isLoop_ok n t ht) ?_
  rintro _ _ _ ⟨rfl, rfl, rfl⟩
  cases h1 : loopB n t
  · simp only [absE, absL, absF, reduceCtorEq, ↓reduceIte, Nat.reduceEqDiff, Nat.reduceAdd, Nat.reduceLT, Nat.reduceMul, Nat.reduceSub, Nat.reduceLeDiff, Int.reduceLT, Int.reduceLE, Int.reduceEq, Option.isSome_some, implies_true, false_implies, Prod.mk.injEq, ne_eq, not_false_eq_true, not_true_eq_false, ge_iff_le, gt_iff_lt, Int.toNat_natCast, Int.reduceToNat, Int.cast_ofNat_Int, Int.natCast_nonneg, Try.results73]
    exact ⟨[], by simp, by simp, by simp [renV, renBlk, renSegs, renSg, renAt, renFin, rcd0, h1]⟩
  · have hs : SqP n t := by simp only [loopB, Bool.and_eq_true] at h1; exact sqB_iff.1 h1.1
    obtain ⟨N, rfl⟩ : ∃ N : Nat, n = N := ⟨n.toNat, by have := hs.1; omega⟩
    have hN := hs.le
    simp only [absE, absL, absF, reduceCtorEq, ↓reduceIte, Nat.reduceEqDiff, Nat.reduceAdd, Nat.reduceLT, Nat.reduceMul, Nat.reduceSub, Nat.reduceLeDiff, Int.reduceLT, Int.reduceLE, Int.reduceEq, Option.isSome_some, implies_true, false_implies, Prod.mk.injEq, ne_eq, not_false_eq_true, not_true_eq_false, ge_iff_le, gt_iff_lt, Int.toNat_natCast, Int.reduceToNat, Int.cast_ofNat_Int, Int.natCast_nonneg]
    refine CallsVia.none (isPrime_ok p) ?_
    rintro _ _ _ ⟨rfl, rfl, rfl⟩
    cases h2 : prB p
    · simp only [absE, absL, absF, reduceCtorEq, ↓reduceIte, Nat.reduceEqDiff, Nat.reduceAdd, Nat.reduceLT, Nat.reduceMul, Nat.reduceSub, Nat.reduceLeDiff, Int.reduceLT, Int.reduceLE, Int.reduceEq, Option.isSome_some, implies_true, false_implies, Prod.mk.injEq, ne_eq, not_false_eq_true, not_true_eq_false, ge_iff_le, gt_iff_lt, Int.toNat_natCast, Int.reduceToNat, Int.cast_ofNat_Int, Int.natCast_nonneg, Try.results73]
      exact ⟨[], by simp, by simp, by simp [renV, renBlk, renSegs, renSg, renAt, renFin, rcd0, h1, h2]⟩
    · simp only [absE, absL, absF, reduceCtorEq, ↓reduceIte, Nat.reduceEqDiff, Nat.reduceAdd, Nat.reduceLT, Nat.reduceMul, Nat.reduceSub, Nat.reduceLeDiff, Int.reduceLT, Int.reduceLE, Int.reduceEq, Option.isSome_some, implies_true, false_implies, Prod.mk.injEq, ne_eq, not_false_eq_true, not_true_eq_false, ge_iff_le, gt_iff_lt, Int.toNat_natCast, Int.reduceToNat, Int.cast_ofNat_Int, Int.natCast_nonneg]
      refine awpLoop.intro (fun i : Nat => [(1, .i .i64 p), (3, .ref (.ptr 1 0 0 0)), (17, .ref .nils), (18, .i .i64 0), (19, .i .i64 i)]) (fun i => ⟨[], [((1, 0), .lv true (sqS N t))], 14⟩)
        (fun i => i = 0) (fun i => 1 - i) 0 rfl ⟨[((1,0),(1,0))], rfl, ?_, ?_⟩ ?_
      · simp [wkEnv, lk, renV, renAt, renTo, renAt]
      · simp [wkMem, wkLoc, Mem.get, assoc, renBlk, renSegs, renSg, renTo, renAt]
      · rintro _ rfl
        simp only [absE, absL, absF, reduceCtorEq, ↓reduceIte, Nat.reduceEqDiff, Nat.reduceAdd, Nat.reduceLT, Nat.reduceMul, Nat.reduceSub, Nat.reduceLeDiff, Int.reduceLT, Int.reduceLE, Int.reduceEq, Option.isSome_some, implies_true, false_implies, Prod.mk.injEq, ne_eq, not_false_eq_true, not_true_eq_false, ge_iff_le, gt_iff_lt, Int.toNat_natCast, Int.reduceToNat, Int.cast_ofNat_Int, Int.natCast_nonneg, Try.results73]
        exact ⟨[], by simp, by simp, by simp [renV, renBlk, renSegs, renSg, renAt, renFin, rcd0, h1, h2]⟩
theorem l10Code0_ok (n : Int) (t : List Int) (p : Int) (ht : Bytes 100 t) :
    ACalls Try.prog 71 [.agg (sqS n t), .i .i64 p, .ref .nils] [] (fun v ms ns => v = .i .i64 (rcd0 n t p) ∧ ms = [] ∧ ns = []) := by
  refine acalls_of_body mix Try.func71 rfl fok71 (Nat.le_of_ble_eq_true rfl) ?_
  unfold abody
  simp only [absE, absL, absF, reduceCtorEq, ↓reduceIte, Nat.reduceEqDiff, Nat.reduceAdd, Nat.reduceLT, Nat.reduceMul, Nat.reduceSub, Nat.reduceLeDiff, Int.reduceLT, Int.reduceLE, Int.reduceEq, Option.isSome_some, implies_true, false_implies, Prod.mk.injEq, ne_eq, not_false_eq_true, not_true_eq_false, ge_iff_le, gt_iff_lt, Int.toNat_natCast, Int.reduceToNat, Int.cast_ofNat_Int, Int.natCast_nonneg, Try.f71]
  refine CallsVia.none (l01Loop_ok n t ht) ?_
  rintro _ _ _ ⟨rfl, rfl, rfl⟩
  cases h1 : loopB n t
  · simp only [absE, absL, absF, reduceCtorEq, ↓reduceIte, Nat.reduceEqDiff, Nat.reduceAdd, Nat.reduceLT, Nat.reduceMul, Nat.reduceSub, Nat.reduceLeDiff, Int.reduceLT, Int.reduceLE, Int.reduceEq, Option.isSome_some, implies_true, false_implies, Prod.mk.injEq, ne_eq, not_false_eq_true, not_true_eq_false, ge_iff_le, gt_iff_lt, Int.toNat_natCast, Int.reduceToNat, Int.cast_ofNat_Int, Int.natCast_nonneg, Try.results71]
    exact ⟨[], by simp, by simp, by simp [renV, renBlk, renSegs, renSg, renAt, renFin, rcd0, h1]⟩
  · have hs : SqP n t := by simp only [loopB, Bool.and_eq_true] at h1; exact sqB_iff.1 h1.1
    obtain ⟨N, rfl⟩ : ∃ N : Nat, n = N := ⟨n.toNat, by have := hs.1; omega⟩
    have hN := hs.le
    simp only [absE, absL, absF, reduceCtorEq, ↓reduceIte, Nat.reduceEqDiff, Nat.reduceAdd, Nat.reduceLT, Nat.reduceMul, Nat.reduceSub, Nat.reduceLeDiff, Int.reduceLT, Int.reduceLE, Int.reduceEq, Option.isSome_some, implies_true, false_implies, Prod.mk.injEq, ne_eq, not_false_eq_true, not_true_eq_false, ge_iff_le, gt_iff_lt, Int.toNat_natCast, Int.reduceToNat, Int.cast_ofNat_Int, Int.natCast_nonneg]
    refine CallsVia.none (l10Prime_ok p) ?_
    rintro _ _ _ ⟨rfl, rfl, rfl⟩
    cases h2 : prB p
    · simp only [absE, absL, absF, reduceCtorEq, ↓reduceIte, Nat.reduceEqDiff, Nat.reduceAdd, Nat.reduceLT, Nat.reduceMul, Nat.reduceSub, Nat.reduceLeDiff, Int.reduceLT, Int.reduceLE, Int.reduceEq, Option.isSome_some, implies_true, false_implies, Prod.mk.injEq, ne_eq, not_false_eq_true, not_true_eq_false, ge_iff_le, gt_iff_lt, Int.toNat_natCast, Int.reduceToNat, Int.cast_ofNat_Int, Int.natCast_nonneg, Try.results71]
      exact ⟨[], by simp, by simp, by simp [renV, renBlk, renSegs, renSg, renAt, renFin, rcd0, h1, h2]⟩
    · simp only [absE, absL, absF, reduceCtorEq, ↓reduceIte, Nat.reduceEqDiff, Nat.reduceAdd, Nat.reduceLT, Nat.reduceMul, Nat.reduceSub, Nat.reduceLeDiff, Int.reduceLT, Int.reduceLE, Int.reduceEq, Option.isSome_some, implies_true, false_implies, Prod.mk.injEq, ne_eq, not_false_eq_true, not_true_eq_false, ge_iff_le, gt_iff_lt, Int.toNat_natCast, Int.reduceToNat, Int.cast_ofNat_Int, Int.natCast_nonneg]
      refine awpLoop.intro (fun i : Nat => [(1, .i .i64 p), (2, .ref .nils), (3, .ref (.ptr 1 0 0 0)), (7, .i .i64 i)]) (fun i => ⟨[], [((1, 0), .lv true (sqS N t))], 12⟩)
        (fun i => i = 0) (fun i => 1 - i) 0 rfl ⟨[((1,0),(1,0))], rfl, ?_, ?_⟩ ?_
      · simp [wkEnv, lk, renV, renAt, renTo, renAt]
      · simp [wkMem, wkLoc, Mem.get, assoc, renBlk, renSegs, renSg, renTo, renAt]
      · rintro _ rfl
        simp only [absE, absL, absF, reduceCtorEq, ↓reduceIte, Nat.reduceEqDiff, Nat.reduceAdd, Nat.reduceLT, Nat.reduceMul, Nat.reduceSub, Nat.reduceLeDiff, Int.reduceLT, Int.reduceLE, Int.reduceEq, Option.isSome_some, implies_true, false_implies, Prod.mk.injEq, ne_eq, not_false_eq_true, not_true_eq_false, ge_iff_le, gt_iff_lt, Int.toNat_natCast, Int.reduceToNat, Int.cast_ofNat_Int, Int.natCast_nonneg, Try.results71]
        exact ⟨[], by simp, by simp, by simp [renV, renBlk, renSegs, renSg, renAt, renFin, rcd0, h1, h2]⟩
theorem ascS_rng {N : Nat} {t : List Int} {p : Int} {a b c : List Int} (hp : PrP p) (ha : RngP p a) (hb : RngP p b) (hc : RngP p c) : RngP p (ascS N t p a b c) :=
  subS_rng hp (tmT_rng hp (tmT_rng hp ha hb) hc) (tmT_rng hp ha (tmT_rng hp hb hc)) (by rw [tmT_len]; exact Nat.le_refl N)
set_option maxHeartbeats 2000000 in
theorem l10Alternative_ok (N : Nat) (t : List Int) (p : Int) (ht : Bytes 100 t) (hs : SqP N t) (hp : PrP p) :
    ACalls Try.prog 75 [.agg (sqS N t), .i .i64 p] [] (fun v ms ns => v = .b (!anyB N (altS p N t)) ∧ ms = [] ∧ ns = []) := by
  have hN := hs.le
  refine acalls_of_body mix Try.func75 rfl fok75 (Nat.le_of_ble_eq_true rfl) ?_
  unfold abody
  simp only [absE, absL, absF, reduceCtorEq, ↓reduceIte, Nat.reduceEqDiff, Nat.reduceAdd, Nat.reduceLT, Nat.reduceMul, Nat.reduceSub, Nat.reduceLeDiff, Int.reduceLT, Int.reduceLE, Int.reduceEq, Option.isSome_some, implies_true, false_implies, Prod.mk.injEq, ne_eq, not_false_eq_true, not_true_eq_false, ge_iff_le, gt_iff_lt, Int.toNat_natCast, Int.reduceToNat, Int.cast_ofNat_Int, Int.natCast_nonneg, Try.f75]
  refine awpLoop.intro (fun x : Nat => [(1, .i .i64 p), (2, .ref (.ptr 1 0 0 0)), (5, .i .i64 N), (6, .i .i64 x)]) (fun x => ⟨[], [((1, 0), .lv true (sqS N t))], 10⟩)
    (fun x => x ≤ N ∧ ∀ j, j < x → ∀ y z, y < N → z < N → altS p N t j y z = false) (fun x => N - x) 0 ⟨by omega, fun j hj => absurd hj (by omega)⟩ ⟨[((1,0),(1,0))], rfl, ?_, ?_⟩ ?_
  · simp [wkEnv, lk, renV, renAt, renTo]
  · simp [wkMem, wkLoc, Mem.get, assoc, renBlk, renSegs, renSg, renTo]
  · rintro x ⟨hx, hp1⟩
    by_cases h : (x : Int) < N
    · have w := wrap_i64s (show x < 2 ^ 62 by omega)
      simp only [absE, absL, absF, reduceCtorEq, ↓reduceIte, Nat.reduceEqDiff, Nat.reduceAdd, Nat.reduceLT, Nat.reduceMul, Nat.reduceSub, Nat.reduceLeDiff, Int.reduceLT, Int.reduceLE, Int.reduceEq, Option.isSome_some, implies_true, false_implies, Prod.mk.injEq, ne_eq, not_false_eq_true, not_true_eq_false, ge_iff_le, gt_iff_lt, Int.toNat_natCast, Int.reduceToNat, Int.cast_ofNat_Int, Int.natCast_nonneg, h]
      refine awpLoop.intro (fun y : Nat => [(1, .i .i64 p), (2, .ref (.ptr 1 0 0 0)), (5, .i .i64 N), (6, .i .i64 x), (7, .i .i64 y)]) (fun x => ⟨[], [((1, 0), .lv true (sqS N t))], 10⟩)
        (fun y => y ≤ N ∧ ∀ j, j < y → ∀ z, z < N → altS p N t x j z = false) (fun y => N - y) 0 ⟨by omega, fun j hj => absurd hj (by omega)⟩ ⟨[((1,0),(1,0))], rfl, ?_, ?_⟩ ?_
      · simp [wkEnv, lk, renV, renAt, renTo]
      · simp [wkMem, wkLoc, Mem.get, assoc, renBlk, renSegs, renSg, renTo]
      · rintro y ⟨hy, hq⟩
        by_cases h' : (y : Int) < N
        · have w' := wrap_i64s (show y < 2 ^ 62 by omega)
          simp only [absE, absL, absF, reduceCtorEq, ↓reduceIte, Nat.reduceEqDiff, Nat.reduceAdd, Nat.reduceLT, Nat.reduceMul, Nat.reduceSub, Nat.reduceLeDiff, Int.reduceLT, Int.reduceLE, Int.reduceEq, Option.isSome_some, implies_true, false_implies, Prod.mk.injEq, ne_eq, not_false_eq_true, not_true_eq_false, ge_iff_le, gt_iff_lt, Int.toNat_natCast, Int.reduceToNat, Int.cast_ofNat_Int, Int.natCast_nonneg, h']
          refine awpLoop.intro (fun z : Nat => [(1, .i .i64 p), (2, .ref (.ptr 1 0 0 0)), (5, .i .i64 N), (6, .i .i64 x), (7, .i .i64 y), (8, .i .i64 z)]) (fun x => ⟨[], [((1, 0), .lv true (sqS N t))], 10⟩)
            (fun z => z ≤ N ∧ ∀ j, j < z → altS p N t x y j = false) (fun z => N - z) 0 ⟨by omega, fun j hj => absurd hj (by omega)⟩ ⟨[((1,0),(1,0))], rfl, ?_, ?_⟩ ?_
          · simp [wkEnv, lk, renV, renAt, renTo]
          · simp [wkMem, wkLoc, Mem.get, assoc, renBlk, renSegs, renSg, renTo]
          · rintro z ⟨hz, hr⟩
            by_cases h3 : (z : Int) < N
            · have w3 := wrap_i64s (show z < 2 ^ 62 by omega)
              have gx : x < N := by omega
              have gy : y < N := by omega
              have gz : z < N := by omega
              simp only [absE, absL, absF, reduceCtorEq, ↓reduceIte, Nat.reduceEqDiff, Nat.reduceAdd, Nat.reduceLT, Nat.reduceMul, Nat.reduceSub, Nat.reduceLeDiff, Int.reduceLT, Int.reduceLE, Int.reduceEq, Option.isSome_some, implies_true, false_implies, Prod.mk.injEq, ne_eq, not_false_eq_true, not_true_eq_false, ge_iff_le, gt_iff_lt, Int.toNat_natCast, Int.reduceToNat, Int.cast_ofNat_Int, Int.natCast_nonneg, h3]
              refine CallsVia.none (l10UnitX_ok N x gx hN) ?_
              rintro _ _ _ ⟨rfl, rfl, rfl⟩
              simp only [absE, absL, absF, reduceCtorEq, ↓reduceIte, Nat.reduceEqDiff, Nat.reduceAdd, Nat.reduceLT, Nat.reduceMul, Nat.reduceSub, Nat.reduceLeDiff, Int.reduceLT, Int.reduceLE, Int.reduceEq, Option.isSome_some, implies_true, false_implies, Prod.mk.injEq, ne_eq, not_false_eq_true, not_true_eq_false, ge_iff_le, gt_iff_lt, Int.toNat_natCast, Int.reduceToNat, Int.cast_ofNat_Int, Int.natCast_nonneg]
              refine CallsVia.none (l10UnitX_ok N y gy hN) ?_
              rintro _ _ _ ⟨rfl, rfl, rfl⟩
              simp only [absE, absL, absF, reduceCtorEq, ↓reduceIte, Nat.reduceEqDiff, Nat.reduceAdd, Nat.reduceLT, Nat.reduceMul, Nat.reduceSub, Nat.reduceLeDiff, Int.reduceLT, Int.reduceLE, Int.reduceEq, Option.isSome_some, implies_true, false_implies, Prod.mk.injEq, ne_eq, not_false_eq_true, not_true_eq_false, ge_iff_le, gt_iff_lt, Int.toNat_natCast, Int.reduceToNat, Int.cast_ofNat_Int, Int.natCast_nonneg]
              refine CallsVia.none (l10UnitX_ok N z gz hN) ?_
              rintro _ _ _ ⟨rfl, rfl, rfl⟩
              simp only [absE, absL, absF, reduceCtorEq, ↓reduceIte, Nat.reduceEqDiff, Nat.reduceAdd, Nat.reduceLT, Nat.reduceMul, Nat.reduceSub, Nat.reduceLeDiff, Int.reduceLT, Int.reduceLE, Int.reduceEq, Option.isSome_some, implies_true, false_implies, Prod.mk.injEq, ne_eq, not_false_eq_true, not_true_eq_false, ge_iff_le, gt_iff_lt, Int.toNat_natCast, Int.reduceToNat, Int.cast_ofNat_Int, Int.natCast_nonneg]
              have ux := uniX_rng (N := N) hp gx
              have uy := uniX_rng (N := N) hp gy
              have uz := uniX_rng (N := N) hp gz
              refine CallsX.args [(15, 0), (18, 0), (21, 0)] (l10Associator_ok N t p (uniX N x) (uniX N y) (uniX N z) ht hs hp ux uy uz uniX_len uniX_len uniX_len) (by simp) (by simp [Mem.get, assoc]) rfl rfl ?_
              simp only [absE, absL, absF, reduceCtorEq, ↓reduceIte, Nat.reduceEqDiff, Nat.reduceAdd, Nat.reduceLT, Nat.reduceMul, Nat.reduceSub, Nat.reduceLeDiff, Int.reduceLT, Int.reduceLE, Int.reduceEq, Option.isSome_some, implies_true, false_implies, Prod.mk.injEq, ne_eq, not_false_eq_true, not_true_eq_false, ge_iff_le, gt_iff_lt, Int.toNat_natCast, Int.reduceToNat, Int.cast_ofNat_Int, Int.natCast_nonneg, a3]
              repeat refine And.intro (by decide +kernel) ?_
              refine CallsX.args [(21, 0), (15, 0), (18, 0)] (l10Associator_ok N t p (uniX N z) (uniX N x) (uniX N y) ht hs hp uz ux uy uniX_len uniX_len uniX_len) (by simp) (by simp [Mem.get, assoc]) rfl rfl ?_
              simp only [absE, absL, absF, reduceCtorEq, ↓reduceIte, Nat.reduceEqDiff, Nat.reduceAdd, Nat.reduceLT, Nat.reduceMul, Nat.reduceSub, Nat.reduceLeDiff, Int.reduceLT, Int.reduceLE, Int.reduceEq, Option.isSome_some, implies_true, false_implies, Prod.mk.injEq, ne_eq, not_false_eq_true, not_true_eq_false, ge_iff_le, gt_iff_lt, Int.toNat_natCast, Int.reduceToNat, Int.cast_ofNat_Int, Int.natCast_nonneg, a3]
              repeat refine And.intro (by decide +kernel) ?_
              by_cases e : x = y
              · have g : ((x : Int) = y) = True := eq_true (by omega)
                simp only [absE, absL, absF, reduceCtorEq, ↓reduceIte, Nat.reduceEqDiff, Nat.reduceAdd, Nat.reduceLT, Nat.reduceMul, Nat.reduceSub, Nat.reduceLeDiff, Int.reduceLT, Int.reduceLE, Int.reduceEq, Option.isSome_some, implies_true, false_implies, Prod.mk.injEq, ne_eq, not_false_eq_true, not_true_eq_false, ge_iff_le, gt_iff_lt, Int.toNat_natCast, Int.reduceToNat, Int.cast_ofNat_Int, Int.natCast_nonneg, g, decide_true]
                refine CallsVia.args [(30, 0)] (l10Zero_ok N (ascS N t p (uniX N x) (uniX N y) (uniX N z)) ascS_len (by omega)) (by simp) (by simp [Mem.get, assoc]) rfl rfl ?_
                rintro _ _ _ ⟨rfl, rfl, rfl⟩
                rw [asc_zero hs hp gx gy gz]
                cases b1 : assoc3 t x y z
                · have hf : anyB N (altS p N t) = true := anyB_true ⟨x, y, z, gx, gy, gz, by subst e; simp [altS, b1]⟩
                  simp only [absE, absL, absF, reduceCtorEq, ↓reduceIte, Nat.reduceEqDiff, Nat.reduceAdd, Nat.reduceLT, Nat.reduceMul, Nat.reduceSub, Nat.reduceLeDiff, Int.reduceLT, Int.reduceLE, Int.reduceEq, Option.isSome_some, implies_true, false_implies, Prod.mk.injEq, ne_eq, not_false_eq_true, not_true_eq_false, ge_iff_le, gt_iff_lt, Int.toNat_natCast, Int.reduceToNat, Int.cast_ofNat_Int, Int.natCast_nonneg, Try.results75]
                  exact ⟨[], by simp, by simp, by simp [renV, renVs, renSegs, renSg, hf]⟩
                · simp only [absE, absL, absF, reduceCtorEq, ↓reduceIte, Nat.reduceEqDiff, Nat.reduceAdd, Nat.reduceLT, Nat.reduceMul, Nat.reduceSub, Nat.reduceLeDiff, Int.reduceLT, Int.reduceLE, Int.reduceEq, Option.isSome_some, implies_true, false_implies, Prod.mk.injEq, ne_eq, not_false_eq_true, not_true_eq_false, ge_iff_le, gt_iff_lt, Int.toNat_natCast, Int.reduceToNat, Int.cast_ofNat_Int, Int.natCast_nonneg]
                  refine CallsVia.args [(36, 0)] (l10Zero_ok N (ascS N t p (uniX N z) (uniX N x) (uniX N y)) ascS_len (by omega)) (by simp) (by simp [Mem.get, assoc]) rfl rfl ?_
                  rintro _ _ _ ⟨rfl, rfl, rfl⟩
                  rw [asc_zero hs hp gz gx gy]
                  cases b2 : assoc3 t z x y
                  · have hf : anyB N (altS p N t) = true := anyB_true ⟨x, y, z, gx, gy, gz, by subst e; simp [altS, b1, b2]⟩
                    simp only [absE, absL, absF, reduceCtorEq, ↓reduceIte, Nat.reduceEqDiff, Nat.reduceAdd, Nat.reduceLT, Nat.reduceMul, Nat.reduceSub, Nat.reduceLeDiff, Int.reduceLT, Int.reduceLE, Int.reduceEq, Option.isSome_some, implies_true, false_implies, Prod.mk.injEq, ne_eq, not_false_eq_true, not_true_eq_false, ge_iff_le, gt_iff_lt, Int.toNat_natCast, Int.reduceToNat, Int.cast_ofNat_Int, Int.natCast_nonneg, Try.results75]
                    exact ⟨[], by simp, by simp, by simp [renV, renVs, renSegs, renSg, hf]⟩
                  · skip
                    simp only [absE, absL, absF, reduceCtorEq, ↓reduceIte, Nat.reduceEqDiff, Nat.reduceAdd, Nat.reduceLT, Nat.reduceMul, Nat.reduceSub, Nat.reduceLeDiff, Int.reduceLT, Int.reduceLE, Int.reduceEq, Option.isSome_some, implies_true, false_implies, Prod.mk.injEq, ne_eq, not_false_eq_true, not_true_eq_false, ge_iff_le, gt_iff_lt, Int.toNat_natCast, Int.reduceToNat, Int.cast_ofNat_Int, Int.natCast_nonneg, b1, b2]
                    refine CallsVia.args [(18, 0), (15, 0), (21, 0)] (l10Associator_ok N t p (uniX N y) (uniX N x) (uniX N z) ht hs hp uy ux uz uniX_len uniX_len uniX_len) (by simp) (by simp [Mem.get, assoc]) rfl rfl ?_
                    rintro _ _ _ ⟨rfl, rfl, rfl⟩
                    simp only [absE, absL, absF, reduceCtorEq, ↓reduceIte, Nat.reduceEqDiff, Nat.reduceAdd, Nat.reduceLT, Nat.reduceMul, Nat.reduceSub, Nat.reduceLeDiff, Int.reduceLT, Int.reduceLE, Int.reduceEq, Option.isSome_some, implies_true, false_implies, Prod.mk.injEq, ne_eq, not_false_eq_true, not_true_eq_false, ge_iff_le, gt_iff_lt, Int.toNat_natCast, Int.reduceToNat, Int.cast_ofNat_Int, Int.natCast_nonneg, a3]
                    refine CallsVia.args [(30, 0), (59, 0)] (l10Add_ok N p (ascS N t p (uniX N x) (uniX N y) (uniX N z)) (ascS N t p (uniX N y) (uniX N x) (uniX N z)) hN hp (ascS_rng hp ux uy uz) (ascS_rng hp uy ux uz) ascS_len ascS_len) (by simp) (by simp [Mem.get, assoc]) rfl rfl ?_
                    rintro _ _ _ ⟨rfl, rfl, rfl⟩
                    simp only [absE, absL, absF, reduceCtorEq, ↓reduceIte, Nat.reduceEqDiff, Nat.reduceAdd, Nat.reduceLT, Nat.reduceMul, Nat.reduceSub, Nat.reduceLeDiff, Int.reduceLT, Int.reduceLE, Int.reduceEq, Option.isSome_some, implies_true, false_implies, Prod.mk.injEq, ne_eq, not_false_eq_true, not_true_eq_false, ge_iff_le, gt_iff_lt, Int.toNat_natCast, Int.reduceToNat, Int.cast_ofNat_Int, Int.natCast_nonneg]
                    refine CallsVia.args [(60, 0)] (l10Zero_ok N (addR p (ascS N t p (uniX N x) (uniX N y) (uniX N z)) (ascS N t p (uniX N y) (uniX N x) (uniX N z)) N) addR_len (by omega)) (by simp) (by simp [Mem.get, assoc]) rfl rfl ?_
                    rintro _ _ _ ⟨rfl, rfl, rfl⟩
                    rw [add_zero hs hp gx gy gz gy gx gz]
                    cases c1 : canB p N (cl t (cl t x y) z) (cl t x (cl t y z)) (cl t (cl t y x) z) (cl t y (cl t x z))
                    · have hf : anyB N (altS p N t) = true := anyB_true ⟨x, y, z, gx, gy, gz, by subst e; simp [altS, b1, b2, c1]⟩
                      simp only [absE, absL, absF, reduceCtorEq, ↓reduceIte, Nat.reduceEqDiff, Nat.reduceAdd, Nat.reduceLT, Nat.reduceMul, Nat.reduceSub, Nat.reduceLeDiff, Int.reduceLT, Int.reduceLE, Int.reduceEq, Option.isSome_some, implies_true, false_implies, Prod.mk.injEq, ne_eq, not_false_eq_true, not_true_eq_false, ge_iff_le, gt_iff_lt, Int.toNat_natCast, Int.reduceToNat, Int.cast_ofNat_Int, Int.natCast_nonneg, Try.results75]
                      exact ⟨[], by simp, by simp, by simp [renV, renVs, renSegs, renSg, hf]⟩
                    · simp only [absE, absL, absF, reduceCtorEq, ↓reduceIte, Nat.reduceEqDiff, Nat.reduceAdd, Nat.reduceLT, Nat.reduceMul, Nat.reduceSub, Nat.reduceLeDiff, Int.reduceLT, Int.reduceLE, Int.reduceEq, Option.isSome_some, implies_true, false_implies, Prod.mk.injEq, ne_eq, not_false_eq_true, not_true_eq_false, ge_iff_le, gt_iff_lt, Int.toNat_natCast, Int.reduceToNat, Int.cast_ofNat_Int, Int.natCast_nonneg]
                      refine CallsVia.args [(21, 0), (18, 0), (15, 0)] (l10Associator_ok N t p (uniX N z) (uniX N y) (uniX N x) ht hs hp uz uy ux uniX_len uniX_len uniX_len) (by simp) (by simp [Mem.get, assoc]) rfl rfl ?_
                      rintro _ _ _ ⟨rfl, rfl, rfl⟩
                      simp only [absE, absL, absF, reduceCtorEq, ↓reduceIte, Nat.reduceEqDiff, Nat.reduceAdd, Nat.reduceLT, Nat.reduceMul, Nat.reduceSub, Nat.reduceLeDiff, Int.reduceLT, Int.reduceLE, Int.reduceEq, Option.isSome_some, implies_true, false_implies, Prod.mk.injEq, ne_eq, not_false_eq_true, not_true_eq_false, ge_iff_le, gt_iff_lt, Int.toNat_natCast, Int.reduceToNat, Int.cast_ofNat_Int, Int.natCast_nonneg, a3]
                      refine CallsVia.args [(36, 0), (71, 0)] (l10Add_ok N p (ascS N t p (uniX N z) (uniX N x) (uniX N y)) (ascS N t p (uniX N z) (uniX N y) (uniX N x)) hN hp (ascS_rng hp uz ux uy) (ascS_rng hp uz uy ux) ascS_len ascS_len) (by simp) (by simp [Mem.get, assoc]) rfl rfl ?_
                      rintro _ _ _ ⟨rfl, rfl, rfl⟩
                      simp only [absE, absL, absF, reduceCtorEq, ↓reduceIte, Nat.reduceEqDiff, Nat.reduceAdd, Nat.reduceLT, Nat.reduceMul, Nat.reduceSub, Nat.reduceLeDiff, Int.reduceLT, Int.reduceLE, Int.reduceEq, Option.isSome_some, implies_true, false_implies, Prod.mk.injEq, ne_eq, not_false_eq_true, not_true_eq_false, ge_iff_le, gt_iff_lt, Int.toNat_natCast, Int.reduceToNat, Int.cast_ofNat_Int, Int.natCast_nonneg]
                      refine CallsVia.args [(72, 0)] (l10Zero_ok N (addR p (ascS N t p (uniX N z) (uniX N x) (uniX N y)) (ascS N t p (uniX N z) (uniX N y) (uniX N x)) N) addR_len (by omega)) (by simp) (by simp [Mem.get, assoc]) rfl rfl ?_
                      rintro _ _ _ ⟨rfl, rfl, rfl⟩
                      rw [add_zero hs hp gz gx gy gz gy gx]
                      cases c2 : canB p N (cl t (cl t z x) y) (cl t z (cl t x y)) (cl t (cl t z y) x) (cl t z (cl t y x))
                      · have hf : anyB N (altS p N t) = true := anyB_true ⟨x, y, z, gx, gy, gz, by subst e; simp [altS, b1, b2, c1, c2]⟩
                        simp only [absE, absL, absF, reduceCtorEq, ↓reduceIte, Nat.reduceEqDiff, Nat.reduceAdd, Nat.reduceLT, Nat.reduceMul, Nat.reduceSub, Nat.reduceLeDiff, Int.reduceLT, Int.reduceLE, Int.reduceEq, Option.isSome_some, implies_true, false_implies, Prod.mk.injEq, ne_eq, not_false_eq_true, not_true_eq_false, ge_iff_le, gt_iff_lt, Int.toNat_natCast, Int.reduceToNat, Int.cast_ofNat_Int, Int.natCast_nonneg, Try.results75]
                        exact ⟨[], by simp, by simp, by simp [renV, renVs, renSegs, renSg, hf]⟩
                      · simp only [absE, absL, absF, reduceCtorEq, ↓reduceIte, Nat.reduceEqDiff, Nat.reduceAdd, Nat.reduceLT, Nat.reduceMul, Nat.reduceSub, Nat.reduceLeDiff, Int.reduceLT, Int.reduceLE, Int.reduceEq, Option.isSome_some, implies_true, false_implies, Prod.mk.injEq, ne_eq, not_false_eq_true, not_true_eq_false, ge_iff_le, gt_iff_lt, Int.toNat_natCast, Int.reduceToNat, Int.cast_ofNat_Int, Int.natCast_nonneg]
                        refine LoopNext.intro (z + 1) ⟨by omega, fun j hj => ?_⟩ (by omega) ⟨[((1,0),(1,0))], rfl, ?_, ?_⟩
                        · by_cases ej : j = z
                          · subst ej; subst e; simp [altS, b1, b2, c1, c2]
                          · exact hr j (by omega)
                        · simp [wkEnv, lk, renV, renAt, renTo, w3]
                        · simp [wkMem, wkLoc, Mem.get, assoc, renBlk, renSegs, renSg, renTo, w3]
              · have g : ¬(x : Int) = y := by omega
                simp only [absE, absL, absF, reduceCtorEq, ↓reduceIte, Nat.reduceEqDiff, Nat.reduceAdd, Nat.reduceLT, Nat.reduceMul, Nat.reduceSub, Nat.reduceLeDiff, Int.reduceLT, Int.reduceLE, Int.reduceEq, Option.isSome_some, implies_true, false_implies, Prod.mk.injEq, ne_eq, not_false_eq_true, not_true_eq_false, ge_iff_le, gt_iff_lt, Int.toNat_natCast, Int.reduceToNat, Int.cast_ofNat_Int, Int.natCast_nonneg, g, decide_false]
                simp only [absE, absL, absF, reduceCtorEq, ↓reduceIte, Nat.reduceEqDiff, Nat.reduceAdd, Nat.reduceLT, Nat.reduceMul, Nat.reduceSub, Nat.reduceLeDiff, Int.reduceLT, Int.reduceLE, Int.reduceEq, Option.isSome_some, implies_true, false_implies, Prod.mk.injEq, ne_eq, not_false_eq_true, not_true_eq_false, ge_iff_le, gt_iff_lt, Int.toNat_natCast, Int.reduceToNat, Int.cast_ofNat_Int, Int.natCast_nonneg, g]
                refine CallsVia.args [(18, 0), (15, 0), (21, 0)] (l10Associator_ok N t p (uniX N y) (uniX N x) (uniX N z) ht hs hp uy ux uz uniX_len uniX_len uniX_len) (by simp) (by simp [Mem.get, assoc]) rfl rfl ?_
                rintro _ _ _ ⟨rfl, rfl, rfl⟩
                simp only [absE, absL, absF, reduceCtorEq, ↓reduceIte, Nat.reduceEqDiff, Nat.reduceAdd, Nat.reduceLT, Nat.reduceMul, Nat.reduceSub, Nat.reduceLeDiff, Int.reduceLT, Int.reduceLE, Int.reduceEq, Option.isSome_some, implies_true, false_implies, Prod.mk.injEq, ne_eq, not_false_eq_true, not_true_eq_false, ge_iff_le, gt_iff_lt, Int.toNat_natCast, Int.reduceToNat, Int.cast_ofNat_Int, Int.natCast_nonneg, a3]
                refine CallsVia.args [(30, 0), (59, 0)] (l10Add_ok N p (ascS N t p (uniX N x) (uniX N y) (uniX N z)) (ascS N t p (uniX N y) (uniX N x) (uniX N z)) hN hp (ascS_rng hp ux uy uz) (ascS_rng hp uy ux uz) ascS_len ascS_len) (by simp) (by simp [Mem.get, assoc]) rfl rfl ?_
                rintro _ _ _ ⟨rfl, rfl, rfl⟩
                simp only [absE, absL, absF, reduceCtorEq, ↓reduceIte, Nat.reduceEqDiff, Nat.reduceAdd, Nat.reduceLT, Nat.reduceMul, Nat.reduceSub, Nat.reduceLeDiff, Int.reduceLT, Int.reduceLE, Int.reduceEq, Option.isSome_some, implies_true, false_implies, Prod.mk.injEq, ne_eq, not_false_eq_true, not_true_eq_false, ge_iff_le, gt_iff_lt, Int.toNat_natCast, Int.reduceToNat, Int.cast_ofNat_Int, Int.natCast_nonneg]
                refine CallsVia.args [(60, 0)] (l10Zero_ok N (addR p (ascS N t p (uniX N x) (uniX N y) (uniX N z)) (ascS N t p (uniX N y) (uniX N x) (uniX N z)) N) addR_len (by omega)) (by simp) (by simp [Mem.get, assoc]) rfl rfl ?_
                rintro _ _ _ ⟨rfl, rfl, rfl⟩
                rw [add_zero hs hp gx gy gz gy gx gz]
                cases c1 : canB p N (cl t (cl t x y) z) (cl t x (cl t y z)) (cl t (cl t y x) z) (cl t y (cl t x z))
                · have hf : anyB N (altS p N t) = true := anyB_true ⟨x, y, z, gx, gy, gz, by simp [altS, e, c1]⟩
                  simp only [absE, absL, absF, reduceCtorEq, ↓reduceIte, Nat.reduceEqDiff, Nat.reduceAdd, Nat.reduceLT, Nat.reduceMul, Nat.reduceSub, Nat.reduceLeDiff, Int.reduceLT, Int.reduceLE, Int.reduceEq, Option.isSome_some, implies_true, false_implies, Prod.mk.injEq, ne_eq, not_false_eq_true, not_true_eq_false, ge_iff_le, gt_iff_lt, Int.toNat_natCast, Int.reduceToNat, Int.cast_ofNat_Int, Int.natCast_nonneg, Try.results75]
                  exact ⟨[], by simp, by simp, by simp [renV, renVs, renSegs, renSg, hf]⟩
                · simp only [absE, absL, absF, reduceCtorEq, ↓reduceIte, Nat.reduceEqDiff, Nat.reduceAdd, Nat.reduceLT, Nat.reduceMul, Nat.reduceSub, Nat.reduceLeDiff, Int.reduceLT, Int.reduceLE, Int.reduceEq, Option.isSome_some, implies_true, false_implies, Prod.mk.injEq, ne_eq, not_false_eq_true, not_true_eq_false, ge_iff_le, gt_iff_lt, Int.toNat_natCast, Int.reduceToNat, Int.cast_ofNat_Int, Int.natCast_nonneg]
                  refine CallsVia.args [(21, 0), (18, 0), (15, 0)] (l10Associator_ok N t p (uniX N z) (uniX N y) (uniX N x) ht hs hp uz uy ux uniX_len uniX_len uniX_len) (by simp) (by simp [Mem.get, assoc]) rfl rfl ?_
                  rintro _ _ _ ⟨rfl, rfl, rfl⟩
                  simp only [absE, absL, absF, reduceCtorEq, ↓reduceIte, Nat.reduceEqDiff, Nat.reduceAdd, Nat.reduceLT, Nat.reduceMul, Nat.reduceSub, Nat.reduceLeDiff, Int.reduceLT, Int.reduceLE, Int.reduceEq, Option.isSome_some, implies_true, false_implies, Prod.mk.injEq, ne_eq, not_false_eq_true, not_true_eq_false, ge_iff_le, gt_iff_lt, Int.toNat_natCast, Int.reduceToNat, Int.cast_ofNat_Int, Int.natCast_nonneg, a3]
                  refine CallsVia.args [(36, 0), (71, 0)] (l10Add_ok N p (ascS N t p (uniX N z) (uniX N x) (uniX N y)) (ascS N t p (uniX N z) (uniX N y) (uniX N x)) hN hp (ascS_rng hp uz ux uy) (ascS_rng hp uz uy ux) ascS_len ascS_len) (by simp) (by simp [Mem.get, assoc]) rfl rfl ?_
                  rintro _ _ _ ⟨rfl, rfl, rfl⟩
                  simp only [absE, absL, absF, reduceCtorEq, ↓reduceIte, Nat.reduceEqDiff, Nat.reduceAdd, Nat.reduceLT, Nat.reduceMul, Nat.reduceSub, Nat.reduceLeDiff, Int.reduceLT, Int.reduceLE, Int.reduceEq, Option.isSome_some, implies_true, false_implies, Prod.mk.injEq, ne_eq, not_false_eq_true, not_true_eq_false, ge_iff_le, gt_iff_lt, Int.toNat_natCast, Int.reduceToNat, Int.cast_ofNat_Int, Int.natCast_nonneg]
                  refine CallsVia.args [(72, 0)] (l10Zero_ok N (addR p (ascS N t p (uniX N z) (uniX N x) (uniX N y)) (ascS N t p (uniX N z) (uniX N y) (uniX N x)) N) addR_len (by omega)) (by simp) (by simp [Mem.get, assoc]) rfl rfl ?_
                  rintro _ _ _ ⟨rfl, rfl, rfl⟩
                  rw [add_zero hs hp gz gx gy gz gy gx]
                  cases c2 : canB p N (cl t (cl t z x) y) (cl t z (cl t x y)) (cl t (cl t z y) x) (cl t z (cl t y x))
                  · have hf : anyB N (altS p N t) = true := anyB_true ⟨x, y, z, gx, gy, gz, by simp [altS, e, c1, c2]⟩
                    simp only [absE, absL, absF, reduceCtorEq, ↓reduceIte, Nat.reduceEqDiff, Nat.reduceAdd, Nat.reduceLT, Nat.reduceMul, Nat.reduceSub, Nat.reduceLeDiff, Int.reduceLT, Int.reduceLE, Int.reduceEq, Option.isSome_some, implies_true, false_implies, Prod.mk.injEq, ne_eq, not_false_eq_true, not_true_eq_false, ge_iff_le, gt_iff_lt, Int.toNat_natCast, Int.reduceToNat, Int.cast_ofNat_Int, Int.natCast_nonneg, Try.results75]
                    exact ⟨[], by simp, by simp, by simp [renV, renVs, renSegs, renSg, hf]⟩
                  · simp only [absE, absL, absF, reduceCtorEq, ↓reduceIte, Nat.reduceEqDiff, Nat.reduceAdd, Nat.reduceLT, Nat.reduceMul, Nat.reduceSub, Nat.reduceLeDiff, Int.reduceLT, Int.reduceLE, Int.reduceEq, Option.isSome_some, implies_true, false_implies, Prod.mk.injEq, ne_eq, not_false_eq_true, not_true_eq_false, ge_iff_le, gt_iff_lt, Int.toNat_natCast, Int.reduceToNat, Int.cast_ofNat_Int, Int.natCast_nonneg]
                    refine LoopNext.intro (z + 1) ⟨by omega, fun j hj => ?_⟩ (by omega) ⟨[((1,0),(1,0))], rfl, ?_, ?_⟩
                    · by_cases ej : j = z
                      · subst ej; simp [altS, e, c1, c2]
                      · exact hr j (by omega)
                    · simp [wkEnv, lk, renV, renAt, renTo, w3]
                    · simp [wkMem, wkLoc, Mem.get, assoc, renBlk, renSegs, renSg, renTo, w3]
            · have ez : z = N := by omega
              simp only [absE, absL, absF, reduceCtorEq, ↓reduceIte, Nat.reduceEqDiff, Nat.reduceAdd, Nat.reduceLT, Nat.reduceMul, Nat.reduceSub, Nat.reduceLeDiff, Int.reduceLT, Int.reduceLE, Int.reduceEq, Option.isSome_some, implies_true, false_implies, Prod.mk.injEq, ne_eq, not_false_eq_true, not_true_eq_false, ge_iff_le, gt_iff_lt, Int.toNat_natCast, Int.reduceToNat, Int.cast_ofNat_Int, Int.natCast_nonneg, h3, w']
              refine LoopNext.intro (y + 1) ⟨by omega, fun j hj => ?_⟩ (by omega) ⟨[((1,0),(1,0))], rfl, ?_, ?_⟩
              · intro z' hz'
                by_cases ej : j = y
                · subst ej; exact hr z' (by omega)
                · exact hq j (by omega) z' hz'
              · simp [wkEnv, lk, renV, renAt, renTo, w']
              · simp [wkMem, wkLoc, Mem.get, assoc, renBlk, renSegs, renSg, renTo, w']
        · simp only [absE, absL, absF, reduceCtorEq, ↓reduceIte, Nat.reduceEqDiff, Nat.reduceAdd, Nat.reduceLT, Nat.reduceMul, Nat.reduceSub, Nat.reduceLeDiff, Int.reduceLT, Int.reduceLE, Int.reduceEq, Option.isSome_some, implies_true, false_implies, Prod.mk.injEq, ne_eq, not_false_eq_true, not_true_eq_false, ge_iff_le, gt_iff_lt, Int.toNat_natCast, Int.reduceToNat, Int.cast_ofNat_Int, Int.natCast_nonneg, h', w]
          refine LoopNext.intro (x + 1) ⟨by omega, fun j hj => ?_⟩ (by omega) ⟨[((1,0),(1,0))], rfl, ?_, ?_⟩
          · intro y' z' hy' hz'
            by_cases ej : j = x
            · subst ej; exact hq y' (by omega) z' hz'
            · exact hp1 j (by omega) y' z' hy' hz'
          · simp [wkEnv, lk, renV, renAt, renTo, w]
          · simp [wkMem, wkLoc, Mem.get, assoc, renBlk, renSegs, renSg, renTo, w]
    · have hf : anyB N (altS p N t) = false := anyB_false fun ⟨a, b, c, ha, hb, hc, hg⟩ => by rw [hp1 a (by omega) b c hb hc] at hg; cases hg
      simp only [absE, absL, absF, reduceCtorEq, ↓reduceIte, Nat.reduceEqDiff, Nat.reduceAdd, Nat.reduceLT, Nat.reduceMul, Nat.reduceSub, Nat.reduceLeDiff, Int.reduceLT, Int.reduceLE, Int.reduceEq, Option.isSome_some, implies_true, false_implies, Prod.mk.injEq, ne_eq, not_false_eq_true, not_true_eq_false, ge_iff_le, gt_iff_lt, Int.toNat_natCast, Int.reduceToNat, Int.cast_ofNat_Int, Int.natCast_nonneg, h, Try.results75]
      exact ⟨[], by simp, by simp, by simp [renV, renVs, renSegs, renSg, hf]⟩

end Go.Proofs.Ytcaadjjgggjefaa
