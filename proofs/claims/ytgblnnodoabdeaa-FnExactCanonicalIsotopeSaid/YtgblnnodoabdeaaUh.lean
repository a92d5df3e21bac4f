/-
Contracts of functions of the given program, by the abstract walk.
-/
import Derived.Test.YtgblnnodoabdeaaAbsY
import Derived.Test.YtgblnnodoabdeaaUg
namespace Go.Proofs.Ytgblnnodoabdeaa
open Go Go.Abs
set_option linter.unusedVariables false
set_option linter.unusedSectionVars false
set_option linter.unusedSimpArgs false
set_option maxRecDepth 100000
/-! CanonicalIsotope: the program -/
noncomputable def cbN (N x y : Nat) : Int := if x = 0 ∧ y = 0 then 0 else N
noncomputable def cbT (N : Nat) (t : List Int) (x y : Nat) : List Int := if x = 0 ∧ y = 0 then List.replicate 100 0 else mnIn (cisF N t x) (mnT (cisF N t) N (cisF N t 0 0) x) y
theorem cb_first {N : Nat} {t : List Int} : mnIn (cisF N t 0) (mnT (cisF N t) N (cisF N t 0 0) 0) 1 = cisF N t 0 0 := by
  simp only [mnIn, mnT]; exact if_neg (by rw [cmpR_self]; decide)
theorem cbT_turn {N : Nat} {t : List Int} (h : 1 ≤ N) {x : Nat} : cbT N t x N = cbT N t (x + 1) 0 := by
  unfold cbT; rw [if_neg (by omega), if_neg (by omega)]; rfl
theorem cbN_turn {N : Nat} (h : 1 ≤ N) {x : Nat} : cbN N x N = cbN N (x + 1) 0 := by
  unfold cbN; rw [if_neg (by omega), if_neg (by omega)]
theorem implCis_ok (n : Int) (t : List Int) (ht : Bytes 100 t) : ACalls Try.prog 37 [.agg (sqS n t)] [] (fun v ms ns => v = cisR n t ∧ ms = [] ∧ ns = []) := by
  refine acalls_of_body mix Try.func37 rfl fok37 (Nat.le_of_ble_eq_true rfl) ?_
  unfold abody
  simp only [absE, absL, absF, reduceCtorEq, ↓reduceIte, Nat.reduceEqDiff, Nat.reduceAdd, Nat.reduceLT, Nat.reduceMul, Nat.reduceSub, Nat.reduceLeDiff, Int.reduceLT, Int.reduceLE, Int.reduceEq, Option.isSome_some, implies_true, false_implies, Prod.mk.injEq, ne_eq, not_false_eq_true, not_true_eq_false, ge_iff_le, gt_iff_lt, Int.toNat_natCast, Int.reduceToNat, Int.cast_ofNat_Int, Int.natCast_nonneg, Try.f37]
  refine CallsVia.none (isSquare_ok n t ht) ?_
  rintro _ _ _ ⟨rfl, rfl, rfl⟩
  cases h1 : sqB n t
  · have e : cisC n t = 1 := by unfold cisC; rw [h1]; rfl
    have e2 : cisR n t = .tup [.agg (sqS 0 (List.replicate 100 0)), .i .i64 1] := by unfold cisR; rw [resSqN (by rw [e]; decide), e]
    simp only [absE, absL, absF, reduceCtorEq, ↓reduceIte, Nat.reduceEqDiff, Nat.reduceAdd, Nat.reduceLT, Nat.reduceMul, Nat.reduceSub, Nat.reduceLeDiff, Int.reduceLT, Int.reduceLE, Int.reduceEq, Option.isSome_some, implies_true, false_implies, Prod.mk.injEq, ne_eq, not_false_eq_true, not_true_eq_false, ge_iff_le, gt_iff_lt, Int.toNat_natCast, Int.reduceToNat, Int.cast_ofNat_Int, Int.natCast_nonneg, h1, Try.results37]
    exact ⟨[], by simp, by simp, by simp [renV, renVs, renSegs, renSg, e2]⟩
  · have hs := sqB_iff.1 h1
    obtain ⟨N, rfl⟩ : ∃ N : Nat, n = N := ⟨n.toNat, by have := hs.1; omega⟩
    by_cases h3 : (7 : Int) < N
    · have e : cisC N t = 3 := by unfold cisC; rw [h1, if_pos h3]; rfl
      have e2 : cisR N t = .tup [.agg (sqS 0 (List.replicate 100 0)), .i .i64 3] := by unfold cisR; rw [resSqN (by rw [e]; decide), e]
      simp only [absE, absL, absF, reduceCtorEq, ↓reduceIte, Nat.reduceEqDiff, Nat.reduceAdd, Nat.reduceLT, Nat.reduceMul, Nat.reduceSub, Nat.reduceLeDiff, Int.reduceLT, Int.reduceLE, Int.reduceEq, Option.isSome_some, implies_true, false_implies, Prod.mk.injEq, ne_eq, not_false_eq_true, not_true_eq_false, ge_iff_le, gt_iff_lt, Int.toNat_natCast, Int.reduceToNat, Int.cast_ofNat_Int, Int.natCast_nonneg, h1, h3, Try.results37]
      exact ⟨[], by simp, by simp, by simp [renV, renVs, renSegs, renSg, e2]⟩
    · have e : cisC N t = 0 := by unfold cisC; rw [h1, if_neg h3]; rfl
      have e2 : cisR N t = .tup [.agg (sqS N (cisT N t)), .i .i64 0] := by unfold cisR; rw [resSq0 e, if_pos e, Int.toNat_natCast]
      have hN := hs.le
      have h0 := hs.pos
      simp only [absE, absL, absF, reduceCtorEq, ↓reduceIte, Nat.reduceEqDiff, Nat.reduceAdd, Nat.reduceLT, Nat.reduceMul, Nat.reduceSub, Nat.reduceLeDiff, Int.reduceLT, Int.reduceLE, Int.reduceEq, Option.isSome_some, implies_true, false_implies, Prod.mk.injEq, ne_eq, not_false_eq_true, not_true_eq_false, ge_iff_le, gt_iff_lt, Int.toNat_natCast, Int.reduceToNat, Int.cast_ofNat_Int, Int.natCast_nonneg, h1, h3]
      refine CallsVia.none (elements_ok N t hN) ?_
      rintro _ _ _ ⟨rfl, rfl, rfl⟩
      simp only [absE, absL, absF, reduceCtorEq, ↓reduceIte, Nat.reduceEqDiff, Nat.reduceAdd, Nat.reduceLT, Nat.reduceMul, Nat.reduceSub, Nat.reduceLeDiff, Int.reduceLT, Int.reduceLE, Int.reduceEq, Option.isSome_some, implies_true, false_implies, Prod.mk.injEq, ne_eq, not_false_eq_true, not_true_eq_false, ge_iff_le, gt_iff_lt, Int.toNat_natCast, Int.reduceToNat, Int.cast_ofNat_Int, Int.natCast_nonneg]
      refine awpLoop.intro (fun x : Nat => [(1, .ref (.ptr 1 0 0 0)), (2, .ref (.ptr 2 0 0 0)), (4, .ref (.ptr 13 0 0 0)), (22, .ref (.sl 16 0 0 0 N 1)), (23, .i .i64 N), (24, .i .i64 x), (3, .i .i64 0)]) (fun x => ⟨[], [((1, 0), .lv true (sqS N t)), ((2, 0), .lv true (sqS 0 (List.replicate 100 0))), ((13, 0), .lv true (sqS (cbN N x 0) (cbT N t x 0))), ((16, 0), .lv true ([(0, .ints .u8 N (bytesTo N))]))], 30⟩) (fun x => x ≤ N) (fun x => N - x) 0 (by omega) ⟨[((1,0),(1,0)), ((2,0),(2,0)), ((13,0),(13,0)), ((16,0),(16,0))], rfl, ?_, ?_⟩ ?_
      · simp [wkEnv, lk, renV, renAt, renTo, cbN, cbT]
      · simp [wkMem, wkLoc, Mem.get, assoc, renBlk, renSegs, renSg, renTo, cbN, cbT]
      · intro x hx
        by_cases h : (x : Int) < N
        · have w := wrap_i64s (show x < 2 ^ 62 by omega)
          have hx' : x < N := by omega
          have b1 : (bytesTo N).getD (0 + x * 1) 0 = (x : Int) := by rw [Nat.zero_add, Nat.mul_one]; exact bytesTo_get (by omega)
          have v1 : 0 + x * 1 < N := by omega
          simp only [absE, absL, absF, reduceCtorEq, ↓reduceIte, Nat.reduceEqDiff, Nat.reduceAdd, Nat.reduceLT, Nat.reduceMul, Nat.reduceSub, Nat.reduceLeDiff, Int.reduceLT, Int.reduceLE, Int.reduceEq, Option.isSome_some, implies_true, false_implies, Prod.mk.injEq, ne_eq, not_false_eq_true, not_true_eq_false, ge_iff_le, gt_iff_lt, Int.toNat_natCast, Int.reduceToNat, Int.cast_ofNat_Int, Int.natCast_nonneg, h, b1, v1]
          refine CallsVia.none (elements_ok N t hN) ?_
          rintro _ _ _ ⟨rfl, rfl, rfl⟩
          simp only [absE, absL, absF, reduceCtorEq, ↓reduceIte, Nat.reduceEqDiff, Nat.reduceAdd, Nat.reduceLT, Nat.reduceMul, Nat.reduceSub, Nat.reduceLeDiff, Int.reduceLT, Int.reduceLE, Int.reduceEq, Option.isSome_some, implies_true, false_implies, Prod.mk.injEq, ne_eq, not_false_eq_true, not_true_eq_false, ge_iff_le, gt_iff_lt, Int.toNat_natCast, Int.reduceToNat, Int.cast_ofNat_Int, Int.natCast_nonneg]
          refine awpLoop.intro (fun y : Nat => [(1, .ref (.ptr 1 0 0 0)), (2, .ref (.ptr 2 0 0 0)), (4, .ref (.ptr 13 0 0 0)), (22, .ref (.sl 16 0 0 0 N 1)), (23, .i .i64 N), (24, .i .i64 x), (6, .i .u8 x), (29, .ref (.sl 35 0 0 0 N 1)), (30, .i .i64 N), (31, .i .i64 y), (3, .i .i64 0)]) (fun y => ⟨[], [((1, 0), .lv true (sqS N t)), ((2, 0), .lv true (sqS 0 (List.replicate 100 0))), ((13, 0), .lv true (sqS (cbN N x y) (cbT N t x y))), ((16, 0), .lv true ([(0, .ints .u8 N (bytesTo N))])), ((35, 0), .lv true ([(0, .ints .u8 N (bytesTo N))]))], 50⟩) (fun y => y ≤ N) (fun y => N - y) 0 (by omega) ⟨[((1,0),(1,0)), ((2,0),(2,0)), ((13,0),(13,0)), ((16,0),(16,0)), ((35,0),(35,0))], rfl, ?_, ?_⟩ ?_
          · simp [wkEnv, lk, renV, renAt, renTo]
          · simp [wkMem, wkLoc, Mem.get, assoc, renBlk, renSegs, renSg, renTo]
          · intro y hy
            by_cases h' : (y : Int) < N
            · have w' := wrap_i64s (show y < 2 ^ 62 by omega)
              have hy' : y < N := by omega
              have b2 : (bytesTo N).getD (0 + y * 1) 0 = (y : Int) := by rw [Nat.zero_add, Nat.mul_one]; exact bytesTo_get (by omega)
              have v2 : 0 + y * 1 < N := by omega
              have hF := cisF_bytes hs hx' hy'
              simp only [absE, absL, absF, reduceCtorEq, ↓reduceIte, Nat.reduceEqDiff, Nat.reduceAdd, Nat.reduceLT, Nat.reduceMul, Nat.reduceSub, Nat.reduceLeDiff, Int.reduceLT, Int.reduceLE, Int.reduceEq, Option.isSome_some, implies_true, false_implies, Prod.mk.injEq, ne_eq, not_false_eq_true, not_true_eq_false, ge_iff_le, gt_iff_lt, Int.toNat_natCast, Int.reduceToNat, Int.cast_ofNat_Int, Int.natCast_nonneg, h', b2, v2]
              refine CallsX.none (implTo_ok N t x y ht hs hx' hy') ?_
              simp only [absE, absL, absF, reduceCtorEq, ↓reduceIte, Nat.reduceEqDiff, Nat.reduceAdd, Nat.reduceLT, Nat.reduceMul, Nat.reduceSub, Nat.reduceLeDiff, Int.reduceLT, Int.reduceLE, Int.reduceEq, Option.isSome_some, implies_true, false_implies, Prod.mk.injEq, ne_eq, not_false_eq_true, not_true_eq_false, ge_iff_le, gt_iff_lt, Int.toNat_natCast, Int.reduceToNat, Int.cast_ofNat_Int, Int.natCast_nonneg]
              repeat refine And.intro (by decide +kernel) ?_
              refine CallsX.none (isotope_ok N t _ _ _ ht (toA_bytes hs hx' hy') (toB_bytes hs hx' hy') (swL_bytes hN (hs.cl_lt hx' hy')) hs (toA_perm hs hx' hy') (toB_perm hs hx' hy')) ?_
              simp only [absE, absL, absF, reduceCtorEq, ↓reduceIte, Nat.reduceEqDiff, Nat.reduceAdd, Nat.reduceLT, Nat.reduceMul, Nat.reduceSub, Nat.reduceLeDiff, Int.reduceLT, Int.reduceLE, Int.reduceEq, Option.isSome_some, implies_true, false_implies, Prod.mk.injEq, ne_eq, not_false_eq_true, not_true_eq_false, ge_iff_le, gt_iff_lt, Int.toNat_natCast, Int.reduceToNat, Int.cast_ofNat_Int, Int.natCast_nonneg]
              repeat refine And.intro (by decide +kernel) ?_
              refine CallsX.none (canonical_ok N (isoAt N t x y) (isoAt_bytes hs hx' hy') (isoAt_sq hs hx' hy')) ?_
              simp only [absE, absL, absF, reduceCtorEq, ↓reduceIte, Nat.reduceEqDiff, Nat.reduceAdd, Nat.reduceLT, Nat.reduceMul, Nat.reduceSub, Nat.reduceLeDiff, Int.reduceLT, Int.reduceLE, Int.reduceEq, Option.isSome_some, implies_true, false_implies, Prod.mk.injEq, ne_eq, not_false_eq_true, not_true_eq_false, ge_iff_le, gt_iff_lt, Int.toNat_natCast, Int.reduceToNat, Int.cast_ofNat_Int, Int.natCast_nonneg]
              repeat refine And.intro (by decide +kernel) ?_
              rw [show canT N (isoAt N t x y) = cisF N t x y from rfl]
              by_cases hz : x = 0 ∧ y = 0
              · obtain ⟨rfl, rfl⟩ := hz
                have c0 : cbN N 0 0 = 0 := by simp [cbN]
                have c1 : cbN N 0 (0 + 1) = N := by simp [cbN]
                have c2 : cbT N t 0 (0 + 1) = cisF N t 0 0 := by unfold cbT; rw [if_neg (by omega)]; exact cb_first
                simp only [absE, absL, absF, reduceCtorEq, ↓reduceIte, Nat.reduceEqDiff, Nat.reduceAdd, Nat.reduceLT, Nat.reduceMul, Nat.reduceSub, Nat.reduceLeDiff, Int.reduceLT, Int.reduceLE, Int.reduceEq, Option.isSome_some, implies_true, false_implies, Prod.mk.injEq, ne_eq, not_false_eq_true, not_true_eq_false, ge_iff_le, gt_iff_lt, Int.toNat_natCast, Int.reduceToNat, Int.cast_ofNat_Int, Int.natCast_nonneg, c0]
                refine LoopNext.intro (0 + 1) (by omega) (by omega) ⟨[((1,0),(1,0)), ((2,0),(2,0)), ((13,0),(13,0)), ((16,0),(16,0)), ((35,0),(35,0))], rfl, ?_, ?_⟩
                · simp [wkEnv, lk, renV, renAt, renTo]; decide
                · rw [c1, c2]; simp [wkMem, wkLoc, Mem.get, assoc, renBlk, renSegs, renSg, renTo]
              · have c0 : cbN N x y = N := by unfold cbN; rw [if_neg hz]
                have c1 : cbN N x (y + 1) = N := by unfold cbN; rw [if_neg (by omega)]
                have c2 : cbT N t x y = mnIn (cisF N t x) (mnT (cisF N t) N (cisF N t 0 0) x) y := by unfold cbT; rw [if_neg hz]
                have c3 : cbT N t x (y + 1) = mnIn (cisF N t x) (mnT (cisF N t) N (cisF N t 0 0) x) (y + 1) := by unfold cbT; rw [if_neg (by omega)]
                have hb : Bytes 100 (mnIn (cisF N t x) (mnT (cisF N t) N (cisF N t 0 0) x) y) := mnIn_bytes (mnT_bytes (cisF_bytes hs h0 h0) fun i j hi hj => cisF_bytes hs (by omega) hj) fun j hj => cisF_bytes hs hx' (by omega)
                have n0 : ¬ (N : Int) = 0 := by omega
                simp only [absE, absL, absF, reduceCtorEq, ↓reduceIte, Nat.reduceEqDiff, Nat.reduceAdd, Nat.reduceLT, Nat.reduceMul, Nat.reduceSub, Nat.reduceLeDiff, Int.reduceLT, Int.reduceLE, Int.reduceEq, Option.isSome_some, implies_true, false_implies, Prod.mk.injEq, ne_eq, not_false_eq_true, not_true_eq_false, ge_iff_le, gt_iff_lt, Int.toNat_natCast, Int.reduceToNat, Int.cast_ofNat_Int, Int.natCast_nonneg, c0, c2, n0]
                refine CallsVia.none (compareTables_ok N N (cisF N t x y) (mnIn (cisF N t x) (mnT (cisF N t) N (cisF N t 0 0) x) y) hF hb) ?_
                rintro _ _ _ ⟨rfl, rfl, rfl⟩
                by_cases hc : cmpR (cisF N t x y) (mnIn (cisF N t x) (mnT (cisF N t) N (cisF N t 0 0) x) y) < 0
                · simp only [absE, absL, absF, reduceCtorEq, ↓reduceIte, Nat.reduceEqDiff, Nat.reduceAdd, Nat.reduceLT, Nat.reduceMul, Nat.reduceSub, Nat.reduceLeDiff, Int.reduceLT, Int.reduceLE, Int.reduceEq, Option.isSome_some, implies_true, false_implies, Prod.mk.injEq, ne_eq, not_false_eq_true, not_true_eq_false, ge_iff_le, gt_iff_lt, Int.toNat_natCast, Int.reduceToNat, Int.cast_ofNat_Int, Int.natCast_nonneg, hc]
                  refine LoopNext.intro (y + 1) (by omega) (by omega) ⟨[((1,0),(1,0)), ((2,0),(2,0)), ((13,0),(13,0)), ((16,0),(16,0)), ((35,0),(35,0))], rfl, ?_, ?_⟩
                  · simp [wkEnv, lk, renV, renAt, renTo, w']
                  · rw [c1, c3, mnIn, if_pos hc]; simp [wkMem, wkLoc, Mem.get, assoc, renBlk, renSegs, renSg, renTo]
                · simp only [absE, absL, absF, reduceCtorEq, ↓reduceIte, Nat.reduceEqDiff, Nat.reduceAdd, Nat.reduceLT, Nat.reduceMul, Nat.reduceSub, Nat.reduceLeDiff, Int.reduceLT, Int.reduceLE, Int.reduceEq, Option.isSome_some, implies_true, false_implies, Prod.mk.injEq, ne_eq, not_false_eq_true, not_true_eq_false, ge_iff_le, gt_iff_lt, Int.toNat_natCast, Int.reduceToNat, Int.cast_ofNat_Int, Int.natCast_nonneg, hc]
                  refine LoopNext.intro (y + 1) (by omega) (by omega) ⟨[((1,0),(1,0)), ((2,0),(2,0)), ((13,0),(13,0)), ((16,0),(16,0)), ((35,0),(35,0))], rfl, ?_, ?_⟩
                  · simp [wkEnv, lk, renV, renAt, renTo, w']
                  · rw [c1, c3, mnIn, if_neg hc]; simp [wkMem, wkLoc, Mem.get, assoc, renBlk, renSegs, renSg, renTo]
            · obtain rfl : y = N := by omega
              simp only [absE, absL, absF, reduceCtorEq, ↓reduceIte, Nat.reduceEqDiff, Nat.reduceAdd, Nat.reduceLT, Nat.reduceMul, Nat.reduceSub, Nat.reduceLeDiff, Int.reduceLT, Int.reduceLE, Int.reduceEq, Option.isSome_some, implies_true, false_implies, Prod.mk.injEq, ne_eq, not_false_eq_true, not_true_eq_false, ge_iff_le, gt_iff_lt, Int.toNat_natCast, Int.reduceToNat, Int.cast_ofNat_Int, Int.natCast_nonneg, h', w, cbT_turn h0, cbN_turn h0]
              refine LoopNext.intro (x + 1) (by omega) (by omega) ⟨[((1,0),(1,0)), ((2,0),(2,0)), ((13,0),(13,0)), ((16,0),(16,0))], rfl, ?_, ?_⟩
              · simp [wkEnv, lk, renV, renAt, renTo]
              · simp [wkMem, wkLoc, Mem.get, assoc, renBlk, renSegs, renSg, renTo]
        · obtain rfl : x = N := by omega
          have c0 : cbN x x 0 = x := by unfold cbN; rw [if_neg (by omega)]
          have c2 : cbT x t x 0 = cisT x t := by unfold cbT; rw [if_neg (by omega)]; rfl
          simp only [absE, absL, absF, reduceCtorEq, ↓reduceIte, Nat.reduceEqDiff, Nat.reduceAdd, Nat.reduceLT, Nat.reduceMul, Nat.reduceSub, Nat.reduceLeDiff, Int.reduceLT, Int.reduceLE, Int.reduceEq, Option.isSome_some, implies_true, false_implies, Prod.mk.injEq, ne_eq, not_false_eq_true, not_true_eq_false, ge_iff_le, gt_iff_lt, Int.toNat_natCast, Int.reduceToNat, Int.cast_ofNat_Int, Int.natCast_nonneg, h, c0, c2, Try.results37]
          exact ⟨[], by simp, by simp, by rw [e2]; simp [renV, renVs, renSegs, renSg], by simp, by simp⟩

end Go.Proofs.Ytgblnnodoabdeaa
