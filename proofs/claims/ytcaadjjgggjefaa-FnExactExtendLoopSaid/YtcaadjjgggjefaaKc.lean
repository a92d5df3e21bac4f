/-
Contracts of functions of the given program, by the abstract walk.
-/
import Derived.Test.YtcaadjjgggjefaaAbsY
import Derived.Test.YtcaadjjgggjefaaKb
namespace Go.Proofs.Ytcaadjjgggjefaa
open Go Go.Abs
set_option linter.unusedVariables false
set_option linter.unusedSectionVars false
set_option linter.unusedSimpArgs false
set_option maxRecDepth 100000
theorem sol1_ok (N : Nat) (LL : LLs) (hN : N ≤ 10) (hl : LL.length = N) (h : SolP N LL) (x y : Nat) (hx : x < N) (hy : y < N) :
    ACalls Try.prog 84 [.i .u8 x, .i .u8 y, .ref (.ptr 0 0 0 0)] (msE [] LL) (fun v ms ns => v = .i .u8 (cv LL x y) ∧ ms = msE [] LL ∧ ns = []) := by
  have hxl : x < LL.length := by omega
  have g0 : (msE [] LL).getD 0 .dead = .lv true [(0, .cells 1 [.sl 0 1 0 0 LL.length 1])] := rfl
  have g1 : (msE [] LL).getD 1 .dead = .lv true [(0, .cells LL.length (outs 0 2 LL))] := rfl
  have e1 : (outs 0 2 LL).getD (0 + x * 1) .top = .sl 0 (2 + x) 0 0 (at_ LL x).length 1 := by rw [Nat.zero_add, Nat.mul_one]; exact outs_get hxl
  have q1 : (msE [] LL).getD (2 + x) .dead = .lv true [(0, .ints .i64 (at_ LL x).length (at_ LL x))] := by have := msE_row (pre := []) hxl; rwa [List.length_nil, Nat.zero_add] at this
  have e2 : (at_ LL x).getD (0 + y * 1) 0 = ((cv LL x y : Nat) : Int) := by
    rw [Nat.zero_add, Nat.mul_one]
    have := (h x hx).2 y hy
    unfold cv; omega
  have hc : cv LL x y < 256 := by have := (h x hx).2 y hy; unfold cv; omega
  have w8 := wrap_u8n hc
  have lx := (h x hx).1
  have i1 : (x : Int) < LL.length := by omega
  have i2 : (y : Int) < (at_ LL x).length := by omega
  have v1 : 0 + x * 1 < LL.length := by omega
  have v2 : 0 + y * 1 < (at_ LL x).length := by omega
  refine acalls_of_body mix Try.func84 rfl fok84 (Nat.le_of_ble_eq_true rfl) ?_
  unfold abody
  simp only [absE, absL, absF, reduceCtorEq, ↓reduceIte, Nat.reduceEqDiff, Nat.reduceAdd, Nat.reduceLT, Nat.reduceMul, Nat.reduceSub, Nat.reduceLeDiff, Int.reduceLT, Int.reduceLE, Int.reduceEq, Option.isSome_some, implies_true, false_implies, Prod.mk.injEq, ne_eq, not_false_eq_true, not_true_eq_false, ge_iff_le, gt_iff_lt, Int.toNat_natCast, Int.reduceToNat, Int.cast_ofNat_Int, Int.natCast_nonneg, i1, i2, v1, v2, g0, g1, e1, q1, e2, w8, Try.f84, Try.results84]
  exact ⟨[], by simp, by simp, by simp [renV], msE_st (fun _ => rfl) _ fun k _ => renFin_zero k, by simp⟩
theorem SolP.not_len {N : Nat} {LL : LLs} {x : Nat} (hx : x < N) (h : (at_ LL x).length ≠ N) : ¬SolP N LL := fun hs => h (hs x hx).1
theorem SolP.not_val {N : Nat} {LL : LLs} {x y : Nat} (hx : x < N) (hy : y < N) (h : ¬(0 ≤ (at_ LL x).getD y 0 ∧ (at_ LL x).getD y 0 ≤ (N : Int) - 1)) : ¬SolP N LL := fun hs => h ((hs x hx).2 y hy)
theorem solB_no {LL : LLs} (h : ¬SolP LL.length LL) : solB LL = false := solB_false fun hh => h hh.2.2
theorem specSol_ok (LL : LLs) (hl : ∀ i, i < LL.length → (at_ LL i).length ≤ 2 ^ 20) (hm : LL.length ≤ 2 ^ 20) :
    ACalls Try.prog 44 [.ref (.sl 0 0 0 0 LL.length 1)] (ms1 LL) (fun v ms ns => v = solR LL ∧ ms = ms1 LL ∧ ns = []) := by
  have g0 := ms1_0 (LL := LL)
  have hst : ∀ σ : Pairs, (ms1 LL).map (renBlk (renTo σ)) = ms1 LL := fun σ => ms1_ren renTo_zero
  have hfin : (ms1 LL).map (renBlk (renFin [])) = ms1 LL := ms1_ren renFin_zero
  refine acalls_of_body mix Try.func44 rfl fok44 (Nat.le_of_ble_eq_true rfl) ?_
  unfold abody
  simp only [absE, absL, absF, reduceCtorEq, ↓reduceIte, Nat.reduceEqDiff, Nat.reduceAdd, Nat.reduceLT, Nat.reduceMul, Nat.reduceSub, Nat.reduceLeDiff, Int.reduceLT, Int.reduceLE, Int.reduceEq, Option.isSome_some, implies_true, false_implies, Prod.mk.injEq, ne_eq, not_false_eq_true, not_true_eq_false, ge_iff_le, gt_iff_lt, Int.toNat_natCast, Int.reduceToNat, Int.cast_ofNat_Int, Int.natCast_nonneg, Try.f44]
  refine CallsVia.none (l01In_ok LL.length 1 10) ?_
  rintro _ _ _ ⟨rfl, rfl, rfl⟩
  by_cases h1 : (1 : Int) ≤ LL.length ∧ (LL.length : Int) ≤ 10
  · generalize hN : LL.length = N at h1 hm ⊢
    have hN10 : N ≤ 10 := by omega
    have hn1 : IntKind.i64.wrap ((N : Int) - 1) = (N : Int) - 1 := wrap_i64 (by omega) (by omega)
    simp only [absE, absL, absF, reduceCtorEq, ↓reduceIte, Nat.reduceEqDiff, Nat.reduceAdd, Nat.reduceLT, Nat.reduceMul, Nat.reduceSub, Nat.reduceLeDiff, Int.reduceLT, Int.reduceLE, Int.reduceEq, Option.isSome_some, implies_true, false_implies, Prod.mk.injEq, ne_eq, not_false_eq_true, not_true_eq_false, ge_iff_le, gt_iff_lt, Int.toNat_natCast, Int.reduceToNat, Int.cast_ofNat_Int, Int.natCast_nonneg, h1]
    refine awpLoop.intro (fun x : Nat => [(0, .ref (.sl 0 0 0 0 N 1)), (2, .ref (.ptr 1 0 0 0)), (4, .i .i64 N), (5, .ref (.ptr 11 0 0 0)), (6, .i .i64 x)]) (fun x => ⟨ms1 LL, [((1, 0), .lv true (sqS 0 (List.replicate 100 0))), ((11, 0), .lv true (sqS N (mkT (cv LL) N x)))], 14⟩)
      (fun x => x ≤ N ∧ ∀ j, j < x → (at_ LL j).length = N ∧ ∀ y, y < N → 0 ≤ (at_ LL j).getD y 0 ∧ (at_ LL j).getD y 0 ≤ (N : Int) - 1) (fun x => N - x) 0 ⟨by omega, fun j hj => absurd hj (by omega)⟩ ⟨[((1,0),(1,0)), ((11,0),(11,0))], rfl, ?_, ?_⟩ ?_
    · simp [wkEnv, lk, renV, renAt, renTo]
    · simp only [wkMem, hst]; simp [wkLoc, Mem.get, assoc, renBlk, renSegs, renSg, mkT]
    · rintro x ⟨hx, hp⟩
      by_cases h : (x : Int) < N
      · have w := wrap_i64s (show x < 2 ^ 62 by omega)
        have hxl : x < LL.length := by omega
        have v1 : 0 + x * 1 < LL.length := by omega
        have v1' : 0 + x * 1 < N := by omega
        have e1 : (outs 0 1 LL).getD (0 + x * 1) .top = .sl 0 (1 + x) 0 0 (at_ LL x).length 1 := by rw [Nat.zero_add, Nat.mul_one]; exact outs_get hxl
        have q1 : (ms1 LL).getD (1 + x) .dead = .lv true [(0, .ints .i64 (at_ LL x).length (at_ LL x))] := ms1_at hxl
        by_cases h2 : (at_ LL x).length = N
        · have h2i : ((at_ LL x).length : Int) = N := by omega
          simp only [absE, absL, absF, reduceCtorEq, ↓reduceIte, Nat.reduceEqDiff, Nat.reduceAdd, Nat.reduceLT, Nat.reduceMul, Nat.reduceSub, Nat.reduceLeDiff, Int.reduceLT, Int.reduceLE, Int.reduceEq, Option.isSome_some, implies_true, false_implies, Prod.mk.injEq, ne_eq, not_false_eq_true, not_true_eq_false, ge_iff_le, gt_iff_lt, Int.toNat_natCast, Int.reduceToNat, Int.cast_ofNat_Int, Int.natCast_nonneg, h, v1, v1', e1, g0, h2, h2i]
          refine awpLoop.intro (fun y : Nat => [(0, .ref (.sl 0 0 0 0 N 1)), (2, .ref (.ptr 1 0 0 0)), (4, .i .i64 N), (5, .ref (.ptr 11 0 0 0)), (6, .i .i64 x), (7, .i .i64 y)]) (fun y => ⟨ms1 LL, [((1, 0), .lv true (sqS 0 (List.replicate 100 0))), ((11, 0), .lv true (sqS N (mkIn (cv LL) x (mkT (cv LL) N x) y)))], 21⟩)
            (fun y => y ≤ N ∧ ∀ j, j < y → 0 ≤ (at_ LL x).getD j 0 ∧ (at_ LL x).getD j 0 ≤ (N : Int) - 1) (fun y => N - y) 0 ⟨by omega, fun j hj => absurd hj (by omega)⟩ ⟨[((1,0),(1,0)), ((11,0),(11,0))], rfl, ?_, ?_⟩ ?_
          · simp [wkEnv, lk, renV, renAt, renTo]
          · simp only [wkMem, hst]; simp [wkLoc, Mem.get, assoc, renBlk, renSegs, renSg, mkIn]
          · rintro y ⟨hy, hq⟩
            by_cases h' : (y : Int) < N
            · have w' := wrap_i64s (show y < 2 ^ 62 by omega)
              have v2 : 0 + y * 1 < (at_ LL x).length := by omega
              have v2' : 0 + y * 1 < N := by omega
              have e2 : (at_ LL x).getD (0 + y * 1) 0 = (at_ LL x).getD y 0 := by rw [Nat.zero_add, Nat.mul_one]
              have i1 : (x : Int) < 10 := by omega
              have i2 : (y : Int) < 10 := by omega
              have u2 : 0 + x * 10 + y * 1 + 1 ≤ 100 := by omega
              simp only [absE, absL, absF, reduceCtorEq, ↓reduceIte, Nat.reduceEqDiff, Nat.reduceAdd, Nat.reduceLT, Nat.reduceMul, Nat.reduceSub, Nat.reduceLeDiff, Int.reduceLT, Int.reduceLE, Int.reduceEq, Option.isSome_some, implies_true, false_implies, Prod.mk.injEq, ne_eq, not_false_eq_true, not_true_eq_false, ge_iff_le, gt_iff_lt, Int.toNat_natCast, Int.reduceToNat, Int.cast_ofNat_Int, Int.natCast_nonneg, h, h', v1, v1', v2, v2', e1, q1, e2, g0, h2, hn1]
              refine CallsVia.none (l01In_ok ((at_ LL x).getD y 0) 0 ((N : Int) - 1)) ?_
              rintro _ _ _ ⟨rfl, rfl, rfl⟩
              by_cases h3 : 0 ≤ (at_ LL x).getD y 0 ∧ (at_ LL x).getD y 0 ≤ (N : Int) - 1
              · have hcv : (at_ LL x).getD y 0 = ((cv LL x y : Nat) : Int) := by unfold cv; omega
                have hc : cv LL x y < 256 := by unfold cv; omega
                have w8 := wrap_u8n hc
                have ez : (mkIn (cv LL) x (mkT (cv LL) N x) y).set (0 + x * 10 + y * 1) ((cv LL x y : Nat) : Int) = mkIn (cv LL) x (mkT (cv LL) N x) (y + 1) := rfl
                have h3t : decide (0 ≤ (at_ LL x).getD y 0 ∧ (at_ LL x).getD y 0 ≤ (N : Int) - 1) = true := decide_eq_true h3
                rw [hcv] at h3t
                have h3d := of_decide_eq_true h3t
                have h3e : ((cv LL x y : Nat) : Int) ≤ (N : Int) - 1 := h3d.2
                simp only [absE, absL, absF, reduceCtorEq, ↓reduceIte, Nat.reduceEqDiff, Nat.reduceAdd, Nat.reduceLT, Nat.reduceMul, Nat.reduceSub, Nat.reduceLeDiff, Int.reduceLT, Int.reduceLE, Int.reduceEq, Option.isSome_some, implies_true, false_implies, Prod.mk.injEq, ne_eq, not_false_eq_true, not_true_eq_false, ge_iff_le, gt_iff_lt, Int.toNat_natCast, Int.reduceToNat, Int.cast_ofNat_Int, Int.natCast_nonneg, h, h', hcv, h3e, v1, v1', v2, v2', e1, q1, e2, g0, h2, i1, i2, u2, w8, ez]
                repeat refine And.intro (by decide +kernel) ?_
                refine LoopNext.intro (y + 1) ⟨by omega, fun j hj => ?_⟩ (by omega) ⟨[((1,0),(1,0)), ((11,0),(11,0))], rfl, ?_, ?_⟩
                · by_cases ej : j = y
                  · subst ej; exact h3
                  · exact hq j (by omega)
                · simp [wkEnv, lk, renV, renAt, renTo, w']
                · simp only [wkMem, hst]; simp [wkLoc, Mem.get, assoc, renBlk, renSegs, renSg]
              · have e := solR_2 (solB_no (LL := LL) (by rw [hN]; exact SolP.not_val (show x < N by omega) (show y < N by omega) h3))
                simp only [absE, absL, absF, reduceCtorEq, ↓reduceIte, Nat.reduceEqDiff, Nat.reduceAdd, Nat.reduceLT, Nat.reduceMul, Nat.reduceSub, Nat.reduceLeDiff, Int.reduceLT, Int.reduceLE, Int.reduceEq, Option.isSome_some, implies_true, false_implies, Prod.mk.injEq, ne_eq, not_false_eq_true, not_true_eq_false, ge_iff_le, gt_iff_lt, Int.toNat_natCast, Int.reduceToNat, Int.cast_ofNat_Int, Int.natCast_nonneg, h3, Try.results44]
                exact ⟨[], by simp, by simp, by simp [renV, renVs, renSegs, renSg, e], hfin, by simp⟩
            · obtain rfl : y = N := by omega
              simp only [absE, absL, absF, reduceCtorEq, ↓reduceIte, Nat.reduceEqDiff, Nat.reduceAdd, Nat.reduceLT, Nat.reduceMul, Nat.reduceSub, Nat.reduceLeDiff, Int.reduceLT, Int.reduceLE, Int.reduceEq, Option.isSome_some, implies_true, false_implies, Prod.mk.injEq, ne_eq, not_false_eq_true, not_true_eq_false, ge_iff_le, gt_iff_lt, Int.toNat_natCast, Int.reduceToNat, Int.cast_ofNat_Int, Int.natCast_nonneg, h, h', v1, v1', e1, g0, h2, h2i]
              refine LoopNext.intro (x + 1) ⟨by omega, fun j hj => ?_⟩ (by omega) ⟨[((1,0),(1,0)), ((11,0),(11,0))], rfl, ?_, ?_⟩
              · by_cases ej : j = x
                · subst ej; exact ⟨h2, hq⟩
                · exact hp j (by omega)
              · simp [wkEnv, lk, renV, renAt, renTo, w]
              · simp only [wkMem, hst]; simp [wkLoc, Mem.get, assoc, renBlk, renSegs, renSg, mkT]
        · have h2i : ¬((at_ LL x).length : Int) = N := by omega
          have e := solR_2 (solB_no (LL := LL) (by rw [hN]; exact SolP.not_len (show x < N by omega) h2))
          simp only [absE, absL, absF, reduceCtorEq, ↓reduceIte, Nat.reduceEqDiff, Nat.reduceAdd, Nat.reduceLT, Nat.reduceMul, Nat.reduceSub, Nat.reduceLeDiff, Int.reduceLT, Int.reduceLE, Int.reduceEq, Option.isSome_some, implies_true, false_implies, Prod.mk.injEq, ne_eq, not_false_eq_true, not_true_eq_false, ge_iff_le, gt_iff_lt, Int.toNat_natCast, Int.reduceToNat, Int.cast_ofNat_Int, Int.natCast_nonneg, h, v1, v1', e1, g0, h2i, Try.results44]
          exact ⟨[], by simp, by simp, by simp [renV, renVs, renSegs, renSg, e], hfin, by simp⟩
      · obtain rfl : x = N := by omega
        have hsol : solB LL = true := solB_true ⟨by omega, by omega, by rw [hN]; exact fun j hj => hp j hj⟩
        have hby : Bytes 100 (mkT (cv LL) x x) := mkT_bytes hN10 fun a b ha hb => by have := (hp a ha).2 b hb; unfold cv; omega
        simp only [absE, absL, absF, reduceCtorEq, ↓reduceIte, Nat.reduceEqDiff, Nat.reduceAdd, Nat.reduceLT, Nat.reduceMul, Nat.reduceSub, Nat.reduceLeDiff, Int.reduceLT, Int.reduceLE, Int.reduceEq, Option.isSome_some, implies_true, false_implies, Prod.mk.injEq, ne_eq, not_false_eq_true, not_true_eq_false, ge_iff_le, gt_iff_lt, Int.toNat_natCast, Int.reduceToNat, Int.cast_ofNat_Int, Int.natCast_nonneg, h]
        refine CallsVia.none (l01Is_ok x (mkT (cv LL) x x) hby) ?_
        rintro _ _ _ ⟨rfl, rfl, rfl⟩
        cases h5 : sqB x (mkT (cv LL) x x)
        · have e := solR_5 hsol (by rw [hN]; exact h5)
          simp only [absE, absL, absF, reduceCtorEq, ↓reduceIte, Nat.reduceEqDiff, Nat.reduceAdd, Nat.reduceLT, Nat.reduceMul, Nat.reduceSub, Nat.reduceLeDiff, Int.reduceLT, Int.reduceLE, Int.reduceEq, Option.isSome_some, implies_true, false_implies, Prod.mk.injEq, ne_eq, not_false_eq_true, not_true_eq_false, ge_iff_le, gt_iff_lt, Int.toNat_natCast, Int.reduceToNat, Int.cast_ofNat_Int, Int.natCast_nonneg, Try.results44]
          exact ⟨[], by simp, by simp, by simp [renV, renVs, renSegs, renSg, e], hfin, by simp⟩
        · have e := solR_0 hsol (by rw [hN]; exact h5)
          simp only [absE, absL, absF, reduceCtorEq, ↓reduceIte, Nat.reduceEqDiff, Nat.reduceAdd, Nat.reduceLT, Nat.reduceMul, Nat.reduceSub, Nat.reduceLeDiff, Int.reduceLT, Int.reduceLE, Int.reduceEq, Option.isSome_some, implies_true, false_implies, Prod.mk.injEq, ne_eq, not_false_eq_true, not_true_eq_false, ge_iff_le, gt_iff_lt, Int.toNat_natCast, Int.reduceToNat, Int.cast_ofNat_Int, Int.natCast_nonneg, Try.results44]
          exact ⟨[], by simp, by simp, by simp [renV, renVs, renSegs, renSg, e, hN], hfin, by simp⟩
  · have e := solR_2 (solB_false (LL := LL) fun hh => h1 ⟨by omega, by omega⟩)
    simp only [absE, absL, absF, reduceCtorEq, ↓reduceIte, Nat.reduceEqDiff, Nat.reduceAdd, Nat.reduceLT, Nat.reduceMul, Nat.reduceSub, Nat.reduceLeDiff, Int.reduceLT, Int.reduceLE, Int.reduceEq, Option.isSome_some, implies_true, false_implies, Prod.mk.injEq, ne_eq, not_false_eq_true, not_true_eq_false, ge_iff_le, gt_iff_lt, Int.toNat_natCast, Int.reduceToNat, Int.cast_ofNat_Int, Int.natCast_nonneg, h1, Try.results44]
    exact ⟨[], by simp, by simp, by simp [renV, renVs, renSegs, renSg, e], hfin, by simp⟩
theorem implSol_ok (LL : LLs) (hl : ∀ i, i < LL.length → (at_ LL i).length ≤ 2 ^ 20) (hm : LL.length ≤ 2 ^ 20) :
    ACalls Try.prog 45 [.ref (.sl 0 0 0 0 LL.length 1)] (ms1 LL) (fun v ms ns => v = solR LL ∧ ms = ms1 LL ∧ ns = []) := by
  have g0 := ms1_0 (LL := LL)
  have hst : ∀ σ : Pairs, (ms1 LL).map (renBlk (renTo σ)) = ms1 LL := fun σ => ms1_ren renTo_zero
  have hfin : (ms1 LL).map (renBlk (renFin [])) = ms1 LL := ms1_ren renFin_zero
  refine acalls_of_body mix Try.func45 rfl fok45 (Nat.le_of_ble_eq_true rfl) ?_
  unfold abody
  simp only [absE, absL, absF, reduceCtorEq, ↓reduceIte, Nat.reduceEqDiff, Nat.reduceAdd, Nat.reduceLT, Nat.reduceMul, Nat.reduceSub, Nat.reduceLeDiff, Int.reduceLT, Int.reduceLE, Int.reduceEq, Option.isSome_some, implies_true, false_implies, Prod.mk.injEq, ne_eq, not_false_eq_true, not_true_eq_false, ge_iff_le, gt_iff_lt, Int.toNat_natCast, Int.reduceToNat, Int.cast_ofNat_Int, Int.natCast_nonneg, Try.f45]
  refine CallsVia.none (within_ok LL.length 1 10) ?_
  rintro _ _ _ ⟨rfl, rfl, rfl⟩
  by_cases h1 : (1 : Int) ≤ LL.length ∧ (LL.length : Int) ≤ 10
  · generalize hN : LL.length = N at h1 hm ⊢
    have hN10 : N ≤ 10 := by omega
    have hn1 : IntKind.i64.wrap ((N : Int) - 1) = (N : Int) - 1 := wrap_i64 (by omega) (by omega)
    simp only [absE, absL, absF, reduceCtorEq, ↓reduceIte, Nat.reduceEqDiff, Nat.reduceAdd, Nat.reduceLT, Nat.reduceMul, Nat.reduceSub, Nat.reduceLeDiff, Int.reduceLT, Int.reduceLE, Int.reduceEq, Option.isSome_some, implies_true, false_implies, Prod.mk.injEq, ne_eq, not_false_eq_true, not_true_eq_false, ge_iff_le, gt_iff_lt, Int.toNat_natCast, Int.reduceToNat, Int.cast_ofNat_Int, Int.natCast_nonneg, h1]
    refine awpLoop.intro (fun x : Nat => [(1, .ref (.ptr 1 0 0 0)), (2, .ref (.ptr 2 0 0 0)), (4, .i .i64 N), (16, .ref (.sl 0 0 0 0 N 1)), (17, .i .i64 N), (18, .i .i64 x)]) (fun x => ⟨ms1 LL, [((1, 0), .lv true ([(0, .cells 1 [.sl 0 0 0 0 N 1])])), ((2, 0), .lv true (sqS 0 (List.replicate 100 0)))], 13⟩)
      (fun x => x ≤ N ∧ ∀ j, j < x → (at_ LL j).length = N ∧ ∀ y, y < N → 0 ≤ (at_ LL j).getD y 0 ∧ (at_ LL j).getD y 0 ≤ (N : Int) - 1) (fun x => N - x) 0 ⟨by omega, fun j hj => absurd hj (by omega)⟩ ⟨[((1,0),(1,0)), ((2,0),(2,0))], rfl, ?_, ?_⟩ ?_
    · simp [wkEnv, lk, renV, renAt, renTo]
    · simp only [wkMem, hst]; simp [wkLoc, Mem.get, assoc, renBlk, renSegs, renSg, renAt, renTo]
    · rintro x ⟨hx, hp⟩
      by_cases h : (x : Int) < N
      · have w := wrap_i64s (show x < 2 ^ 62 by omega)
        have hxl : x < LL.length := by omega
        have v1 : 0 + x * 1 < LL.length := by omega
        have v1' : 0 + x * 1 < N := by omega
        have e1 : (outs 0 1 LL).getD (0 + x * 1) .top = .sl 0 (1 + x) 0 0 (at_ LL x).length 1 := by rw [Nat.zero_add, Nat.mul_one]; exact outs_get hxl
        have q1 : (ms1 LL).getD (1 + x) .dead = .lv true [(0, .ints .i64 (at_ LL x).length (at_ LL x))] := ms1_at hxl
        by_cases h2 : (at_ LL x).length = N
        · have h2i : ((at_ LL x).length : Int) = N := by omega
          simp only [absE, absL, absF, reduceCtorEq, ↓reduceIte, Nat.reduceEqDiff, Nat.reduceAdd, Nat.reduceLT, Nat.reduceMul, Nat.reduceSub, Nat.reduceLeDiff, Int.reduceLT, Int.reduceLE, Int.reduceEq, Option.isSome_some, implies_true, false_implies, Prod.mk.injEq, ne_eq, not_false_eq_true, not_true_eq_false, ge_iff_le, gt_iff_lt, Int.toNat_natCast, Int.reduceToNat, Int.cast_ofNat_Int, Int.natCast_nonneg, h, v1, v1', e1, g0, h2, h2i]
          refine awpLoop.intro (fun y : Nat => [(1, .ref (.ptr 1 0 0 0)), (2, .ref (.ptr 2 0 0 0)), (4, .i .i64 N), (16, .ref (.sl 0 0 0 0 N 1)), (17, .i .i64 N), (18, .i .i64 x), (27, .ref (.sl 0 (1 + x) 0 0 N 1)), (28, .i .i64 N), (29, .i .i64 y)]) (fun y => ⟨ms1 LL, [((1, 0), .lv true ([(0, .cells 1 [.sl 0 0 0 0 N 1])])), ((2, 0), .lv true (sqS 0 (List.replicate 100 0)))], 21⟩)
            (fun y => y ≤ N ∧ ∀ j, j < y → 0 ≤ (at_ LL x).getD j 0 ∧ (at_ LL x).getD j 0 ≤ (N : Int) - 1) (fun y => N - y) 0 ⟨by omega, fun j hj => absurd hj (by omega)⟩ ⟨[((1,0),(1,0)), ((2,0),(2,0))], rfl, ?_, ?_⟩ ?_
          · simp [wkEnv, lk, renV, renAt, renTo]
          · simp only [wkMem, hst]; simp [wkLoc, Mem.get, assoc, renBlk, renSegs, renSg, renAt, renTo]
          · rintro y ⟨hy, hq⟩
            by_cases h' : (y : Int) < N
            · have w' := wrap_i64s (show y < 2 ^ 62 by omega)
              have v2 : 0 + y * 1 < (at_ LL x).length := by omega
              have v2' : 0 + y * 1 < N := by omega
              have e2 : (at_ LL x).getD (0 + y * 1) 0 = (at_ LL x).getD y 0 := by rw [Nat.zero_add, Nat.mul_one]
              simp only [absE, absL, absF, reduceCtorEq, ↓reduceIte, Nat.reduceEqDiff, Nat.reduceAdd, Nat.reduceLT, Nat.reduceMul, Nat.reduceSub, Nat.reduceLeDiff, Int.reduceLT, Int.reduceLE, Int.reduceEq, Option.isSome_some, implies_true, false_implies, Prod.mk.injEq, ne_eq, not_false_eq_true, not_true_eq_false, ge_iff_le, gt_iff_lt, Int.toNat_natCast, Int.reduceToNat, Int.cast_ofNat_Int, Int.natCast_nonneg, h, h', v1, v1', v2, v2', e1, q1, e2, g0, h2, hn1]
              refine CallsVia.none (within_ok ((at_ LL x).getD y 0) 0 ((N : Int) - 1)) ?_
              rintro _ _ _ ⟨rfl, rfl, rfl⟩
              by_cases h3 : 0 ≤ (at_ LL x).getD y 0 ∧ (at_ LL x).getD y 0 ≤ (N : Int) - 1
              · simp only [absE, absL, absF, reduceCtorEq, ↓reduceIte, Nat.reduceEqDiff, Nat.reduceAdd, Nat.reduceLT, Nat.reduceMul, Nat.reduceSub, Nat.reduceLeDiff, Int.reduceLT, Int.reduceLE, Int.reduceEq, Option.isSome_some, implies_true, false_implies, Prod.mk.injEq, ne_eq, not_false_eq_true, not_true_eq_false, ge_iff_le, gt_iff_lt, Int.toNat_natCast, Int.reduceToNat, Int.cast_ofNat_Int, Int.natCast_nonneg, h3]
                refine LoopNext.intro (y + 1) ⟨by omega, fun j hj => ?_⟩ (by omega) ⟨[((1,0),(1,0)), ((2,0),(2,0))], rfl, ?_, ?_⟩
                · by_cases ej : j = y
                  · subst ej; exact h3
                  · exact hq j (by omega)
                · simp [wkEnv, lk, renV, renAt, renTo, w']
                · simp only [wkMem, hst]; simp [wkLoc, Mem.get, assoc, renBlk, renSegs, renSg, renAt, renTo]
              · have e := solR_2 (solB_no (LL := LL) (by rw [hN]; exact SolP.not_val (show x < N by omega) (show y < N by omega) h3))
                simp only [absE, absL, absF, reduceCtorEq, ↓reduceIte, Nat.reduceEqDiff, Nat.reduceAdd, Nat.reduceLT, Nat.reduceMul, Nat.reduceSub, Nat.reduceLeDiff, Int.reduceLT, Int.reduceLE, Int.reduceEq, Option.isSome_some, implies_true, false_implies, Prod.mk.injEq, ne_eq, not_false_eq_true, not_true_eq_false, ge_iff_le, gt_iff_lt, Int.toNat_natCast, Int.reduceToNat, Int.cast_ofNat_Int, Int.natCast_nonneg, h3, Try.results45]
                exact ⟨[], by simp, by simp, by simp [renV, renVs, renSegs, renSg, e], hfin, by simp⟩
            · obtain rfl : y = N := by omega
              simp only [absE, absL, absF, reduceCtorEq, ↓reduceIte, Nat.reduceEqDiff, Nat.reduceAdd, Nat.reduceLT, Nat.reduceMul, Nat.reduceSub, Nat.reduceLeDiff, Int.reduceLT, Int.reduceLE, Int.reduceEq, Option.isSome_some, implies_true, false_implies, Prod.mk.injEq, ne_eq, not_false_eq_true, not_true_eq_false, ge_iff_le, gt_iff_lt, Int.toNat_natCast, Int.reduceToNat, Int.cast_ofNat_Int, Int.natCast_nonneg, h']
              refine LoopNext.intro (x + 1) ⟨by omega, fun j hj => ?_⟩ (by omega) ⟨[((1,0),(1,0)), ((2,0),(2,0))], rfl, ?_, ?_⟩
              · by_cases ej : j = x
                · subst ej; exact ⟨h2, hq⟩
                · exact hp j (by omega)
              · simp [wkEnv, lk, renV, renAt, renTo, w]
              · simp only [wkMem, hst]; simp [wkLoc, Mem.get, assoc, renBlk, renSegs, renSg, renAt, renTo]
        · have h2i : ¬((at_ LL x).length : Int) = N := by omega
          have e := solR_2 (solB_no (LL := LL) (by rw [hN]; exact SolP.not_len (show x < N by omega) h2))
          simp only [absE, absL, absF, reduceCtorEq, ↓reduceIte, Nat.reduceEqDiff, Nat.reduceAdd, Nat.reduceLT, Nat.reduceMul, Nat.reduceSub, Nat.reduceLeDiff, Int.reduceLT, Int.reduceLE, Int.reduceEq, Option.isSome_some, implies_true, false_implies, Prod.mk.injEq, ne_eq, not_false_eq_true, not_true_eq_false, ge_iff_le, gt_iff_lt, Int.toNat_natCast, Int.reduceToNat, Int.cast_ofNat_Int, Int.natCast_nonneg, h, v1, v1', e1, g0, h2i, Try.results45]
          exact ⟨[], by simp, by simp, by simp [renV, renVs, renSegs, renSg, e], hfin, by simp⟩
      · obtain rfl : x = N := by omega
        have hsp : SolP LL.length LL := by rw [hN]; exact fun j hj => hp j hj
        have hsol : solB LL = true := solB_true ⟨by omega, by omega, hsp⟩
        have hby : Bytes 100 (mkT (cv LL) x x) := mkT_bytes hN10 fun a b ha hb => by have := (hp a ha).2 b hb; unfold cv; omega
        simp only [absE, absL, absF, reduceCtorEq, ↓reduceIte, Nat.reduceEqDiff, Nat.reduceAdd, Nat.reduceLT, Nat.reduceMul, Nat.reduceSub, Nat.reduceLeDiff, Int.reduceLT, Int.reduceLE, Int.reduceEq, Option.isSome_some, implies_true, false_implies, Prod.mk.injEq, ne_eq, not_false_eq_true, not_true_eq_false, ge_iff_le, gt_iff_lt, Int.toNat_natCast, Int.reduceToNat, Int.cast_ofNat_Int, Int.natCast_nonneg, h]
        refine CallsVia.cellRow (pre := []) (b := 1) (LL := LL) (by decide) (by simp) (by simp) (by simp) (by simp) (fun _ => rfl) (by rw [hN]; rfl) rfl (fun _ => rfl)
          (madeG_ok x hN10 84 (cv LL) [(0, 0, 0, 0)] (msE [] LL) (msE_live (by simp)) (msE_st fun _ => rfl) (fun σ hσ => by simp [renCaps, hσ 0 (by rw [msE_len]; simp; omega)]) (fun σ hσ => by simp [capArgs, renVs, renV, renAt, hσ 0 (by rw [msE_len]; simp; omega)]) fun a b ha hb => sol1_ok x LL hN10 hN (fun j hj => hp j hj) a b ha hb) ?_
        intro ups rd hu
        simp only [hu, List.map_nil, List.reverse_nil, List.nil_append]
        simp only [absE, absL, absF, reduceCtorEq, ↓reduceIte, Nat.reduceEqDiff, Nat.reduceAdd, Nat.reduceLT, Nat.reduceMul, Nat.reduceSub, Nat.reduceLeDiff, Int.reduceLT, Int.reduceLE, Int.reduceEq, Option.isSome_some, implies_true, false_implies, Prod.mk.injEq, ne_eq, not_false_eq_true, not_true_eq_false, ge_iff_le, gt_iff_lt, Int.toNat_natCast, Int.reduceToNat, Int.cast_ofNat_Int, Int.natCast_nonneg]
        refine CallsVia.none (isSquare_ok x (mkT (cv LL) x x) hby) ?_
        rintro _ _ _ ⟨rfl, rfl, rfl⟩
        cases h5 : sqB x (mkT (cv LL) x x)
        · have e := solR_5 hsol (by rw [hN]; exact h5)
          simp only [absE, absL, absF, reduceCtorEq, ↓reduceIte, Nat.reduceEqDiff, Nat.reduceAdd, Nat.reduceLT, Nat.reduceMul, Nat.reduceSub, Nat.reduceLeDiff, Int.reduceLT, Int.reduceLE, Int.reduceEq, Option.isSome_some, implies_true, false_implies, Prod.mk.injEq, ne_eq, not_false_eq_true, not_true_eq_false, ge_iff_le, gt_iff_lt, Int.toNat_natCast, Int.reduceToNat, Int.cast_ofNat_Int, Int.natCast_nonneg, Try.results45]
          exact ⟨[], by simp, by simp, by simp [renV, renVs, renSegs, renSg, e], hfin, by simp⟩
        · have e := solR_0 hsol (by rw [hN]; exact h5)
          simp only [absE, absL, absF, reduceCtorEq, ↓reduceIte, Nat.reduceEqDiff, Nat.reduceAdd, Nat.reduceLT, Nat.reduceMul, Nat.reduceSub, Nat.reduceLeDiff, Int.reduceLT, Int.reduceLE, Int.reduceEq, Option.isSome_some, implies_true, false_implies, Prod.mk.injEq, ne_eq, not_false_eq_true, not_true_eq_false, ge_iff_le, gt_iff_lt, Int.toNat_natCast, Int.reduceToNat, Int.cast_ofNat_Int, Int.natCast_nonneg, Try.results45]
          exact ⟨[], by simp, by simp, by simp [renV, renVs, renSegs, renSg, e, hN], hfin, by simp⟩
  · have e := solR_2 (solB_false (LL := LL) fun hh => h1 ⟨by omega, by omega⟩)
    simp only [absE, absL, absF, reduceCtorEq, ↓reduceIte, Nat.reduceEqDiff, Nat.reduceAdd, Nat.reduceLT, Nat.reduceMul, Nat.reduceSub, Nat.reduceLeDiff, Int.reduceLT, Int.reduceLE, Int.reduceEq, Option.isSome_some, implies_true, false_implies, Prod.mk.injEq, ne_eq, not_false_eq_true, not_true_eq_false, ge_iff_le, gt_iff_lt, Int.toNat_natCast, Int.reduceToNat, Int.cast_ofNat_Int, Int.natCast_nonneg, h1, Try.results45]
    exact ⟨[], by simp, by simp, by simp [renV, renVs, renSegs, renSg, e], hfin, by simp⟩
theorem sol_form' (LL : LLs) (hl : ∀ i, i < LL.length → (at_ LL i).length ≤ 2 ^ 20) (hm : LL.length ≤ 2 ^ 20) : ∃ k s e, s.length = 100 ∧ solR LL = .tup [.agg (sqS k s), .i .i64 e] := sol_form LL

end Go.Proofs.Ytcaadjjgggjefaa
