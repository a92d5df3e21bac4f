/-
Contracts of functions of the given program, by the abstract walk.
-/
import Derived.Test.YtgcfkdgdlllgjaaAbsW
import Derived.Test.YtgcfkdgdlllgjaaCw
namespace Go.Proofs.Ytgcfkdgdlllgjaa
open Go Go.Abs
set_option linter.unusedVariables false
set_option linter.unusedSectionVars false
set_option linter.unusedSimpArgs false
set_option maxRecDepth 100000
theorem isPermutation_ok (p : List Int) (n : Int) (hp : Bytes 10 p) : ACalls Try.prog 105 [.agg (plS p), .i .i64 n] [] (fun r ms ns => r = .b (permB n p) ∧ ms = [] ∧ ns = []) := by
  refine acalls_of_body mix Try.func105 rfl fok105 (Nat.le_of_ble_eq_true rfl) ?_
  unfold abody
  simp only [absE, absL, absF, reduceCtorEq, ↓reduceIte, Nat.reduceEqDiff, Nat.reduceAdd, Nat.reduceLT, Nat.reduceMul, Nat.reduceSub, Nat.reduceLeDiff, Int.reduceLT, Int.reduceLE, Int.reduceEq, Option.isSome_some, implies_true, false_implies, Prod.mk.injEq, ne_eq, not_false_eq_true, not_true_eq_false, ge_iff_le, gt_iff_lt, Int.toNat_natCast, Int.reduceToNat, Int.cast_ofNat_Int, Int.natCast_nonneg, Try.f105]
  refine CallsVia.none (within_ok n 1 10) ?_
  rintro _ _ _ ⟨rfl, rfl, rfl⟩
  by_cases hn : 1 ≤ n ∧ n ≤ 10
  · obtain ⟨N, rfl⟩ : ∃ N : Nat, n = N := ⟨n.toNat, by omega⟩
    have hN : N ≤ 10 := by omega
    simp only [absE, absL, absF, reduceCtorEq, ↓reduceIte, Nat.reduceEqDiff, Nat.reduceAdd, Nat.reduceLT, Nat.reduceMul, Nat.reduceSub, Nat.reduceLeDiff, Int.reduceLT, Int.reduceLE, Int.reduceEq, Option.isSome_some, implies_true, false_implies, Prod.mk.injEq, ne_eq, not_false_eq_true, not_true_eq_false, ge_iff_le, gt_iff_lt, Int.toNat_natCast, Int.reduceToNat, Int.cast_ofNat_Int, Int.natCast_nonneg, hn]
    refine awpLoop.intro (fun i : Nat => [(1, .i .i64 N), (5, .i .i64 (mask (pl p) (min i N) : Nat)), (11, .agg (plS p)), (12, .i .i64 i)]) (fun i => ⟨[], [], 3⟩)
      (fun i => i ≤ 10 ∧ ∀ j, j < i → if j < N then pl p j < N else pl p j = 0) (fun i => 10 - i) 0 ⟨by omega, fun x' h => absurd h (by simp)⟩ ⟨[], rfl, ?_, ?_⟩ ?_
    · simp [wkEnv, lk, renV, renAt, renTo, renSegs, renSg, mask]
    · simp [wkMem, wkLoc, Mem.get, assoc, renBlk, renSegs, renSg, renTo]
    · rintro i ⟨hi, ha⟩
      by_cases h : (i : Int) < 10
      · have w : IntKind.i64.wrap ((i : Int) + 1) = ((i + 1 : Nat) : Int) := by rw [wrap_i64 (by omega) (by omega)]; omega
        have k1 : p.getD i 0 = (pl p i : Int) := hp.place i
        have k1' : p.getD (0 + i * 1) 0 = (pl p i : Int) := by rw [Nat.zero_add, Nat.mul_one]; exact hp.place i
        have u1 : i < 10 := by omega
        have u1' : 0 + i * 1 < 10 := by omega
        have r1 := hp.place_lt i
        have w1 : IntKind.i64.wrap (pl p i : Int) = pl p i := wrap_i64 (by omega) (by omega)
        by_cases hin : i < N
        · have g1 : ¬ (N : Int) ≤ i := by omega
          by_cases hc : pl p i < N
          · have g2 : ¬ (N : Int) ≤ (pl p i : Int) := by omega
            have m0 : min i N = i := by omega
            have s1 := wrap_shl (c := pl p i) (by omega)
            have p10 : (2 : Nat) ^ N ≤ 2 ^ 10 := Nat.pow_le_pow_right (by decide) (by omega)
            have l1 : mask (pl p) i < 2 ^ N := mask_lt fun j hj => by have := ha j hj; rw [if_pos (by omega)] at this; exact this
            have q1 : (2 : Nat) ^ pl p i < 2 ^ 10 := Nat.pow_lt_pow_right (by decide) (by omega)
            have o1 := wrap_or (a := mask (pl p) i) (b := 2 ^ pl p i) (by omega) (by omega)
            simp only [absE, absL, absF, reduceCtorEq, ↓reduceIte, Nat.reduceEqDiff, Nat.reduceAdd, Nat.reduceLT, Nat.reduceMul, Nat.reduceSub, Nat.reduceLeDiff, Int.reduceLT, Int.reduceLE, Int.reduceEq, Option.isSome_some, implies_true, false_implies, Prod.mk.injEq, ne_eq, not_false_eq_true, not_true_eq_false, ge_iff_le, gt_iff_lt, Int.toNat_natCast, Int.reduceToNat, Int.cast_ofNat_Int, Int.natCast_nonneg, h, g1, g2, u1, u1', k1, k1', w1, m0, s1, o1]
            refine LoopNext.intro (i + 1) ⟨by omega, fun j hj => ?_⟩ (by omega) ⟨[], rfl, ?_, ?_⟩
            · by_cases e : j = i
              · subst e; rw [if_pos hin]; exact hc
              · exact ha j (by omega)
            · have m1 : min (i + 1) N = i + 1 := by omega
              simp [wkEnv, lk, renV, renAt, renTo, renSegs, renSg, w, m1, mask]
            · simp [wkMem, wkLoc, Mem.get, assoc, renBlk, renSegs, renSg, renTo]
          · have g2 : (N : Int) ≤ (pl p i : Int) := by omega
            simp only [absE, absL, absF, reduceCtorEq, ↓reduceIte, Nat.reduceEqDiff, Nat.reduceAdd, Nat.reduceLT, Nat.reduceMul, Nat.reduceSub, Nat.reduceLeDiff, Int.reduceLT, Int.reduceLE, Int.reduceEq, Option.isSome_some, implies_true, false_implies, Prod.mk.injEq, ne_eq, not_false_eq_true, not_true_eq_false, ge_iff_le, gt_iff_lt, Int.toNat_natCast, Int.reduceToNat, Int.cast_ofNat_Int, Int.natCast_nonneg, h, g1, g2, u1, u1', k1, k1', w1, Try.results105]
            refine fin_false (permB_false fun hq => ?_)
            have := hq.2.2 i (by omega)
            unfold permAt at this
            rw [if_pos (by omega)] at this
            exact hc this.1
        · have g1 : (N : Int) ≤ i := by omega
          by_cases hc : pl p i = 0
          · have g2 : (pl p i : Int) = 0 := by omega
            simp only [absE, absL, absF, reduceCtorEq, ↓reduceIte, Nat.reduceEqDiff, Nat.reduceAdd, Nat.reduceLT, Nat.reduceMul, Nat.reduceSub, Nat.reduceLeDiff, Int.reduceLT, Int.reduceLE, Int.reduceEq, Option.isSome_some, implies_true, false_implies, Prod.mk.injEq, ne_eq, not_false_eq_true, not_true_eq_false, ge_iff_le, gt_iff_lt, Int.toNat_natCast, Int.reduceToNat, Int.cast_ofNat_Int, Int.natCast_nonneg, h, g1, g2, u1, u1', k1, k1']
            refine LoopNext.intro (i + 1) ⟨by omega, fun j hj => ?_⟩ (by omega) ⟨[], rfl, ?_, ?_⟩
            · by_cases e : j = i
              · subst e; rw [if_neg hin]; exact hc
              · exact ha j (by omega)
            · have m1 : min (i + 1) N = min i N := by omega
              simp [wkEnv, lk, renV, renAt, renTo, renSegs, renSg, w, m1]
            · simp [wkMem, wkLoc, Mem.get, assoc, renBlk, renSegs, renSg, renTo]
          · have g2 : ¬ (pl p i : Int) = 0 := by omega
            simp only [absE, absL, absF, reduceCtorEq, ↓reduceIte, Nat.reduceEqDiff, Nat.reduceAdd, Nat.reduceLT, Nat.reduceMul, Nat.reduceSub, Nat.reduceLeDiff, Int.reduceLT, Int.reduceLE, Int.reduceEq, Option.isSome_some, implies_true, false_implies, Prod.mk.injEq, ne_eq, not_false_eq_true, not_true_eq_false, ge_iff_le, gt_iff_lt, Int.toNat_natCast, Int.reduceToNat, Int.cast_ofNat_Int, Int.natCast_nonneg, h, g1, g2, u1, u1', k1, k1', Try.results105]
            refine fin_false (permB_false fun hq => ?_)
            have := hq.2.2 i (by omega)
            unfold permAt at this
            rw [if_neg (by omega)] at this
            exact hc this
      · have hi10 : i = 10 := by omega
        subst hi10
        have m0 : min 10 N = N := by omega
        have p10 : (2 : Nat) ^ N ≤ 2 ^ 10 := Nat.pow_le_pow_right (by decide) (by omega)
        have p1 : 0 < (2 : Nat) ^ N := Nat.two_pow_pos N
        have s1 := wrap_shl (c := N) (by omega)
        have w5 : IntKind.i64.wrap (((2 ^ N : Nat) : Int) - 1) = ((2 ^ N - 1 : Nat) : Int) := by rw [wrap_i64 (by omega) (by omega)]; omega
        have hb : ∀ j, j < N → pl p j < N := fun j hj => by have := ha j (by omega); rw [if_pos hj] at this; exact this
        simp only [absE, absL, absF, reduceCtorEq, ↓reduceIte, Nat.reduceEqDiff, Nat.reduceAdd, Nat.reduceLT, Nat.reduceMul, Nat.reduceSub, Nat.reduceLeDiff, Int.reduceLT, Int.reduceLE, Int.reduceEq, Option.isSome_some, implies_true, false_implies, Prod.mk.injEq, ne_eq, not_false_eq_true, not_true_eq_false, ge_iff_le, gt_iff_lt, Int.toNat_natCast, Int.reduceToNat, Int.cast_ofNat_Int, Int.natCast_nonneg, h, m0, s1, w5, Try.results105]
        refine fin_b ?_ rfl
        rw [Bool.eq_iff_iff, permB_iff, decide_eq_true_iff]
        have hn2 : (N : Int).toNat = N := by omega
        constructor
        · intro hq
          have h2 := hq.2.2
          rw [hn2] at h2
          rw [(mask_full hb).2 fun i hi => by have := h2 i (by omega); unfold permAt at this; rw [if_pos hi] at this; exact this.2]
        · intro hq
          have hq' : mask (pl p) N = 2 ^ N - 1 := by omega
          refine ⟨hn.1, hn.2, ?_⟩
          rw [hn2]
          intro i hi
          unfold permAt
          split
          · rename_i hc
            exact ⟨hb i hc, (mask_full hb).1 hq' i hc⟩
          · rename_i hc
            have := ha i hi
            rw [if_neg hc] at this; exact this
  · simp only [absE, absL, absF, reduceCtorEq, ↓reduceIte, Nat.reduceEqDiff, Nat.reduceAdd, Nat.reduceLT, Nat.reduceMul, Nat.reduceSub, Nat.reduceLeDiff, Int.reduceLT, Int.reduceLE, Int.reduceEq, Option.isSome_some, implies_true, false_implies, Prod.mk.injEq, ne_eq, not_false_eq_true, not_true_eq_false, ge_iff_le, gt_iff_lt, Int.toNat_natCast, Int.reduceToNat, Int.cast_ofNat_Int, Int.natCast_nonneg, hn, Try.results105]
    exact fin_false (permB_false fun h => hn ⟨h.1, h.2.1⟩)

end Go.Proofs.Ytgcfkdgdlllgjaa
