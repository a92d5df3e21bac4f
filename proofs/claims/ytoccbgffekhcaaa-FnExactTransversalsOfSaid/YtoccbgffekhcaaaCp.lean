/-
Contracts of functions of the given program, by the abstract walk.
-/
import Derived.Test.YtoccbgffekhcaaaAbsY
import Derived.Test.YtoccbgffekhcaaaCw
namespace Go.Proofs.Ytoccbgffekhcaaa
open Go Go.Abs
set_option linter.unusedVariables false
set_option linter.unusedSectionVars false
set_option linter.unusedSimpArgs false
set_option maxRecDepth 100000
theorem l01Perm_ok (p : List Int) (n : Int) (hp : Bytes 10 p) : ACalls Try.prog 161 [.agg (plS p), .i .i64 n] [] (fun r ms ns => r = .b (permB n p) ∧ ms = [] ∧ ns = []) := by
  refine acalls_of_body mix Try.func161 rfl fok161 (Nat.le_of_ble_eq_true rfl) ?_
  unfold abody
  simp only [absE, absL, absF, reduceCtorEq, ↓reduceIte, Nat.reduceEqDiff, Nat.reduceAdd, Nat.reduceLT, Nat.reduceMul, Nat.reduceSub, Nat.reduceLeDiff, Int.reduceLT, Int.reduceLE, Int.reduceEq, Option.isSome_some, implies_true, false_implies, Prod.mk.injEq, ne_eq, not_false_eq_true, not_true_eq_false, ge_iff_le, gt_iff_lt, Int.toNat_natCast, Int.reduceToNat, Int.cast_ofNat_Int, Int.natCast_nonneg, Try.f161]
  refine CallsVia.none (l01In_ok n 1 10) ?_
  rintro _ _ _ ⟨rfl, rfl, rfl⟩
  by_cases hn : 1 ≤ n ∧ n ≤ 10
  · obtain ⟨N, rfl⟩ : ∃ N : Nat, n = N := ⟨n.toNat, by omega⟩
    have hN : N ≤ 10 := by omega
    simp only [absE, absL, absF, reduceCtorEq, ↓reduceIte, Nat.reduceEqDiff, Nat.reduceAdd, Nat.reduceLT, Nat.reduceMul, Nat.reduceSub, Nat.reduceLeDiff, Int.reduceLT, Int.reduceLE, Int.reduceEq, Option.isSome_some, implies_true, false_implies, Prod.mk.injEq, ne_eq, not_false_eq_true, not_true_eq_false, ge_iff_le, gt_iff_lt, Int.toNat_natCast, Int.reduceToNat, Int.cast_ofNat_Int, Int.natCast_nonneg, hn]
    refine awpLoop.intro (fun a : Nat × List Bool => [(1, .i .i64 N), (2, .ref (.ptr 1 0 0 0)), (5, .ref (.ptr 2 0 0 0)), (6, .i .i64 a.1)]) (fun a => ⟨[], [((1, 0), .lv true (plS p)), ((2, 0), .lv true [(0, .bools 10 a.2)])], 3⟩)
      (fun a => a.1 ≤ 10 ∧ a.2.length = 10 ∧ (∀ j, a.2.getD j false = true ↔ ∃ k, k < a.1 ∧ k < N ∧ pl p k = j) ∧ ∀ i, i < a.1 → permAt N (pl p) i) (fun a => 10 - a.1) (0, List.replicate 10 false) ⟨by omega, by simp, fun j => by rw [getD_repf]; exact ⟨fun h => (by cases h), fun ⟨k, h, _⟩ => absurd h (by simp)⟩, fun x' h => absurd h (by simp)⟩ ⟨[((1,0),(1,0)), ((7,0),(2,0))], rfl, ?_, ?_⟩ ?_
    · simp [wkEnv, lk, renV, renAt, renTo]
    · simp [wkMem, wkLoc, Mem.get, assoc, renBlk, renSegs, renSg, renTo]
    · rintro ⟨i, m⟩ ⟨hi, hm, hs, ha⟩
      simp only at hi hm hs ha
      by_cases h : (i : Int) < 10
      · have w : IntKind.i64.wrap ((i : Int) + 1) = ((i + 1 : Nat) : Int) := by rw [wrap_i64 (by omega) (by omega)]; omega
        have k1 : p.getD (0 + i * 1) 0 = (pl p i : Int) := by rw [Nat.zero_add, Nat.mul_one]; exact hp.place i
        have u1 : 0 + i * 1 < 10 := by omega
        have r1 := hp.place_lt i
        have w1 : IntKind.i64.wrap (pl p i : Int) = pl p i := wrap_i64 (by omega) (by omega)
        by_cases hin : i < N
        · have g1 : ¬ (N : Int) ≤ i := by omega
          by_cases hc : pl p i < N
          · have g2 : ¬ (N : Int) ≤ (pl p i : Int) := by omega
            have g3 : (pl p i : Int) < 10 := by omega
            have u2 : 0 + pl p i * 1 < 10 := by omega
            cases hmet : m.getD (0 + pl p i * 1) false
            · simp only [absE, absL, absF, reduceCtorEq, ↓reduceIte, Nat.reduceEqDiff, Nat.reduceAdd, Nat.reduceLT, Nat.reduceMul, Nat.reduceSub, Nat.reduceLeDiff, Int.reduceLT, Int.reduceLE, Int.reduceEq, Option.isSome_some, implies_true, false_implies, Prod.mk.injEq, ne_eq, not_false_eq_true, not_true_eq_false, ge_iff_le, gt_iff_lt, Int.toNat_natCast, Int.reduceToNat, Int.cast_ofNat_Int, Int.natCast_nonneg, h, g1, g2, g3, u1, u2, k1, w1, hmet]
              refine ⟨by omega, LoopNext.intro (i + 1, m.set (0 + pl p i * 1) true) ⟨by simp only; omega, by simpa using hm, fun j => ?_, fun j hj => ?_⟩ (by simp only; omega) ⟨[((1,0),(1,0)), ((2,0),(2,0))], rfl, ?_, ?_⟩⟩
              · simp only
                rw [getD_setb (by omega)]
                split
                · rename_i e
                  exact ⟨fun _ => ⟨i, by omega, hin, by omega⟩, fun _ => rfl⟩
                · rename_i e
                  rw [hs]
                  refine ⟨fun ⟨k, h1, h2⟩ => ⟨k, by omega, h2⟩, fun ⟨k, h1, h2, h3⟩ => ⟨k, ?_, h2, h3⟩⟩
                  have : k ≠ i := fun e2 => by subst e2; omega
                  omega
              · by_cases e : j = i
                · subst e
                  unfold permAt
                  rw [if_pos hin]
                  refine ⟨hc, fun k hk e => ?_⟩
                  have := (hs (pl p j)).2 ⟨k, hk, by omega, e⟩
                  rw [show pl p j = 0 + pl p j * 1 by omega, hmet] at this
                  cases this
                · exact ha j (by simp only at hj; omega)
              · simp [wkEnv, lk, renV, renAt, renTo, w]
              · simp [wkMem, wkLoc, Mem.get, assoc, renBlk, renSegs, renSg, renTo]
            · simp only [absE, absL, absF, reduceCtorEq, ↓reduceIte, Nat.reduceEqDiff, Nat.reduceAdd, Nat.reduceLT, Nat.reduceMul, Nat.reduceSub, Nat.reduceLeDiff, Int.reduceLT, Int.reduceLE, Int.reduceEq, Option.isSome_some, implies_true, false_implies, Prod.mk.injEq, ne_eq, not_false_eq_true, not_true_eq_false, ge_iff_le, gt_iff_lt, Int.toNat_natCast, Int.reduceToNat, Int.cast_ofNat_Int, Int.natCast_nonneg, h, g1, g2, g3, u1, u2, k1, w1, hmet, Try.results161]
              refine fin_false (permB_false fun hq => ?_)
              obtain ⟨k, hk, hkn, e⟩ := (hs (pl p i)).1 (by simpa using hmet)
              have := hq.2.2 i (by omega)
              unfold permAt at this
              rw [if_pos (by omega)] at this
              exact this.2 k hk e
          · have g2 : (N : Int) ≤ (pl p i : Int) := by omega
            simp only [absE, absL, absF, reduceCtorEq, ↓reduceIte, Nat.reduceEqDiff, Nat.reduceAdd, Nat.reduceLT, Nat.reduceMul, Nat.reduceSub, Nat.reduceLeDiff, Int.reduceLT, Int.reduceLE, Int.reduceEq, Option.isSome_some, implies_true, false_implies, Prod.mk.injEq, ne_eq, not_false_eq_true, not_true_eq_false, ge_iff_le, gt_iff_lt, Int.toNat_natCast, Int.reduceToNat, Int.cast_ofNat_Int, Int.natCast_nonneg, h, g1, g2, u1, k1, w1, Try.results161]
            refine fin_false (permB_false fun hq => ?_)
            have := hq.2.2 i (by omega)
            unfold permAt at this
            rw [if_pos (by omega)] at this
            exact hc this.1
        · have g1 : (N : Int) ≤ i := by omega
          by_cases hc : pl p i = 0
          · have g2 : (pl p i : Int) = 0 := by omega
            simp only [absE, absL, absF, reduceCtorEq, ↓reduceIte, Nat.reduceEqDiff, Nat.reduceAdd, Nat.reduceLT, Nat.reduceMul, Nat.reduceSub, Nat.reduceLeDiff, Int.reduceLT, Int.reduceLE, Int.reduceEq, Option.isSome_some, implies_true, false_implies, Prod.mk.injEq, ne_eq, not_false_eq_true, not_true_eq_false, ge_iff_le, gt_iff_lt, Int.toNat_natCast, Int.reduceToNat, Int.cast_ofNat_Int, Int.natCast_nonneg, h, g1, g2, u1, k1]
            refine LoopNext.intro (i + 1, m) ⟨by simp only; omega, by simpa using hm, fun j => ?_, fun j hj => ?_⟩ (by simp only; omega) ⟨[((1,0),(1,0)), ((2,0),(2,0))], rfl, ?_, ?_⟩
            · simp only
              rw [hs]
              refine ⟨fun ⟨k, h1, h2⟩ => ⟨k, by omega, h2⟩, fun ⟨k, h1, h2, h3⟩ => ⟨k, ?_, h2, h3⟩⟩
              omega
            · by_cases e : j = i
              · subst e
                unfold permAt
                rw [if_neg hin]; exact hc
              · exact ha j (by simp only at hj; omega)
            · simp [wkEnv, lk, renV, renAt, renTo, w]
            · simp [wkMem, wkLoc, Mem.get, assoc, renBlk, renSegs, renSg, renTo]
          · have g2 : ¬ (pl p i : Int) = 0 := by omega
            simp only [absE, absL, absF, reduceCtorEq, ↓reduceIte, Nat.reduceEqDiff, Nat.reduceAdd, Nat.reduceLT, Nat.reduceMul, Nat.reduceSub, Nat.reduceLeDiff, Int.reduceLT, Int.reduceLE, Int.reduceEq, Option.isSome_some, implies_true, false_implies, Prod.mk.injEq, ne_eq, not_false_eq_true, not_true_eq_false, ge_iff_le, gt_iff_lt, Int.toNat_natCast, Int.reduceToNat, Int.cast_ofNat_Int, Int.natCast_nonneg, h, g1, g2, u1, k1, Try.results161]
            refine fin_false (permB_false fun hq => ?_)
            have := hq.2.2 i (by omega)
            unfold permAt at this
            rw [if_neg (by omega)] at this
            exact hc this
      · simp only [absE, absL, absF, reduceCtorEq, ↓reduceIte, Nat.reduceEqDiff, Nat.reduceAdd, Nat.reduceLT, Nat.reduceMul, Nat.reduceSub, Nat.reduceLeDiff, Int.reduceLT, Int.reduceLE, Int.reduceEq, Option.isSome_some, implies_true, false_implies, Prod.mk.injEq, ne_eq, not_false_eq_true, not_true_eq_false, ge_iff_le, gt_iff_lt, Int.toNat_natCast, Int.reduceToNat, Int.cast_ofNat_Int, Int.natCast_nonneg, h, Try.results161]
        exact fin_true (permB_true ⟨hn.1, hn.2, fun j hj => ha j (by omega)⟩)
  · simp only [absE, absL, absF, reduceCtorEq, ↓reduceIte, Nat.reduceEqDiff, Nat.reduceAdd, Nat.reduceLT, Nat.reduceMul, Nat.reduceSub, Nat.reduceLeDiff, Int.reduceLT, Int.reduceLE, Int.reduceEq, Option.isSome_some, implies_true, false_implies, Prod.mk.injEq, ne_eq, not_false_eq_true, not_true_eq_false, ge_iff_le, gt_iff_lt, Int.toNat_natCast, Int.reduceToNat, Int.cast_ofNat_Int, Int.natCast_nonneg, hn, Try.results161]
    exact fin_false (permB_false fun h => hn ⟨h.1, h.2.1⟩)

end Go.Proofs.Ytoccbgffekhcaaa
