/-
Contracts of functions of the given program, by the abstract walk.
-/
import Derived.Test.YtoccbgffekhcaaaAbsY
import Derived.Test.YtoccbgffekhcaaaCw
namespace Go.Proofs.Ytoccbgffekhcaaa
open Go Go.Abs
set_option linter.unusedVariables false
set_option linter.unusedSectionVars false
set_option linter.unusedSimpArgs false
set_option maxRecDepth 100000
theorem isSquare_ok (n : Int) (t : List Int) (ht : Bytes 100 t) : ACalls Try.prog 80 [.agg (sqS n t)] [] (fun r ms ns => r = .b (sqB n t) ∧ ms = [] ∧ ns = []) := by
  refine acalls_of_body mix Try.func80 rfl fok80 (Nat.le_of_ble_eq_true rfl) ?_
  unfold abody
  simp only [absE, absL, absF, reduceCtorEq, ↓reduceIte, Nat.reduceEqDiff, Nat.reduceAdd, Nat.reduceLT, Nat.reduceMul, Nat.reduceSub, Nat.reduceLeDiff, Int.reduceLT, Int.reduceLE, Int.reduceEq, Option.isSome_some, implies_true, false_implies, Prod.mk.injEq, ne_eq, not_false_eq_true, not_true_eq_false, ge_iff_le, gt_iff_lt, Int.toNat_natCast, Int.reduceToNat, Int.cast_ofNat_Int, Int.natCast_nonneg, Try.f80]
  refine CallsVia.none (within_ok n 1 10) ?_
  rintro _ _ _ ⟨rfl, rfl, rfl⟩
  by_cases hn : 1 ≤ n ∧ n ≤ 10
  · have hN : n = (n.toNat : Int) := by omega
    generalize hN' : n.toNat = N at hN
    subst hN
    simp only [absE, absL, absF, reduceCtorEq, ↓reduceIte, Nat.reduceEqDiff, Nat.reduceAdd, Nat.reduceLT, Nat.reduceMul, Nat.reduceSub, Nat.reduceLeDiff, Int.reduceLT, Int.reduceLE, Int.reduceEq, Option.isSome_some, implies_true, false_implies, Prod.mk.injEq, ne_eq, not_false_eq_true, not_true_eq_false, ge_iff_le, gt_iff_lt, Int.toNat_natCast, Int.reduceToNat, Int.cast_ofNat_Int, Int.natCast_nonneg, hn]
    refine awpLoop.intro (fun x : Nat => [(1, .ref (.ptr 1 0 0 0)), (3, .i .i64 N), (14, .i .i64 x)]) (fun _ => ⟨[], [((1, 0), .lv true (sqS N t))], 2⟩) (fun x => x ≤ 10 ∧ ∀ x', x' < x → rowOk N t x' ∧ full N t x') (fun x => 10 - x) 0 ⟨by omega, fun x' h => absurd h (by omega)⟩ ?_ ?_
    · refine ⟨[((1,0),(1,0))], rfl, ?_, ?_⟩
      · simp [wkEnv, lk, renV, renAt, renTo]
      · simp [wkMem, wkLoc, Mem.get, assoc, renBlk, renSegs, renSg, renTo, sqS]
    · intro x ⟨hx, hp⟩
      by_cases h : (x : Int) < 10
      · simp only [absE, absL, absF, reduceCtorEq, ↓reduceIte, Nat.reduceEqDiff, Nat.reduceAdd, Nat.reduceLT, Nat.reduceMul, Nat.reduceSub, Nat.reduceLeDiff, Int.reduceLT, Int.reduceLE, Int.reduceEq, Option.isSome_some, implies_true, false_implies, Prod.mk.injEq, ne_eq, not_false_eq_true, not_true_eq_false, ge_iff_le, gt_iff_lt, Int.toNat_natCast, Int.reduceToNat, Int.cast_ofNat_Int, Int.natCast_nonneg, hn, h]
        have hx' : x < 10 := by omega
        refine awpLoop.intro (fun y : Nat => [(1, .ref (.ptr 1 0 0 0)), (3, .i .i64 N), (4, .i .i64 x), (5, .i .i64 ((if x < N then mask (cl t x) (min y N) else 0 : Nat) : Int)), (6, .i .i64 ((if x < N then mask (fun y => cl t y x) (min y N) else 0 : Nat) : Int)), (14, .i .i64 x), (17, .i .i64 y)]) (fun _ => ⟨[], [((1, 0), .lv true (sqS N t))], 2⟩)
          (fun y => y ≤ 10 ∧ ∀ y', y' < y → if x < N ∧ y' < N then cl t x y' < N ∧ cl t y' x < N else cl t x y' = 0) (fun y => 10 - y) 0 ⟨by omega, fun x' h => absurd h (by omega)⟩ ?_ ?_
        · refine ⟨[((1,0),(1,0))], rfl, ?_, ?_⟩
          · simp [wkEnv, lk, renV, renAt, renTo, mask]
          · simp [wkMem, wkLoc, Mem.get, assoc, renBlk, renSegs, renSg, renTo, sqS]
        · intro y ⟨hy, hq⟩
          by_cases h' : (y : Int) < 10
          · have hy' : y < 10 := by omega
            have b1 : (0 : Int) ≤ x := by omega
            have b2 : (0 : Int) ≤ y := by omega
            have c1 : (x : Int) < ((10 : Nat) : Int) := by omega
            have c2 : (y : Int) < ((10 : Nat) : Int) := by omega
            have k1 : t.getD (0 + x * 10 + y * 1) 0 = (cl t x y : Int) := by rw [Nat.zero_add, Nat.mul_one]; exact ht.cell x y
            have k2 : t.getD (0 + y * 10 + x * 1) 0 = (cl t y x : Int) := by rw [Nat.zero_add, Nat.mul_one]; exact ht.cell y x
            have u1 : 0 + x * 10 + y * 1 < 100 := by omega
            have u2 : 0 + y * 10 + x * 1 < 100 := by omega
            have r1 := ht.cell_lt x y
            have r2 := ht.cell_lt y x
            have w1 : IntKind.i64.wrap (cl t x y : Int) = cl t x y := wrap_i64 (by omega) (by omega)
            have w2 : IntKind.i64.wrap (cl t y x : Int) = cl t y x := wrap_i64 (by omega) (by omega)
            have w3 : IntKind.i64.wrap ((y : Int) + 1) = (y : Int) + 1 := wrap_i64 (by omega) (by omega)
            by_cases hxn : x < N
            · have g1 : ¬ (N : Int) ≤ x := by omega
              have g2 : (x : Int) < N := by omega
              by_cases hyn : y < N
              · have g3 : ¬ (N : Int) ≤ y := by omega
                have g4 : (y : Int) < N := by omega
                by_cases hc1 : cl t x y < N
                · have g5 : ¬ (N : Int) ≤ (cl t x y : Int) := by omega
                  by_cases hc2 : cl t y x < N
                  · have g6 : ¬ (N : Int) ≤ (cl t y x : Int) := by omega
                    have m0 : min y N = y := by omega
                    have z1 : (0 : Int) ≤ (cl t x y : Int) := by omega
                    have z2 : (0 : Int) ≤ (cl t y x : Int) := by omega
                    have s1 := wrap_shl (c := cl t x y) (by omega)
                    have s2 := wrap_shl (c := cl t y x) (by omega)
                    have p10 : (2 : Nat) ^ N ≤ 2 ^ 10 := Nat.pow_le_pow_right (by decide) (by omega)
                    have l1 : mask (cl t x) y < 2 ^ N := mask_lt fun i hi => by have := hq i hi; rw [if_pos ⟨hxn, by omega⟩] at this; exact this.1
                    have l2 : mask (fun y => cl t y x) y < 2 ^ N := mask_lt fun i hi => by have := hq i hi; rw [if_pos ⟨hxn, by omega⟩] at this; exact this.2
                    have q1 : (2 : Nat) ^ cl t x y < 2 ^ 10 := Nat.pow_lt_pow_right (by decide) (by omega)
                    have q2 : (2 : Nat) ^ cl t y x < 2 ^ 10 := Nat.pow_lt_pow_right (by decide) (by omega)
                    have o1 := wrap_or (a := mask (cl t x) y) (b := 2 ^ cl t x y) (by omega) (by omega)
                    have o2 := wrap_or (a := mask (fun y => cl t y x) y) (b := 2 ^ cl t y x) (by omega) (by omega)
                    simp only [absE, absL, absF, reduceCtorEq, ↓reduceIte, Nat.reduceEqDiff, Nat.reduceAdd, Nat.reduceLT, Nat.reduceMul, Nat.reduceSub, Nat.reduceLeDiff, Int.reduceLT, Int.reduceLE, Int.reduceEq, Option.isSome_some, implies_true, false_implies, Prod.mk.injEq, ne_eq, not_false_eq_true, not_true_eq_false, ge_iff_le, gt_iff_lt, Int.toNat_natCast, Int.reduceToNat, Int.cast_ofNat_Int, Int.natCast_nonneg, h, h', hxn, g1, g2, g3, g4, g5, g6, b1, b2, c1, c2, k1, k2, u1, u2, w1, w2, w3, m0, z1, z2, s1, s2, o1, o2]
                    refine LoopNext.intro (y + 1) ⟨by omega, fun y' h => ?_⟩ (by omega) ⟨[((1,0),(1,0))], rfl, ?_, ?_⟩
                    · by_cases e : y' = y
                      · subst e; rw [if_pos ⟨hxn, hyn⟩]; exact ⟨hc1, hc2⟩
                      · exact hq y' (by omega)
                    · have m1 : min (y + 1) N = y + 1 := by omega
                      simp [wkEnv, lk, renV, renAt, renTo, hxn, m1, mask]
                    · simp [wkMem, wkLoc, Mem.get, assoc, renBlk, renSegs, renSg, renTo, sqS]
                  · have g6 : (N : Int) ≤ (cl t y x : Int) := by omega
                    simp only [absE, absL, absF, reduceCtorEq, ↓reduceIte, Nat.reduceEqDiff, Nat.reduceAdd, Nat.reduceLT, Nat.reduceMul, Nat.reduceSub, Nat.reduceLeDiff, Int.reduceLT, Int.reduceLE, Int.reduceEq, Option.isSome_some, implies_true, false_implies, Prod.mk.injEq, ne_eq, not_false_eq_true, not_true_eq_false, ge_iff_le, gt_iff_lt, Int.toNat_natCast, Int.reduceToNat, Int.cast_ofNat_Int, Int.natCast_nonneg, h, h', hxn, g1, g2, g3, g4, g5, g6, b1, b2, c1, c2, k1, k2, u1, u2, w1, w2, w3, Try.results80]
                    refine fin_false (sqB_false fun hs => ?_)
                    have := (hs.2.2 x hx').1 y hy'
                    rw [if_pos ⟨hxn, hyn⟩] at this; exact hc2 this.2
                · have g5 : (N : Int) ≤ (cl t x y : Int) := by omega
                  simp only [absE, absL, absF, reduceCtorEq, ↓reduceIte, Nat.reduceEqDiff, Nat.reduceAdd, Nat.reduceLT, Nat.reduceMul, Nat.reduceSub, Nat.reduceLeDiff, Int.reduceLT, Int.reduceLE, Int.reduceEq, Option.isSome_some, implies_true, false_implies, Prod.mk.injEq, ne_eq, not_false_eq_true, not_true_eq_false, ge_iff_le, gt_iff_lt, Int.toNat_natCast, Int.reduceToNat, Int.cast_ofNat_Int, Int.natCast_nonneg, h, h', hxn, g1, g2, g3, g4, g5, b1, b2, c1, c2, k1, k2, u1, u2, w1, w2, w3, Try.results80]
                  refine fin_false (sqB_false fun hs => ?_)
                  have := (hs.2.2 x hx').1 y hy'
                  rw [if_pos ⟨hxn, hyn⟩] at this; exact hc1 this.1
              · have g3 : (N : Int) ≤ y := by omega
                have g4 : ¬ (y : Int) < N := by omega
                by_cases hc : cl t x y = 0
                · have g5 : (cl t x y : Int) = 0 := by omega
                  simp only [absE, absL, absF, reduceCtorEq, ↓reduceIte, Nat.reduceEqDiff, Nat.reduceAdd, Nat.reduceLT, Nat.reduceMul, Nat.reduceSub, Nat.reduceLeDiff, Int.reduceLT, Int.reduceLE, Int.reduceEq, Option.isSome_some, implies_true, false_implies, Prod.mk.injEq, ne_eq, not_false_eq_true, not_true_eq_false, ge_iff_le, gt_iff_lt, Int.toNat_natCast, Int.reduceToNat, Int.cast_ofNat_Int, Int.natCast_nonneg, h, h', hxn, g1, g2, g3, g4, g5, b1, b2, c1, c2, k1, k2, u1, u2, w3]
                  refine LoopNext.intro (y + 1) ⟨by omega, fun y' h => ?_⟩ (by omega) ⟨[((1,0),(1,0))], rfl, ?_, ?_⟩
                  · by_cases e : y' = y
                    · subst e; rw [if_neg (by omega)]; exact hc
                    · exact hq y' (by omega)
                  · have m1 : min (y + 1) N = min y N := by omega
                    simp [wkEnv, lk, renV, renAt, renTo, hxn, m1, mask]
                  · simp [wkMem, wkLoc, Mem.get, assoc, renBlk, renSegs, renSg, renTo, sqS]
                · have g5 : ¬ (cl t x y : Int) = 0 := by omega
                  simp only [absE, absL, absF, reduceCtorEq, ↓reduceIte, Nat.reduceEqDiff, Nat.reduceAdd, Nat.reduceLT, Nat.reduceMul, Nat.reduceSub, Nat.reduceLeDiff, Int.reduceLT, Int.reduceLE, Int.reduceEq, Option.isSome_some, implies_true, false_implies, Prod.mk.injEq, ne_eq, not_false_eq_true, not_true_eq_false, ge_iff_le, gt_iff_lt, Int.toNat_natCast, Int.reduceToNat, Int.cast_ofNat_Int, Int.natCast_nonneg, h, h', hxn, g1, g2, g3, g4, g5, b1, b2, c1, c2, k1, k2, u1, u2, w3, Try.results80]
                  refine fin_false (sqB_false fun hs => ?_)
                  have := (hs.2.2 x hx').1 y hy'
                  rw [if_neg (by omega)] at this; exact hc this
            · have g1 : (N : Int) ≤ x := by omega
              have g2 : ¬ (x : Int) < N := by omega
              by_cases hc : cl t x y = 0
              · have g5 : (cl t x y : Int) = 0 := by omega
                simp only [absE, absL, absF, reduceCtorEq, ↓reduceIte, Nat.reduceEqDiff, Nat.reduceAdd, Nat.reduceLT, Nat.reduceMul, Nat.reduceSub, Nat.reduceLeDiff, Int.reduceLT, Int.reduceLE, Int.reduceEq, Option.isSome_some, implies_true, false_implies, Prod.mk.injEq, ne_eq, not_false_eq_true, not_true_eq_false, ge_iff_le, gt_iff_lt, Int.toNat_natCast, Int.reduceToNat, Int.cast_ofNat_Int, Int.natCast_nonneg, h, h', hxn, g1, g2, g5, b1, b2, c1, c2, k1, k2, u1, u2, w3]
                refine LoopNext.intro (y + 1) ⟨by omega, fun y' h => ?_⟩ (by omega) ⟨[((1,0),(1,0))], rfl, ?_, ?_⟩
                · by_cases e : y' = y
                  · subst e; rw [if_neg (by omega)]; exact hc
                  · exact hq y' (by omega)
                · simp [wkEnv, lk, renV, renAt, renTo, hxn, mask]
                · simp [wkMem, wkLoc, Mem.get, assoc, renBlk, renSegs, renSg, renTo, sqS]
              · have g5 : ¬ (cl t x y : Int) = 0 := by omega
                simp only [absE, absL, absF, reduceCtorEq, ↓reduceIte, Nat.reduceEqDiff, Nat.reduceAdd, Nat.reduceLT, Nat.reduceMul, Nat.reduceSub, Nat.reduceLeDiff, Int.reduceLT, Int.reduceLE, Int.reduceEq, Option.isSome_some, implies_true, false_implies, Prod.mk.injEq, ne_eq, not_false_eq_true, not_true_eq_false, ge_iff_le, gt_iff_lt, Int.toNat_natCast, Int.reduceToNat, Int.cast_ofNat_Int, Int.natCast_nonneg, h, h', hxn, g1, g2, g5, b1, b2, c1, c2, k1, k2, u1, u2, w3, Try.results80]
                refine fin_false (sqB_false fun hs => ?_)
                have := (hs.2.2 x hx').1 y hy'
                rw [if_neg (by omega)] at this; exact hc this
          · have hy10 : y = 10 := by omega
            subst hy10
            have hrow : rowOk N t x := fun y' h => hq y' h
            have w4 : IntKind.i64.wrap ((x : Int) + 1) = (x : Int) + 1 := wrap_i64 (by omega) (by omega)
            by_cases hxn : x < N
            · have g2 : (x : Int) < N := by omega
              have m0 : min 10 N = N := by omega
              have p10 : (2 : Nat) ^ N ≤ 2 ^ 10 := Nat.pow_le_pow_right (by decide) (by omega)
              have p1 : 0 < (2 : Nat) ^ N := Nat.two_pow_pos N
              have s1 := wrap_shl (c := N) (by omega)
              have w5 : IntKind.i64.wrap (((2 ^ N : Nat) : Int) - 1) = ((2 ^ N - 1 : Nat) : Int) := by rw [wrap_i64 (by omega) (by omega)]; omega
              have b3 : (0 : Int) ≤ (N : Int) := by omega
              have w6 : IntKind.i64.wrap ((10 : Nat) : Int) = 10 := by decide
              by_cases e1 : mask (cl t x) N = 2 ^ N - 1
              · have g5 : (mask (cl t x) N : Int) = ((2 ^ N - 1 : Nat) : Int) := by rw [e1]
                by_cases e2 : mask (fun y => cl t y x) N = 2 ^ N - 1
                · have g6 : (mask (fun y => cl t y x) N : Int) = ((2 ^ N - 1 : Nat) : Int) := by rw [e2]
                  simp only [absE, absL, absF, reduceCtorEq, ↓reduceIte, Nat.reduceEqDiff, Nat.reduceAdd, Nat.reduceLT, Nat.reduceMul, Nat.reduceSub, Nat.reduceLeDiff, Int.reduceLT, Int.reduceLE, Int.reduceEq, Option.isSome_some, implies_true, false_implies, Prod.mk.injEq, ne_eq, not_false_eq_true, not_true_eq_false, ge_iff_le, gt_iff_lt, Int.toNat_natCast, Int.reduceToNat, Int.cast_ofNat_Int, Int.natCast_nonneg, h, h', hxn, g2, m0, w4, b3, s1, w5, g5, g6]
                  refine LoopNext.intro (x + 1) ⟨by omega, fun y' h => ?_⟩ (by omega) ⟨[((1,0),(1,0))], rfl, ?_, ?_⟩
                  · by_cases e : y' = x
                    · subst e; exact ⟨hrow, fun _ => ⟨e1, e2⟩⟩
                    · exact hp y' (by omega)
                  · simp [wkEnv, lk, renV, renAt, renTo]
                  · simp [wkMem, wkLoc, Mem.get, assoc, renBlk, renSegs, renSg, renTo, sqS]
                · have g6 : ¬ (mask (fun y => cl t y x) N : Int) = ((2 ^ N - 1 : Nat) : Int) := by omega
                  simp only [absE, absL, absF, reduceCtorEq, ↓reduceIte, Nat.reduceEqDiff, Nat.reduceAdd, Nat.reduceLT, Nat.reduceMul, Nat.reduceSub, Nat.reduceLeDiff, Int.reduceLT, Int.reduceLE, Int.reduceEq, Option.isSome_some, implies_true, false_implies, Prod.mk.injEq, ne_eq, not_false_eq_true, not_true_eq_false, ge_iff_le, gt_iff_lt, Int.toNat_natCast, Int.reduceToNat, Int.cast_ofNat_Int, Int.natCast_nonneg, h, h', hxn, g2, m0, w4, b3, s1, w5, g5, g6, Try.results80]
                  exact fin_false (sqB_false fun hs => e2 ((hs.2.2 x hx').2 hxn).2)
              · have g5 : ¬ (mask (cl t x) N : Int) = ((2 ^ N - 1 : Nat) : Int) := by omega
                simp only [absE, absL, absF, reduceCtorEq, ↓reduceIte, Nat.reduceEqDiff, Nat.reduceAdd, Nat.reduceLT, Nat.reduceMul, Nat.reduceSub, Nat.reduceLeDiff, Int.reduceLT, Int.reduceLE, Int.reduceEq, Option.isSome_some, implies_true, false_implies, Prod.mk.injEq, ne_eq, not_false_eq_true, not_true_eq_false, ge_iff_le, gt_iff_lt, Int.toNat_natCast, Int.reduceToNat, Int.cast_ofNat_Int, Int.natCast_nonneg, h, h', hxn, g2, m0, w4, b3, s1, w5, g5, Try.results80]
                exact fin_false (sqB_false fun hs => e1 ((hs.2.2 x hx').2 hxn).1)
            · have g2 : ¬ (x : Int) < N := by omega
              simp only [absE, absL, absF, reduceCtorEq, ↓reduceIte, Nat.reduceEqDiff, Nat.reduceAdd, Nat.reduceLT, Nat.reduceMul, Nat.reduceSub, Nat.reduceLeDiff, Int.reduceLT, Int.reduceLE, Int.reduceEq, Option.isSome_some, implies_true, false_implies, Prod.mk.injEq, ne_eq, not_false_eq_true, not_true_eq_false, ge_iff_le, gt_iff_lt, Int.toNat_natCast, Int.reduceToNat, Int.cast_ofNat_Int, Int.natCast_nonneg, h, h', hxn, g2, w4]
              refine LoopNext.intro (x + 1) ⟨by omega, fun y' h => ?_⟩ (by omega) ⟨[((1,0),(1,0))], rfl, ?_, ?_⟩
              · by_cases e : y' = x
                · subst e; exact ⟨hrow, fun h => absurd h hxn⟩
                · exact hp y' (by omega)
              · simp [wkEnv, lk, renV, renAt, renTo]
              · simp [wkMem, wkLoc, Mem.get, assoc, renBlk, renSegs, renSg, renTo, sqS]
      · simp only [absE, absL, absF, reduceCtorEq, ↓reduceIte, Nat.reduceEqDiff, Nat.reduceAdd, Nat.reduceLT, Nat.reduceMul, Nat.reduceSub, Nat.reduceLeDiff, Int.reduceLT, Int.reduceLE, Int.reduceEq, Option.isSome_some, implies_true, false_implies, Prod.mk.injEq, ne_eq, not_false_eq_true, not_true_eq_false, ge_iff_le, gt_iff_lt, Int.toNat_natCast, Int.reduceToNat, Int.cast_ofNat_Int, Int.natCast_nonneg, h, Try.results80]
        have hx10 : x = 10 := by omega
        subst hx10
        exact fin_true (sqB_true ⟨hn.1, hn.2, by rw [hN']; exact hp⟩)
  · simp only [absE, absL, absF, reduceCtorEq, ↓reduceIte, Nat.reduceEqDiff, Nat.reduceAdd, Nat.reduceLT, Nat.reduceMul, Nat.reduceSub, Nat.reduceLeDiff, Int.reduceLT, Int.reduceLE, Int.reduceEq, Option.isSome_some, implies_true, false_implies, Prod.mk.injEq, ne_eq, not_false_eq_true, not_true_eq_false, ge_iff_le, gt_iff_lt, Int.toNat_natCast, Int.reduceToNat, Int.cast_ofNat_Int, Int.natCast_nonneg, hn, Try.results80]
    exact fin_false (sqB_false fun hs => hn ⟨hs.1, hs.2.1⟩)

end Go.Proofs.Ytoccbgffekhcaaa
