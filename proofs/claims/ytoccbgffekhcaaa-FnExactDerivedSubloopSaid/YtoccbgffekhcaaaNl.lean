/-
Contracts of functions of the given program, by the abstract walk.
-/
import Derived.Test.YtoccbgffekhcaaaAbsY
import Derived.Test.YtoccbgffekhcaaaNk
namespace Go.Proofs.Ytoccbgffekhcaaa
open Go Go.Abs
set_option linter.unusedVariables false
set_option linter.unusedSectionVars false
set_option linter.unusedSimpArgs false
set_option maxRecDepth 100000
/-! the reference's derived subloops -/
def drY (both : Bool) (N : Nat) (t : List Int) (x s : Nat) : Nat → Nat
  | 0 => s
  | y + 1 => orZ (ascN N t x y) (if both then drY both N t x s y ||| 2 ^ comN N t x y else drY both N t x s y) N
def drX (both : Bool) (N : Nat) (t : List Int) : Nat → Nat
  | 0 => 0
  | x + 1 => drY both N t x (drX both N t x) N
theorem drY_bit {both : Bool} {N : Nat} {t : List Int} {x s w : Nat} : ∀ {n}, (drY both N t x s n).testBit w = true ↔ s.testBit w = true ∨ ∃ y, y < n ∧ ((both = true ∧ comN N t x y = w) ∨ ∃ z, z < N ∧ ascN N t x y z = w)
  | 0 => by simp [drY]
  | n + 1 => by
    have key : (if both then drY both N t x s n ||| 2 ^ comN N t x n else drY both N t x s n).testBit w = true ↔ (drY both N t x s n).testBit w = true ∨ (both = true ∧ comN N t x n = w) := by
      cases both
      · simp
      · simp [Nat.testBit_or, Nat.testBit_two_pow]
    rw [drY, orZ_bit, key, drY_bit (n := n)]
    constructor
    · rintro (((h | ⟨y, hy, h⟩) | h) | h)
      · exact .inl h
      · exact .inr ⟨y, by omega, h⟩
      · exact .inr ⟨n, by omega, .inl h⟩
      · exact .inr ⟨n, by omega, .inr h⟩
    · rintro (h | ⟨y, hy, h⟩)
      · exact .inl (.inl (.inl h))
      · by_cases e : y = n
        · subst e
          rcases h with h | h
          · exact .inl (.inr h)
          · exact .inr h
        · exact .inl (.inl (.inr ⟨y, by omega, h⟩))
theorem drX_bit {both : Bool} {N : Nat} {t : List Int} {w : Nat} : ∀ {n}, (drX both N t n).testBit w = true ↔ ∃ x y, x < n ∧ y < N ∧ ((both = true ∧ comN N t x y = w) ∨ ∃ z, z < N ∧ ascN N t x y z = w)
  | 0 => by simp [drX]
  | n + 1 => by
    rw [drX, drY_bit, drX_bit (n := n)]
    constructor
    · rintro (⟨x, y, a, b, c⟩ | ⟨y, b, c⟩)
      · exact ⟨x, y, by omega, b, c⟩
      · exact ⟨n, y, by omega, b, c⟩
    · rintro ⟨x, y, a, b, c⟩
      by_cases e : x = n
      · subst e; exact .inr ⟨y, b, c⟩
      · exact .inl ⟨x, y, by omega, b, c⟩
theorem drX_dS {both : Bool} {N : Nat} {t : List Int} {w : Nat} : (drX both N t N).testBit w = true ↔ dS both N t w := by
  rw [drX_bit]
  constructor
  · rintro ⟨x, y, hx, hy, (⟨h, e⟩ | ⟨z, hz, e⟩)⟩
    · exact .inl ⟨h, x, y, hx, hy, e⟩
    · exact .inr ⟨x, y, z, hx, hy, hz, e⟩
  · rintro (⟨h, x, y, hx, hy, e⟩ | ⟨x, y, z, hx, hy, hz, e⟩)
    · exact ⟨x, y, hx, hy, .inl ⟨h, e⟩⟩
    · exact ⟨x, y, hx, hy, .inr ⟨z, hz, e⟩⟩
theorem bl_bit {s v : Nat} (hv : v < 10) : (bl s.testBit).set v true = bl (s ||| 2 ^ v).testBit := by
  refine bl_set hv ?_ fun j hj hne => ?_
  · rw [Nat.testBit_or, Nat.testBit_two_pow, decide_eq_true rfl, Bool.or_true]
  · rw [Nat.testBit_or, Nat.testBit_two_pow, decide_eq_false (fun e => hne e.symm), Bool.or_false]
theorem inL_memL {p : Nat → Bool} {N z : Nat} : inL (memL p N) (memL p N).length z ↔ z < N ∧ p z = true := by
  constructor
  · rintro ⟨i, hi, e⟩
    have hm : (memL p N)[i] ∈ memL p N := List.getElem_mem hi
    obtain ⟨w, e1, e2, e3⟩ := memL_mem.1 hm
    have : el (memL p N) i = w := by unfold el; simp [hi, e1]
    have : z = w := by omega
    subst this; exact ⟨e2, e3⟩
  · rintro ⟨hz, hp⟩
    have hm : (z : Int) ∈ memL p N := memL_mem.2 ⟨z, rfl, hz, hp⟩
    obtain ⟨i, hi, e⟩ := List.getElem_of_mem hm
    exact ⟨i, hi, by unfold el; simp [hi, e]⟩
theorem memL_el {p : Nat → Bool} {N j : Nat} (hj : j < (memL p N).length) : (memL p N).getD (0 + j * 1) 0 = ((el (memL p N) j : Nat) : Int) ∧ el (memL p N) j < N := by
  have hm : (memL p N)[j] ∈ memL p N := List.getElem_mem hj
  obtain ⟨w, e1, e2, e3⟩ := memL_mem.1 hm
  have h1 : (memL p N).getD j 0 = (w : Int) := by simp [hj, e1]
  have : el (memL p N) j = w := by unfold el; rw [h1]; omega
  rw [Nat.zero_add, Nat.mul_one, this]
  exact ⟨h1, e2⟩
theorem l06Derived_ok (both : Bool) (N : Nat) (t : List Int) (ht : Bytes 100 t) (hs : SqP N t) (hu : UnitP N t 0) :
    ACalls Try.prog 66 [.agg (sqS N t), .b both] [] (fun v ms ns => v = .ref (.sl 1 0 0 0 (memL (nclB N t (dS both N t)) N).length 1) ∧ ms = [] ∧ ns = [ib (memL (nclB N t (dS both N t)) N)]) := by
  have hN := hs.le
  refine acalls_of_body mix Try.func66 rfl fok66 (Nat.le_of_ble_eq_true rfl) ?_
  unfold abody
  simp only [absE, absL, absF, reduceCtorEq, ↓reduceIte, Nat.reduceEqDiff, Nat.reduceAdd, Nat.reduceLT, Nat.reduceMul, Nat.reduceSub, Nat.reduceLeDiff, Int.reduceLT, Int.reduceLE, Int.reduceEq, Option.isSome_some, implies_true, false_implies, Prod.mk.injEq, ne_eq, not_false_eq_true, not_true_eq_false, ge_iff_le, gt_iff_lt, Int.toNat_natCast, Int.reduceToNat, Int.cast_ofNat_Int, Int.natCast_nonneg, Try.f66]
  refine awpLoop.intro (fun x : Nat => [(1, .b both), (2, .ref (.ptr 1 0 0 0)), (5, .ref (.ptr 4 0 0 0)), (6, .i .i64 x)]) (fun x => ⟨[], [((1, 0), .lv true (sqS N t)), ((4, 0), .lv true ([(0, .bools 10 (bl (drX both N t x).testBit))]))], 7⟩)
    (fun x => x ≤ N) (fun x => N - x) 0 (by omega) ⟨[((1,0),(1,0)), ((4,0),(4,0))], rfl, ?_, ?_⟩ ?_
  · simp [wkEnv, lk, renV, renAt, renTo]
  · simp [wkMem, wkLoc, Mem.get, assoc, renBlk, renSegs, renSg, renTo, drX]; rfl
  · intro x hx
    by_cases h : (x : Int) < N
    · have w := wrap_i64s (show x < 2 ^ 62 by omega)
      have hxN : x < N := by omega
      have hXs : drX both N t (x + 1) = drY both N t x (drX both N t x) N := rfl
      generalize drX both N t x = sx at hXs ⊢
      simp only [absE, absL, absF, reduceCtorEq, ↓reduceIte, Nat.reduceEqDiff, Nat.reduceAdd, Nat.reduceLT, Nat.reduceMul, Nat.reduceSub, Nat.reduceLeDiff, Int.reduceLT, Int.reduceLE, Int.reduceEq, Option.isSome_some, implies_true, false_implies, Prod.mk.injEq, ne_eq, not_false_eq_true, not_true_eq_false, ge_iff_le, gt_iff_lt, Int.toNat_natCast, Int.reduceToNat, Int.cast_ofNat_Int, Int.natCast_nonneg, h]
      refine awpLoop.intro (fun y : Nat => [(1, .b both), (2, .ref (.ptr 1 0 0 0)), (5, .ref (.ptr 4 0 0 0)), (6, .i .i64 x), (7, .i .i64 y)]) (fun y => ⟨[], [((1, 0), .lv true (sqS N t)), ((4, 0), .lv true ([(0, .bools 10 (bl (drY both N t x sx y).testBit))]))], 12⟩)
        (fun y => y ≤ N) (fun y => N - y) 0 (by omega) ⟨[((1,0),(1,0)), ((4,0),(4,0))], rfl, ?_, ?_⟩ ?_
      · simp [wkEnv, lk, renV, renAt, renTo, drY]
      · simp [wkMem, wkLoc, Mem.get, assoc, renBlk, renSegs, renSg, renTo, drY]
      · intro y hy
        by_cases h' : (y : Int) < N
        · have w' := wrap_i64s (show y < 2 ^ 62 by omega)
          have hyN : y < N := by omega
          have hYs : drY both N t x sx (y + 1) = orZ (ascN N t x y) (if both then drY both N t x sx y ||| 2 ^ comN N t x y else drY both N t x sx y) N := rfl
          generalize drY both N t x sx y = sy at hYs ⊢
          have i1 : (x : Int) < 10 := by omega
          have i2 : (y : Int) < 10 := by omega
          have u1 : 0 + x * 10 + y * 1 < 100 := by omega
          have u2 : 0 + y * 10 + x * 1 < 100 := by omega
          have k1 := sq_colget ht x y
          have k2 := sq_colget ht y x
          have j1 := hs.cl_lt hxN hyN
          have j2 := hs.cl_lt hyN hxN
          simp only [absE, absL, absF, reduceCtorEq, ↓reduceIte, Nat.reduceEqDiff, Nat.reduceAdd, Nat.reduceLT, Nat.reduceMul, Nat.reduceSub, Nat.reduceLeDiff, Int.reduceLT, Int.reduceLE, Int.reduceEq, Option.isSome_some, implies_true, false_implies, Prod.mk.injEq, ne_eq, not_false_eq_true, not_true_eq_false, ge_iff_le, gt_iff_lt, Int.toNat_natCast, Int.reduceToNat, Int.cast_ofNat_Int, Int.natCast_nonneg, h', i1, i2, u1, u2, k1, k2]
          repeat refine And.intro (by decide +kernel) ?_
          cases both
          · simp only [absE, absL, absF, reduceCtorEq, ↓reduceIte, Nat.reduceEqDiff, Nat.reduceAdd, Nat.reduceLT, Nat.reduceMul, Nat.reduceSub, Nat.reduceLeDiff, Int.reduceLT, Int.reduceLE, Int.reduceEq, Option.isSome_some, implies_true, false_implies, Prod.mk.injEq, ne_eq, not_false_eq_true, not_true_eq_false, ge_iff_le, gt_iff_lt, Int.toNat_natCast, Int.reduceToNat, Int.cast_ofNat_Int, Int.natCast_nonneg]
            obtain ⟨sc, hsc⟩ : ∃ sc, sc = sy := ⟨_, rfl⟩
            have hYs : drY false N t x sx (y + 1) = orZ (ascN N t x y) sc N := by rw [hYs, hsc]; rfl
            rw [← hsc]
            refine awpLoop.intro (fun z : Nat => [(1, .b false), (2, .ref (.ptr 1 0 0 0)), (5, .ref (.ptr 4 0 0 0)), (6, .i .i64 x), (7, .i .i64 y), (8, .i .u8 (cl t x y)), (10, .i .i64 z)]) (fun z => ⟨[], [((1, 0), .lv true (sqS N t)), ((4, 0), .lv true ([(0, .bools 10 (bl (orZ (ascN N t x y) (sc) z).testBit))]))], 100⟩)
              (fun z => z ≤ N) (fun z => N - z) 0 (by omega) ⟨[((1,0),(1,0)), ((4,0),(4,0))], rfl, ?_, ?_⟩ ?_
            · simp [wkEnv, lk, renV, renAt, renTo, orZ]
            · simp [wkMem, wkLoc, Mem.get, assoc, renBlk, renSegs, renSg, renTo, orZ]
            · intro z hz
              by_cases h3 : (z : Int) < N
              · have w3 := wrap_i64s (show z < 2 ^ 62 by omega)
                have hzN : z < N := by omega
                have j3 := hs.cl_lt hyN hzN
                have i3 : (z : Int) < 10 := by omega
                have i4 : (cl t x y : Int) < 10 := by omega
                have i5 : (cl t y z : Int) < 10 := by omega
                have u3 : 0 + y * 10 + z * 1 < 100 := by omega
                have u4 : 0 + x * 10 + cl t y z * 1 < 100 := by omega
                have u5 : 0 + cl t x y * 10 + z * 1 < 100 := by omega
                have k3 := sq_colget ht y z
                have k4 := sq_colget ht x (cl t y z)
                have k5 := sq_colget ht (cl t x y) z
                have la := ascN_lt hs hxN hyN hzN
                have ia : (ascN N t x y z : Int) < 10 := by omega
                have ua : 0 + ascN N t x y z * 1 + 1 ≤ 10 := by omega
                have hL : ACalls Try.prog 120 [.agg (sqS N t), .i .u8 (cl t x (cl t y z)), .i .u8 (cl t (cl t x y) z)] [] (fun v ms ns => v = .i .u8 (ascN N t x y z) ∧ ms = [] ∧ ns = []) := specLeft_ok N t _ _ ht hs (hs.cl_lt hxN j3) (hs.cl_lt j1 hzN)
                have es : (bl (orZ (ascN N t x y) (sc) z).testBit).set (0 + ascN N t x y z * 1) true = bl (orZ (ascN N t x y) (sc) (z + 1)).testBit := by
                  rw [Nat.zero_add, Nat.mul_one, bl_bit (by omega)]; rfl
                simp only [absE, absL, absF, reduceCtorEq, ↓reduceIte, Nat.reduceEqDiff, Nat.reduceAdd, Nat.reduceLT, Nat.reduceMul, Nat.reduceSub, Nat.reduceLeDiff, Int.reduceLT, Int.reduceLE, Int.reduceEq, Option.isSome_some, implies_true, false_implies, Prod.mk.injEq, ne_eq, not_false_eq_true, not_true_eq_false, ge_iff_le, gt_iff_lt, Int.toNat_natCast, Int.reduceToNat, Int.cast_ofNat_Int, Int.natCast_nonneg, h3, i1, i2, i3, i4, i5, u3, u4, u5, k3, k4, k5]
                repeat first | refine And.intro (by decide +kernel) ?_ | refine And.intro (by omega) ?_
                refine CallsX.none hL ?_
                simp only [absE, absL, absF, reduceCtorEq, ↓reduceIte, Nat.reduceEqDiff, Nat.reduceAdd, Nat.reduceLT, Nat.reduceMul, Nat.reduceSub, Nat.reduceLeDiff, Int.reduceLT, Int.reduceLE, Int.reduceEq, Option.isSome_some, implies_true, false_implies, Prod.mk.injEq, ne_eq, not_false_eq_true, not_true_eq_false, ge_iff_le, gt_iff_lt, Int.toNat_natCast, Int.reduceToNat, Int.cast_ofNat_Int, Int.natCast_nonneg, ia, ua, es]
                repeat first | refine And.intro (by decide +kernel) ?_ | refine And.intro (by omega) ?_
                refine LoopNext.intro (z + 1) (by omega) (by omega) ⟨[((1,0),(1,0)), ((4,0),(4,0))], rfl, ?_, ?_⟩
                · simp [wkEnv, lk, renV, renAt, renTo, w3]
                · simp [wkMem, wkLoc, Mem.get, assoc, renBlk, renSegs, renSg, renTo, w3]
              · have hzN : z = N := by omega
                subst hzN
                simp only [absE, absL, absF, reduceCtorEq, ↓reduceIte, Nat.reduceEqDiff, Nat.reduceAdd, Nat.reduceLT, Nat.reduceMul, Nat.reduceSub, Nat.reduceLeDiff, Int.reduceLT, Int.reduceLE, Int.reduceEq, Option.isSome_some, implies_true, false_implies, Prod.mk.injEq, ne_eq, not_false_eq_true, not_true_eq_false, ge_iff_le, gt_iff_lt, Int.toNat_natCast, Int.reduceToNat, Int.cast_ofNat_Int, Int.natCast_nonneg, h3, w']
                refine LoopNext.intro (y + 1) (by omega) (by omega) ⟨[((1,0),(1,0)), ((4,0),(4,0))], rfl, ?_, ?_⟩
                · simp [wkEnv, lk, renV, renAt, renTo]
                · rw [hYs]; simp [wkMem, wkLoc, Mem.get, assoc, renBlk, renSegs, renSg, renTo]
          · simp only [absE, absL, absF, reduceCtorEq, ↓reduceIte, Nat.reduceEqDiff, Nat.reduceAdd, Nat.reduceLT, Nat.reduceMul, Nat.reduceSub, Nat.reduceLeDiff, Int.reduceLT, Int.reduceLE, Int.reduceEq, Option.isSome_some, implies_true, false_implies, Prod.mk.injEq, ne_eq, not_false_eq_true, not_true_eq_false, ge_iff_le, gt_iff_lt, Int.toNat_natCast, Int.reduceToNat, Int.cast_ofNat_Int, Int.natCast_nonneg]
            have lc := comN_lt hs hxN hyN
            have ic : (comN N t x y : Int) < 10 := by omega
            have uc : 0 + comN N t x y * 1 + 1 ≤ 10 := by omega
            have hC : ACalls Try.prog 120 [.agg (sqS N t), .i .u8 (cl t y x), .i .u8 (cl t x y)] [] (fun v ms ns => v = .i .u8 (comN N t x y) ∧ ms = [] ∧ ns = []) := specLeft_ok N t _ _ ht hs j2 j1
            obtain ⟨sc, hsc⟩ : ∃ sc, sc = sy ||| 2 ^ comN N t x y := ⟨_, rfl⟩
            have ec : (bl sy.testBit).set (0 + comN N t x y * 1) true = bl sc.testBit := by
              rw [hsc, Nat.zero_add, Nat.mul_one, bl_bit (by omega)]
            have hYs : drY true N t x sx (y + 1) = orZ (ascN N t x y) sc N := by rw [hYs, hsc]; rfl
            refine CallsVia.none (hC) ?_
            rintro _ _ _ ⟨rfl, rfl, rfl⟩
            simp only [absE, absL, absF, reduceCtorEq, ↓reduceIte, Nat.reduceEqDiff, Nat.reduceAdd, Nat.reduceLT, Nat.reduceMul, Nat.reduceSub, Nat.reduceLeDiff, Int.reduceLT, Int.reduceLE, Int.reduceEq, Option.isSome_some, implies_true, false_implies, Prod.mk.injEq, ne_eq, not_false_eq_true, not_true_eq_false, ge_iff_le, gt_iff_lt, Int.toNat_natCast, Int.reduceToNat, Int.cast_ofNat_Int, Int.natCast_nonneg, ic, uc, ec]
            repeat first | refine And.intro (by decide +kernel) ?_ | refine And.intro (by omega) ?_
            refine awpLoop.intro (fun z : Nat => [(1, .b true), (2, .ref (.ptr 1 0 0 0)), (5, .ref (.ptr 4 0 0 0)), (6, .i .i64 x), (7, .i .i64 y), (8, .i .u8 (cl t x y)), (10, .i .i64 z)]) (fun z => ⟨[], [((1, 0), .lv true (sqS N t)), ((4, 0), .lv true ([(0, .bools 10 (bl (orZ (ascN N t x y) (sc) z).testBit))]))], 100⟩)
              (fun z => z ≤ N) (fun z => N - z) 0 (by omega) ⟨[((1,0),(1,0)), ((4,0),(4,0))], rfl, ?_, ?_⟩ ?_
            · simp [wkEnv, lk, renV, renAt, renTo, orZ]
            · simp [wkMem, wkLoc, Mem.get, assoc, renBlk, renSegs, renSg, renTo, orZ]
            · intro z hz
              by_cases h3 : (z : Int) < N
              · have w3 := wrap_i64s (show z < 2 ^ 62 by omega)
                have hzN : z < N := by omega
                have j3 := hs.cl_lt hyN hzN
                have i3 : (z : Int) < 10 := by omega
                have i4 : (cl t x y : Int) < 10 := by omega
                have i5 : (cl t y z : Int) < 10 := by omega
                have u3 : 0 + y * 10 + z * 1 < 100 := by omega
                have u4 : 0 + x * 10 + cl t y z * 1 < 100 := by omega
                have u5 : 0 + cl t x y * 10 + z * 1 < 100 := by omega
                have k3 := sq_colget ht y z
                have k4 := sq_colget ht x (cl t y z)
                have k5 := sq_colget ht (cl t x y) z
                have la := ascN_lt hs hxN hyN hzN
                have ia : (ascN N t x y z : Int) < 10 := by omega
                have ua : 0 + ascN N t x y z * 1 + 1 ≤ 10 := by omega
                have hL : ACalls Try.prog 120 [.agg (sqS N t), .i .u8 (cl t x (cl t y z)), .i .u8 (cl t (cl t x y) z)] [] (fun v ms ns => v = .i .u8 (ascN N t x y z) ∧ ms = [] ∧ ns = []) := specLeft_ok N t _ _ ht hs (hs.cl_lt hxN j3) (hs.cl_lt j1 hzN)
                have es : (bl (orZ (ascN N t x y) (sc) z).testBit).set (0 + ascN N t x y z * 1) true = bl (orZ (ascN N t x y) (sc) (z + 1)).testBit := by
                  rw [Nat.zero_add, Nat.mul_one, bl_bit (by omega)]; rfl
                simp only [absE, absL, absF, reduceCtorEq, ↓reduceIte, Nat.reduceEqDiff, Nat.reduceAdd, Nat.reduceLT, Nat.reduceMul, Nat.reduceSub, Nat.reduceLeDiff, Int.reduceLT, Int.reduceLE, Int.reduceEq, Option.isSome_some, implies_true, false_implies, Prod.mk.injEq, ne_eq, not_false_eq_true, not_true_eq_false, ge_iff_le, gt_iff_lt, Int.toNat_natCast, Int.reduceToNat, Int.cast_ofNat_Int, Int.natCast_nonneg, h3, i1, i2, i3, i4, i5, u3, u4, u5, k3, k4, k5]
                repeat first | refine And.intro (by decide +kernel) ?_ | refine And.intro (by omega) ?_
                refine CallsX.none hL ?_
                simp only [absE, absL, absF, reduceCtorEq, ↓reduceIte, Nat.reduceEqDiff, Nat.reduceAdd, Nat.reduceLT, Nat.reduceMul, Nat.reduceSub, Nat.reduceLeDiff, Int.reduceLT, Int.reduceLE, Int.reduceEq, Option.isSome_some, implies_true, false_implies, Prod.mk.injEq, ne_eq, not_false_eq_true, not_true_eq_false, ge_iff_le, gt_iff_lt, Int.toNat_natCast, Int.reduceToNat, Int.cast_ofNat_Int, Int.natCast_nonneg, ia, ua, es]
                repeat first | refine And.intro (by decide +kernel) ?_ | refine And.intro (by omega) ?_
                refine LoopNext.intro (z + 1) (by omega) (by omega) ⟨[((1,0),(1,0)), ((4,0),(4,0))], rfl, ?_, ?_⟩
                · simp [wkEnv, lk, renV, renAt, renTo, w3]
                · simp [wkMem, wkLoc, Mem.get, assoc, renBlk, renSegs, renSg, renTo, w3]
              · have hzN : z = N := by omega
                subst hzN
                simp only [absE, absL, absF, reduceCtorEq, ↓reduceIte, Nat.reduceEqDiff, Nat.reduceAdd, Nat.reduceLT, Nat.reduceMul, Nat.reduceSub, Nat.reduceLeDiff, Int.reduceLT, Int.reduceLE, Int.reduceEq, Option.isSome_some, implies_true, false_implies, Prod.mk.injEq, ne_eq, not_false_eq_true, not_true_eq_false, ge_iff_le, gt_iff_lt, Int.toNat_natCast, Int.reduceToNat, Int.cast_ofNat_Int, Int.natCast_nonneg, h3, w']
                refine LoopNext.intro (y + 1) (by omega) (by omega) ⟨[((1,0),(1,0)), ((4,0),(4,0))], rfl, ?_, ?_⟩
                · simp [wkEnv, lk, renV, renAt, renTo]
                · rw [hYs]; simp [wkMem, wkLoc, Mem.get, assoc, renBlk, renSegs, renSg, renTo]
        · have hyN : y = N := by omega
          subst hyN
          simp only [absE, absL, absF, reduceCtorEq, ↓reduceIte, Nat.reduceEqDiff, Nat.reduceAdd, Nat.reduceLT, Nat.reduceMul, Nat.reduceSub, Nat.reduceLeDiff, Int.reduceLT, Int.reduceLE, Int.reduceEq, Option.isSome_some, implies_true, false_implies, Prod.mk.injEq, ne_eq, not_false_eq_true, not_true_eq_false, ge_iff_le, gt_iff_lt, Int.toNat_natCast, Int.reduceToNat, Int.cast_ofNat_Int, Int.natCast_nonneg, h', w]
          refine LoopNext.intro (x + 1) (by omega) (by omega) ⟨[((1,0),(1,0)), ((4,0),(4,0))], rfl, ?_, ?_⟩
          · simp [wkEnv, lk, renV, renAt, renTo, hXs]
          · simp [wkMem, wkLoc, Mem.get, assoc, renBlk, renSegs, renSg, renTo, hXs]
    · have hxN : x = N := by omega
      subst hxN
      have hS : (fun z => inL (memL (drX both x t x).testBit x) (memL (drX both x t x).testBit x).length z) = dS both x t := by
        funext z
        refine propext ?_
        rw [inL_memL, drX_dS]
        exact ⟨fun h => h.2, fun h => ⟨dS_lt hs h, h⟩⟩
      have hcl := l06Closure_ok x t (memL (drX both x t x).testBit x) (memL (drX both x t x).testBit x).length ht hs hu (by have := memL_len (p := (drX both x t x).testBit) (k := x); omega) fun j hj => memL_el hj
      rw [show inL (memL (drX both x t x).testBit x) (memL (drX both x t x).testBit x).length = dS both x t from hS] at hcl
      generalize hp : (drX both x t x).testBit = p at hcl ⊢
      generalize memL (nclB x t (dS both x t)) x = R at hcl ⊢
      simp only [absE, absL, absF, reduceCtorEq, ↓reduceIte, Nat.reduceEqDiff, Nat.reduceAdd, Nat.reduceLT, Nat.reduceMul, Nat.reduceSub, Nat.reduceLeDiff, Int.reduceLT, Int.reduceLE, Int.reduceEq, Option.isSome_some, implies_true, false_implies, Prod.mk.injEq, ne_eq, not_false_eq_true, not_true_eq_false, ge_iff_le, gt_iff_lt, Int.toNat_natCast, Int.reduceToNat, Int.cast_ofNat_Int, Int.natCast_nonneg, h]
      refine awpLoop.intro (fun i : Nat => [(2, .ref (.ptr 1 0 0 0)), (5, .ref (.ptr 4 0 0 0)), (11, .ref (.sl 11 0 0 0 (memL p i).length 1)), (12, .i .i64 i)]) (fun i => ⟨[], [((1, 0), .lv true (sqS x t)), ((4, 0), .lv true ([(0, .bools 10 (bl p))])), ((11, 0), .lv true ([(0, .ints .i64 (memL p i).length (memL p i))]))], 14⟩)
        (fun i => i ≤ x) (fun i => x - i) 0 (by omega) ⟨[((1,0),(1,0)), ((4,0),(4,0)), ((11,0),(11,0))], rfl, ?_, ?_⟩ ?_
      · simp [wkEnv, lk, renV, renAt, renTo, memL, zeroArr]
      · simp [wkMem, wkLoc, Mem.get, assoc, renBlk, renSegs, renSg, renTo, memL, zeroArr]
      · intro i hi
        have hl := memL_len (p := p) (k := i)
        by_cases h4 : (i : Int) < x
        · have w4 := wrap_i64s (show i < 2 ^ 62 by omega)
          have ii : (i : Int) < 10 := by omega
          have iv : 0 + i * 1 < 10 := by omega
          have e4 : (bl p).getD (0 + i * 1) false = p i := by rw [Nat.zero_add, Nat.mul_one]; exact bl_get (by omega)
          cases hb : p i
          · rw [hb] at e4
            simp only [absE, absL, absF, reduceCtorEq, ↓reduceIte, Nat.reduceEqDiff, Nat.reduceAdd, Nat.reduceLT, Nat.reduceMul, Nat.reduceSub, Nat.reduceLeDiff, Int.reduceLT, Int.reduceLE, Int.reduceEq, Option.isSome_some, implies_true, false_implies, Prod.mk.injEq, ne_eq, not_false_eq_true, not_true_eq_false, ge_iff_le, gt_iff_lt, Int.toNat_natCast, Int.reduceToNat, Int.cast_ofNat_Int, Int.natCast_nonneg, h4, ii, iv, e4]
            refine LoopNext.intro (i + 1) (by omega) (by omega) ⟨[((1,0),(1,0)), ((4,0),(4,0)), ((11,0),(11,0))], rfl, ?_, ?_⟩
            · simp [wkEnv, lk, renV, renAt, renTo, w4, memL, hb]
            · simp [wkMem, wkLoc, Mem.get, assoc, renBlk, renSegs, renSg, renTo, w4, memL, hb]
          · rw [hb] at e4
            have mx : (memL p i).length * 1 = (memL p i).length := Nat.mul_one _
            simp only [absE, absL, absF, reduceCtorEq, ↓reduceIte, Nat.reduceEqDiff, Nat.reduceAdd, Nat.reduceLT, Nat.reduceMul, Nat.reduceSub, Nat.reduceLeDiff, Int.reduceLT, Int.reduceLE, Int.reduceEq, Option.isSome_some, implies_true, false_implies, Prod.mk.injEq, ne_eq, not_false_eq_true, not_true_eq_false, ge_iff_le, gt_iff_lt, Int.toNat_natCast, Int.reduceToNat, Int.cast_ofNat_Int, Int.natCast_nonneg, h4, ii, iv, e4, mx]
            repeat first | refine And.intro (by decide +kernel) ?_ | refine And.intro (by omega) ?_
            refine LoopNext.intro (i + 1) (by omega) (by omega) ⟨[((1,0),(1,0)), ((4,0),(4,0)), ((24,0),(11,0))], rfl, ?_, ?_⟩
            · simp [wkEnv, lk, renV, renAt, renTo, w4, memL, hb]
            · simp [wkMem, wkLoc, Mem.get, assoc, renBlk, renSegs, renSg, renTo, w4, memL, hb]
        · have hix : i = x := by omega
          subst hix
          simp only [absE, absL, absF, reduceCtorEq, ↓reduceIte, Nat.reduceEqDiff, Nat.reduceAdd, Nat.reduceLT, Nat.reduceMul, Nat.reduceSub, Nat.reduceLeDiff, Int.reduceLT, Int.reduceLE, Int.reduceEq, Option.isSome_some, implies_true, false_implies, Prod.mk.injEq, ne_eq, not_false_eq_true, not_true_eq_false, ge_iff_le, gt_iff_lt, Int.toNat_natCast, Int.reduceToNat, Int.cast_ofNat_Int, Int.natCast_nonneg, h4]
          refine CallsVia.args [(11, 0)] hcl (by simp) (by simp [Mem.get, assoc]) rfl rfl ?_
          rintro _ _ _ ⟨rfl, rfl, rfl⟩
          simp only [absE, absL, absF, reduceCtorEq, ↓reduceIte, Nat.reduceEqDiff, Nat.reduceAdd, Nat.reduceLT, Nat.reduceMul, Nat.reduceSub, Nat.reduceLeDiff, Int.reduceLT, Int.reduceLE, Int.reduceEq, Option.isSome_some, implies_true, false_implies, Prod.mk.injEq, ne_eq, not_false_eq_true, not_true_eq_false, ge_iff_le, gt_iff_lt, Int.toNat_natCast, Int.reduceToNat, Int.cast_ofNat_Int, Int.natCast_nonneg, ib, Try.results66]
          exact ⟨[(20, 0)], by simp, by simp, by simp [renV, renAt, renFin, idx], by simp, by simp [renBlk, renSegs, renSg, Mem.get, assoc, ib]⟩
noncomputable def drvL (both : Bool) (n : Int) (t : List Int) : List Int := memL (nclB n.toNat t (dS both n.toNat t)) n.toNat
theorem implAscSub_yes (n : Int) (t : List Int) (ht : Bytes 100 t) (h : loopB n t = true) :
    ACalls Try.prog 25 [.agg (sqS n t)] [] (fun v ms ns => v = listV (drvL false n t) ∧ ms = [] ∧ ns = listN (drvL false n t)) := by
  have hu := lcd1_unit h
  obtain ⟨N, rfl, hs⟩ := loopB_nat h
  rw [Int.toNat_natCast] at hu
  have hls := loopSet_yes N t 68 (setM (nclB N t (dS false N t)) N) ht h (setM_small hs.le) (ascSub1_ok N t ht hs hu)
  rw [setM_list hs.le] at hls
  unfold drvL
  rw [Int.toNat_natCast]
  refine acalls_of_body mix Try.func25 rfl fok25 (Nat.le_of_ble_eq_true rfl) ?_
  unfold abody
  simp only [absE, absL, absF, reduceCtorEq, ↓reduceIte, Nat.reduceEqDiff, Nat.reduceAdd, Nat.reduceLT, Nat.reduceMul, Nat.reduceSub, Nat.reduceLeDiff, Int.reduceLT, Int.reduceLE, Int.reduceEq, Option.isSome_some, implies_true, false_implies, Prod.mk.injEq, ne_eq, not_false_eq_true, not_true_eq_false, ge_iff_le, gt_iff_lt, Int.toNat_natCast, Int.reduceToNat, Int.cast_ofNat_Int, Int.natCast_nonneg, Try.f25]
  refine CallsVia.none (hls) ?_
  rintro _ _ _ ⟨rfl, rfl, rfl⟩
  simp only [absE, absL, absF, reduceCtorEq, ↓reduceIte, Nat.reduceEqDiff, Nat.reduceAdd, Nat.reduceLT, Nat.reduceMul, Nat.reduceSub, Nat.reduceLeDiff, Int.reduceLT, Int.reduceLE, Int.reduceEq, Option.isSome_some, implies_true, false_implies, Prod.mk.injEq, ne_eq, not_false_eq_true, not_true_eq_false, ge_iff_le, gt_iff_lt, Int.toNat_natCast, Int.reduceToNat, Int.cast_ofNat_Int, Int.natCast_nonneg, listV, listN, Try.results25]
  exact ⟨[(5, 0)], by simp, by simp, by simp [renV, renVs, renAt, renFin, idx, listV], by simp, by simp [renBlk, renSegs, renSg, Mem.get, assoc, listN]⟩
theorem implAscSub_no (n : Int) (t : List Int) (ht : Bytes 100 t) (h : loopB n t = false) :
    ACalls Try.prog 25 [.agg (sqS n t)] [] (fun v ms ns => v = .tup [.ref .nils, .i .i64 1] ∧ ms = [] ∧ ns = []) := by
  refine acalls_of_body mix Try.func25 rfl fok25 (Nat.le_of_ble_eq_true rfl) ?_
  unfold abody
  simp only [absE, absL, absF, reduceCtorEq, ↓reduceIte, Nat.reduceEqDiff, Nat.reduceAdd, Nat.reduceLT, Nat.reduceMul, Nat.reduceSub, Nat.reduceLeDiff, Int.reduceLT, Int.reduceLE, Int.reduceEq, Option.isSome_some, implies_true, false_implies, Prod.mk.injEq, ne_eq, not_false_eq_true, not_true_eq_false, ge_iff_le, gt_iff_lt, Int.toNat_natCast, Int.reduceToNat, Int.cast_ofNat_Int, Int.natCast_nonneg, Try.f25]
  refine CallsVia.none (loopSet_no n t 68 ht h) ?_
  rintro _ _ _ ⟨rfl, rfl, rfl⟩
  simp only [absE, absL, absF, reduceCtorEq, ↓reduceIte, Nat.reduceEqDiff, Nat.reduceAdd, Nat.reduceLT, Nat.reduceMul, Nat.reduceSub, Nat.reduceLeDiff, Int.reduceLT, Int.reduceLE, Int.reduceEq, Option.isSome_some, implies_true, false_implies, Prod.mk.injEq, ne_eq, not_false_eq_true, not_true_eq_false, ge_iff_le, gt_iff_lt, Int.toNat_natCast, Int.reduceToNat, Int.cast_ofNat_Int, Int.natCast_nonneg, Try.results25]
  exact ⟨[], by simp, by simp, by simp [renV, renVs, renAt]⟩
theorem implDrv_yes (n : Int) (t : List Int) (ht : Bytes 100 t) (h : loopB n t = true) :
    ACalls Try.prog 27 [.agg (sqS n t)] [] (fun v ms ns => v = listV (drvL true n t) ∧ ms = [] ∧ ns = listN (drvL true n t)) := by
  have hu := lcd1_unit h
  obtain ⟨N, rfl, hs⟩ := loopB_nat h
  rw [Int.toNat_natCast] at hu
  have hls := loopSet_yes N t 70 (setM (nclB N t (dS true N t)) N) ht h (setM_small hs.le) (drvSub1_ok N t ht hs hu)
  rw [setM_list hs.le] at hls
  unfold drvL
  rw [Int.toNat_natCast]
  refine acalls_of_body mix Try.func27 rfl fok27 (Nat.le_of_ble_eq_true rfl) ?_
  unfold abody
  simp only [absE, absL, absF, reduceCtorEq, ↓reduceIte, Nat.reduceEqDiff, Nat.reduceAdd, Nat.reduceLT, Nat.reduceMul, Nat.reduceSub, Nat.reduceLeDiff, Int.reduceLT, Int.reduceLE, Int.reduceEq, Option.isSome_some, implies_true, false_implies, Prod.mk.injEq, ne_eq, not_false_eq_true, not_true_eq_false, ge_iff_le, gt_iff_lt, Int.toNat_natCast, Int.reduceToNat, Int.cast_ofNat_Int, Int.natCast_nonneg, Try.f27]
  refine CallsVia.none (hls) ?_
  rintro _ _ _ ⟨rfl, rfl, rfl⟩
  simp only [absE, absL, absF, reduceCtorEq, ↓reduceIte, Nat.reduceEqDiff, Nat.reduceAdd, Nat.reduceLT, Nat.reduceMul, Nat.reduceSub, Nat.reduceLeDiff, Int.reduceLT, Int.reduceLE, Int.reduceEq, Option.isSome_some, implies_true, false_implies, Prod.mk.injEq, ne_eq, not_false_eq_true, not_true_eq_false, ge_iff_le, gt_iff_lt, Int.toNat_natCast, Int.reduceToNat, Int.cast_ofNat_Int, Int.natCast_nonneg, listV, listN, Try.results27]
  exact ⟨[(5, 0)], by simp, by simp, by simp [renV, renVs, renAt, renFin, idx, listV], by simp, by simp [renBlk, renSegs, renSg, Mem.get, assoc, listN]⟩
theorem implDrv_no (n : Int) (t : List Int) (ht : Bytes 100 t) (h : loopB n t = false) :
    ACalls Try.prog 27 [.agg (sqS n t)] [] (fun v ms ns => v = .tup [.ref .nils, .i .i64 1] ∧ ms = [] ∧ ns = []) := by
  refine acalls_of_body mix Try.func27 rfl fok27 (Nat.le_of_ble_eq_true rfl) ?_
  unfold abody
  simp only [absE, absL, absF, reduceCtorEq, ↓reduceIte, Nat.reduceEqDiff, Nat.reduceAdd, Nat.reduceLT, Nat.reduceMul, Nat.reduceSub, Nat.reduceLeDiff, Int.reduceLT, Int.reduceLE, Int.reduceEq, Option.isSome_some, implies_true, false_implies, Prod.mk.injEq, ne_eq, not_false_eq_true, not_true_eq_false, ge_iff_le, gt_iff_lt, Int.toNat_natCast, Int.reduceToNat, Int.cast_ofNat_Int, Int.natCast_nonneg, Try.f27]
  refine CallsVia.none (loopSet_no n t 70 ht h) ?_
  rintro _ _ _ ⟨rfl, rfl, rfl⟩
  simp only [absE, absL, absF, reduceCtorEq, ↓reduceIte, Nat.reduceEqDiff, Nat.reduceAdd, Nat.reduceLT, Nat.reduceMul, Nat.reduceSub, Nat.reduceLeDiff, Int.reduceLT, Int.reduceLE, Int.reduceEq, Option.isSome_some, implies_true, false_implies, Prod.mk.injEq, ne_eq, not_false_eq_true, not_true_eq_false, ge_iff_le, gt_iff_lt, Int.toNat_natCast, Int.reduceToNat, Int.cast_ofNat_Int, Int.natCast_nonneg, Try.results27]
  exact ⟨[], by simp, by simp, by simp [renV, renVs, renAt]⟩
theorem specAscSub_yes (n : Int) (t : List Int) (ht : Bytes 100 t) (h : loopB n t = true) :
    ACalls Try.prog 24 [.agg (sqS n t)] [] (fun v ms ns => v = listV (drvL false n t) ∧ ms = [] ∧ ns = listN (drvL false n t)) := by
  have hu := lcd1_unit h
  obtain ⟨N, rfl, hs⟩ := loopB_nat h
  rw [Int.toNat_natCast] at hu
  have hd := l06Derived_ok false N t ht hs hu
  unfold drvL
  rw [Int.toNat_natCast]
  refine acalls_of_body mix Try.func24 rfl fok24 (Nat.le_of_ble_eq_true rfl) ?_
  unfold abody
  simp only [absE, absL, absF, reduceCtorEq, ↓reduceIte, Nat.reduceEqDiff, Nat.reduceAdd, Nat.reduceLT, Nat.reduceMul, Nat.reduceSub, Nat.reduceLeDiff, Int.reduceLT, Int.reduceLE, Int.reduceEq, Option.isSome_some, implies_true, false_implies, Prod.mk.injEq, ne_eq, not_false_eq_true, not_true_eq_false, ge_iff_le, gt_iff_lt, Int.toNat_natCast, Int.reduceToNat, Int.cast_ofNat_Int, Int.natCast_nonneg, Try.f24]
  refine CallsVia.none (l01Loop_ok N t ht) ?_
  rintro _ _ _ ⟨rfl, rfl, rfl⟩
  simp only [absE, absL, absF, reduceCtorEq, ↓reduceIte, Nat.reduceEqDiff, Nat.reduceAdd, Nat.reduceLT, Nat.reduceMul, Nat.reduceSub, Nat.reduceLeDiff, Int.reduceLT, Int.reduceLE, Int.reduceEq, Option.isSome_some, implies_true, false_implies, Prod.mk.injEq, ne_eq, not_false_eq_true, not_true_eq_false, ge_iff_le, gt_iff_lt, Int.toNat_natCast, Int.reduceToNat, Int.cast_ofNat_Int, Int.natCast_nonneg, h]
  refine CallsVia.none (hd) ?_
  rintro _ _ _ ⟨rfl, rfl, rfl⟩
  simp only [absE, absL, absF, reduceCtorEq, ↓reduceIte, Nat.reduceEqDiff, Nat.reduceAdd, Nat.reduceLT, Nat.reduceMul, Nat.reduceSub, Nat.reduceLeDiff, Int.reduceLT, Int.reduceLE, Int.reduceEq, Option.isSome_some, implies_true, false_implies, Prod.mk.injEq, ne_eq, not_false_eq_true, not_true_eq_false, ge_iff_le, gt_iff_lt, Int.toNat_natCast, Int.reduceToNat, Int.cast_ofNat_Int, Int.natCast_nonneg, listV, listN, ib, Try.results24]
  exact ⟨[(8, 0)], by simp, by simp, by simp [renV, renVs, renAt, renFin, idx, listV], by simp, by simp [renBlk, renSegs, renSg, Mem.get, assoc, listN]⟩
theorem specAscSub_no (n : Int) (t : List Int) (ht : Bytes 100 t) (h : loopB n t = false) :
    ACalls Try.prog 24 [.agg (sqS n t)] [] (fun v ms ns => v = .tup [.ref .nils, .i .i64 1] ∧ ms = [] ∧ ns = []) := by
  refine acalls_of_body mix Try.func24 rfl fok24 (Nat.le_of_ble_eq_true rfl) ?_
  unfold abody
  simp only [absE, absL, absF, reduceCtorEq, ↓reduceIte, Nat.reduceEqDiff, Nat.reduceAdd, Nat.reduceLT, Nat.reduceMul, Nat.reduceSub, Nat.reduceLeDiff, Int.reduceLT, Int.reduceLE, Int.reduceEq, Option.isSome_some, implies_true, false_implies, Prod.mk.injEq, ne_eq, not_false_eq_true, not_true_eq_false, ge_iff_le, gt_iff_lt, Int.toNat_natCast, Int.reduceToNat, Int.cast_ofNat_Int, Int.natCast_nonneg, Try.f24]
  refine CallsVia.none (l01Loop_ok n t ht) ?_
  rintro _ _ _ ⟨rfl, rfl, rfl⟩
  simp only [absE, absL, absF, reduceCtorEq, ↓reduceIte, Nat.reduceEqDiff, Nat.reduceAdd, Nat.reduceLT, Nat.reduceMul, Nat.reduceSub, Nat.reduceLeDiff, Int.reduceLT, Int.reduceLE, Int.reduceEq, Option.isSome_some, implies_true, false_implies, Prod.mk.injEq, ne_eq, not_false_eq_true, not_true_eq_false, ge_iff_le, gt_iff_lt, Int.toNat_natCast, Int.reduceToNat, Int.cast_ofNat_Int, Int.natCast_nonneg, h, Try.results24]
  exact ⟨[], by simp, by simp, by simp [renV, renVs, renAt]⟩
theorem specDrv_yes (n : Int) (t : List Int) (ht : Bytes 100 t) (h : loopB n t = true) :
    ACalls Try.prog 26 [.agg (sqS n t)] [] (fun v ms ns => v = listV (drvL true n t) ∧ ms = [] ∧ ns = listN (drvL true n t)) := by
  have hu := lcd1_unit h
  obtain ⟨N, rfl, hs⟩ := loopB_nat h
  rw [Int.toNat_natCast] at hu
  have hd := l06Derived_ok true N t ht hs hu
  unfold drvL
  rw [Int.toNat_natCast]
  refine acalls_of_body mix Try.func26 rfl fok26 (Nat.le_of_ble_eq_true rfl) ?_
  unfold abody
  simp only [absE, absL, absF, reduceCtorEq, ↓reduceIte, Nat.reduceEqDiff, Nat.reduceAdd, Nat.reduceLT, Nat.reduceMul, Nat.reduceSub, Nat.reduceLeDiff, Int.reduceLT, Int.reduceLE, Int.reduceEq, Option.isSome_some, implies_true, false_implies, Prod.mk.injEq, ne_eq, not_false_eq_true, not_true_eq_false, ge_iff_le, gt_iff_lt, Int.toNat_natCast, Int.reduceToNat, Int.cast_ofNat_Int, Int.natCast_nonneg, Try.f26]
  refine CallsVia.none (l01Loop_ok N t ht) ?_
  rintro _ _ _ ⟨rfl, rfl, rfl⟩
  simp only [absE, absL, absF, reduceCtorEq, ↓reduceIte, Nat.reduceEqDiff, Nat.reduceAdd, Nat.reduceLT, Nat.reduceMul, Nat.reduceSub, Nat.reduceLeDiff, Int.reduceLT, Int.reduceLE, Int.reduceEq, Option.isSome_some, implies_true, false_implies, Prod.mk.injEq, ne_eq, not_false_eq_true, not_true_eq_false, ge_iff_le, gt_iff_lt, Int.toNat_natCast, Int.reduceToNat, Int.cast_ofNat_Int, Int.natCast_nonneg, h]
  refine CallsVia.none (hd) ?_
  rintro _ _ _ ⟨rfl, rfl, rfl⟩
  simp only [absE, absL, absF, reduceCtorEq, ↓reduceIte, Nat.reduceEqDiff, Nat.reduceAdd, Nat.reduceLT, Nat.reduceMul, Nat.reduceSub, Nat.reduceLeDiff, Int.reduceLT, Int.reduceLE, Int.reduceEq, Option.isSome_some, implies_true, false_implies, Prod.mk.injEq, ne_eq, not_false_eq_true, not_true_eq_false, ge_iff_le, gt_iff_lt, Int.toNat_natCast, Int.reduceToNat, Int.cast_ofNat_Int, Int.natCast_nonneg, listV, listN, ib, Try.results26]
  exact ⟨[(8, 0)], by simp, by simp, by simp [renV, renVs, renAt, renFin, idx, listV], by simp, by simp [renBlk, renSegs, renSg, Mem.get, assoc, listN]⟩
theorem specDrv_no (n : Int) (t : List Int) (ht : Bytes 100 t) (h : loopB n t = false) :
    ACalls Try.prog 26 [.agg (sqS n t)] [] (fun v ms ns => v = .tup [.ref .nils, .i .i64 1] ∧ ms = [] ∧ ns = []) := by
  refine acalls_of_body mix Try.func26 rfl fok26 (Nat.le_of_ble_eq_true rfl) ?_
  unfold abody
  simp only [absE, absL, absF, reduceCtorEq, ↓reduceIte, Nat.reduceEqDiff, Nat.reduceAdd, Nat.reduceLT, Nat.reduceMul, Nat.reduceSub, Nat.reduceLeDiff, Int.reduceLT, Int.reduceLE, Int.reduceEq, Option.isSome_some, implies_true, false_implies, Prod.mk.injEq, ne_eq, not_false_eq_true, not_true_eq_false, ge_iff_le, gt_iff_lt, Int.toNat_natCast, Int.reduceToNat, Int.cast_ofNat_Int, Int.natCast_nonneg, Try.f26]
  refine CallsVia.none (l01Loop_ok n t ht) ?_
  rintro _ _ _ ⟨rfl, rfl, rfl⟩
  simp only [absE, absL, absF, reduceCtorEq, ↓reduceIte, Nat.reduceEqDiff, Nat.reduceAdd, Nat.reduceLT, Nat.reduceMul, Nat.reduceSub, Nat.reduceLeDiff, Int.reduceLT, Int.reduceLE, Int.reduceEq, Option.isSome_some, implies_true, false_implies, Prod.mk.injEq, ne_eq, not_false_eq_true, not_true_eq_false, ge_iff_le, gt_iff_lt, Int.toNat_natCast, Int.reduceToNat, Int.cast_ofNat_Int, Int.natCast_nonneg, h, Try.results26]
  exact ⟨[], by simp, by simp, by simp [renV, renVs, renAt]⟩
theorem drvL_len {both : Bool} {n : Int} {t : List Int} (h : loopB n t = true) : (drvL both n t).length < 2 ^ 40 := nucList_len h

end Go.Proofs.Ytoccbgffekhcaaa
