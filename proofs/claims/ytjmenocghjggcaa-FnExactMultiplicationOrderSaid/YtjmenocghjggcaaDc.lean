/-
Contracts of functions of the given program, by the abstract walk.
-/
import Derived.Test.YtjmenocghjggcaaAbsY
import Derived.Test.YtjmenocghjggcaaDa
import Derived.Test.YtjmenocghjggcaaCc
namespace Go.Proofs.Ytjmenocghjggcaa
open Go Go.Abs
set_option linter.unusedVariables false
set_option linter.unusedSectionVars false
set_option linter.unusedSimpArgs false
set_option maxRecDepth 100000
def UnitP (N : Nat) (t : List Int) (e : Nat) : Prop := ∀ x, x < N → cl t e x = x ∧ cl t x e = x
open Classical in
noncomputable def unitB (N : Nat) (t : List Int) (e : Nat) : Bool := decide (UnitP N t e)
theorem unitB_true {N : Nat} {t : List Int} {e : Nat} (h : UnitP N t e) : unitB N t e = true := by unfold unitB; exact @decide_eq_true _ (_) h
theorem unitB_false {N : Nat} {t : List Int} {e : Nat} (h : ¬UnitP N t e) : unitB N t e = false := by unfold unitB; exact @decide_eq_false _ (_) h
theorem unitB_iff {N : Nat} {t : List Int} {e : Nat} : unitB N t e = true ↔ UnitP N t e := by unfold unitB; exact @decide_eq_true_iff _ (_)
noncomputable def loopB (n : Int) (t : List Int) : Bool := sqB n t && unitB n.toNat t 0

theorem isUnit_ok (N : Nat) (t : List Int) (e : Nat) (ht : Bytes 100 t) (hs : SqP N t) (he : e < N) :
    ACalls Try.prog 86 [.agg (sqS N t), .i .u8 e] [] (fun v ms ns => v = .b (unitB N t e) ∧ ms = [] ∧ ns = []) := by
  have hN := hs.le
  refine acalls_of_body mix Try.func86 rfl fok86 (Nat.le_of_ble_eq_true rfl) ?_
  unfold abody
  simp only [absE, absL, absF, reduceCtorEq, ↓reduceIte, Nat.reduceEqDiff, Nat.reduceAdd, Nat.reduceLT, Nat.reduceMul, Nat.reduceSub, Nat.reduceLeDiff, Int.reduceLT, Int.reduceLE, Int.reduceEq, Option.isSome_some, implies_true, false_implies, Prod.mk.injEq, ne_eq, not_false_eq_true, not_true_eq_false, ge_iff_le, gt_iff_lt, Int.toNat_natCast, Int.reduceToNat, Int.cast_ofNat_Int, Int.natCast_nonneg, Try.f86]
  refine CallsVia.none (elements_ok N t hN) ?_
  rintro _ _ _ ⟨rfl, rfl, rfl⟩
  simp only [absE, absL, absF, reduceCtorEq, ↓reduceIte, Nat.reduceEqDiff, Nat.reduceAdd, Nat.reduceLT, Nat.reduceMul, Nat.reduceSub, Nat.reduceLeDiff, Int.reduceLT, Int.reduceLE, Int.reduceEq, Option.isSome_some, implies_true, false_implies, Prod.mk.injEq, ne_eq, not_false_eq_true, not_true_eq_false, ge_iff_le, gt_iff_lt, Int.toNat_natCast, Int.reduceToNat, Int.cast_ofNat_Int, Int.natCast_nonneg]
  refine awpLoop.intro (fun x : Nat => [(1, .i .u8 e), (2, .ref (.ptr 1 0 0 0)), (8, .ref (.sl 4 0 0 0 N 1)), (9, .i .i64 N), (10, .i .i64 x)]) (fun x => ⟨[], [((1, 0), .lv true (sqS N t)), ((4, 0), .lv true ([(0, .ints .u8 N (bytesTo N))]))], 7⟩)
    (fun x => x ≤ N ∧ ∀ j, j < x → cl t e j = j ∧ cl t j e = j) (fun x => N - x) 0 ⟨by omega, fun j hj => absurd hj (by omega)⟩ ⟨[((1,0),(1,0)), ((4,0),(4,0))], rfl, ?_, ?_⟩ ?_
  · simp [wkEnv, lk, renV, renAt, renTo]
  · simp [wkMem, wkLoc, Mem.get, assoc, renBlk, renSegs, renSg, renTo]
  · rintro x ⟨hx, hp⟩
    by_cases h : (x : Int) < N
    · have w := wrap_i64s (show x < 2 ^ 62 by omega)
      have b1 : (bytesTo N).getD (0 + x * 1) 0 = (x : Int) := by rw [Nat.zero_add, Nat.mul_one]; exact bytesTo_get (by omega)
      have v1 : 0 + x * 1 < N := by omega
      have i1 : (x : Int) < 10 := by omega
      have i2 : (e : Int) < 10 := by omega
      have u1 : 0 + e * 10 + x * 1 < 100 := by omega
      have u2 : 0 + x * 10 + e * 1 < 100 := by omega
      have k1 := sq_colget ht e x
      have k2 := sq_colget ht x e
      by_cases h1 : cl t e x = x
      · have g1 : (cl t e x : Int) = x := by omega
        by_cases h2 : cl t x e = x
        · have g2 : (cl t x e : Int) = x := by omega
          simp only [absE, absL, absF, reduceCtorEq, ↓reduceIte, Nat.reduceEqDiff, Nat.reduceAdd, Nat.reduceLT, Nat.reduceMul, Nat.reduceSub, Nat.reduceLeDiff, Int.reduceLT, Int.reduceLE, Int.reduceEq, Option.isSome_some, implies_true, false_implies, Prod.mk.injEq, ne_eq, not_false_eq_true, not_true_eq_false, ge_iff_le, gt_iff_lt, Int.toNat_natCast, Int.reduceToNat, Int.cast_ofNat_Int, Int.natCast_nonneg, h, b1, v1, i1, i2, u1, u2, k1, k2, g1, g2]
          refine LoopNext.intro (x + 1) ⟨by omega, fun j hj => ?_⟩ (by omega) ⟨[((1,0),(1,0)), ((4,0),(4,0))], rfl, ?_, ?_⟩
          · by_cases ej : j = x
            · subst ej; exact ⟨h1, h2⟩
            · exact hp j (by omega)
          · simp [wkEnv, lk, renV, renAt, renTo, w]
          · simp [wkMem, wkLoc, Mem.get, assoc, renBlk, renSegs, renSg, renTo, w]
        · have g2 : ¬(cl t x e : Int) = x := by omega
          simp only [absE, absL, absF, reduceCtorEq, ↓reduceIte, Nat.reduceEqDiff, Nat.reduceAdd, Nat.reduceLT, Nat.reduceMul, Nat.reduceSub, Nat.reduceLeDiff, Int.reduceLT, Int.reduceLE, Int.reduceEq, Option.isSome_some, implies_true, false_implies, Prod.mk.injEq, ne_eq, not_false_eq_true, not_true_eq_false, ge_iff_le, gt_iff_lt, Int.toNat_natCast, Int.reduceToNat, Int.cast_ofNat_Int, Int.natCast_nonneg, h, b1, v1, i1, i2, u1, u2, k1, k2, g1, g2, Try.results86]
          exact fin_false (unitB_false fun hu => h2 (hu x (by omega)).2)
      · have g1 : ¬(cl t e x : Int) = x := by omega
        simp only [absE, absL, absF, reduceCtorEq, ↓reduceIte, Nat.reduceEqDiff, Nat.reduceAdd, Nat.reduceLT, Nat.reduceMul, Nat.reduceSub, Nat.reduceLeDiff, Int.reduceLT, Int.reduceLE, Int.reduceEq, Option.isSome_some, implies_true, false_implies, Prod.mk.injEq, ne_eq, not_false_eq_true, not_true_eq_false, ge_iff_le, gt_iff_lt, Int.toNat_natCast, Int.reduceToNat, Int.cast_ofNat_Int, Int.natCast_nonneg, h, b1, v1, i1, i2, u1, u2, k1, k2, g1, Try.results86]
        exact fin_false (unitB_false fun hu => h1 (hu x (by omega)).1)
    · simp only [absE, absL, absF, reduceCtorEq, ↓reduceIte, Nat.reduceEqDiff, Nat.reduceAdd, Nat.reduceLT, Nat.reduceMul, Nat.reduceSub, Nat.reduceLeDiff, Int.reduceLT, Int.reduceLE, Int.reduceEq, Option.isSome_some, implies_true, false_implies, Prod.mk.injEq, ne_eq, not_false_eq_true, not_true_eq_false, ge_iff_le, gt_iff_lt, Int.toNat_natCast, Int.reduceToNat, Int.cast_ofNat_Int, Int.natCast_nonneg, h, Try.results86]
      exact fin_true (unitB_true fun j hj => hp j (by omega))

theorem isLoop_ok (n : Int) (t : List Int) (ht : Bytes 100 t) : ACalls Try.prog 59 [.agg (sqS n t)] [] (fun v ms ns => v = .b (loopB n t) ∧ ms = [] ∧ ns = []) := by
  refine acalls_of_body mix Try.func59 rfl fok59 (Nat.le_of_ble_eq_true rfl) ?_
  unfold abody
  simp only [absE, absL, absF, reduceCtorEq, ↓reduceIte, Nat.reduceEqDiff, Nat.reduceAdd, Nat.reduceLT, Nat.reduceMul, Nat.reduceSub, Nat.reduceLeDiff, Int.reduceLT, Int.reduceLE, Int.reduceEq, Option.isSome_some, implies_true, false_implies, Prod.mk.injEq, ne_eq, not_false_eq_true, not_true_eq_false, ge_iff_le, gt_iff_lt, Int.toNat_natCast, Int.reduceToNat, Int.cast_ofNat_Int, Int.natCast_nonneg, Try.f59]
  refine CallsVia.none (isSquare_ok n t ht) ?_
  rintro _ _ _ ⟨rfl, rfl, rfl⟩
  cases h1 : sqB n t
  · simp only [absE, absL, absF, reduceCtorEq, ↓reduceIte, Nat.reduceEqDiff, Nat.reduceAdd, Nat.reduceLT, Nat.reduceMul, Nat.reduceSub, Nat.reduceLeDiff, Int.reduceLT, Int.reduceLE, Int.reduceEq, Option.isSome_some, implies_true, false_implies, Prod.mk.injEq, ne_eq, not_false_eq_true, not_true_eq_false, ge_iff_le, gt_iff_lt, Int.toNat_natCast, Int.reduceToNat, Int.cast_ofNat_Int, Int.natCast_nonneg, Try.results59]
    exact fin_false (by simp [loopB, h1])
  · have hs := sqB_iff.1 h1
    obtain ⟨N, rfl⟩ : ∃ N : Nat, n = N := ⟨n.toNat, by have := hs.1; omega⟩
    simp only [absE, absL, absF, reduceCtorEq, ↓reduceIte, Nat.reduceEqDiff, Nat.reduceAdd, Nat.reduceLT, Nat.reduceMul, Nat.reduceSub, Nat.reduceLeDiff, Int.reduceLT, Int.reduceLE, Int.reduceEq, Option.isSome_some, implies_true, false_implies, Prod.mk.injEq, ne_eq, not_false_eq_true, not_true_eq_false, ge_iff_le, gt_iff_lt, Int.toNat_natCast, Int.reduceToNat, Int.cast_ofNat_Int, Int.natCast_nonneg]
    refine CallsVia.none (isUnit_ok N t 0 ht hs hs.pos) ?_
    rintro _ _ _ ⟨rfl, rfl, rfl⟩
    simp only [absE, absL, absF, reduceCtorEq, ↓reduceIte, Nat.reduceEqDiff, Nat.reduceAdd, Nat.reduceLT, Nat.reduceMul, Nat.reduceSub, Nat.reduceLeDiff, Int.reduceLT, Int.reduceLE, Int.reduceEq, Option.isSome_some, implies_true, false_implies, Prod.mk.injEq, ne_eq, not_false_eq_true, not_true_eq_false, ge_iff_le, gt_iff_lt, Int.toNat_natCast, Int.reduceToNat, Int.cast_ofNat_Int, Int.natCast_nonneg, Try.results59]
    exact fin_b (by simp [loopB, h1]) rfl

theorem l01Loop_ok (n : Int) (t : List Int) (ht : Bytes 100 t) : ACalls Try.prog 63 [.agg (sqS n t)] [] (fun v ms ns => v = .b (loopB n t) ∧ ms = [] ∧ ns = []) := by
  refine acalls_of_body mix Try.func63 rfl fok63 (Nat.le_of_ble_eq_true rfl) ?_
  unfold abody
  simp only [absE, absL, absF, reduceCtorEq, ↓reduceIte, Nat.reduceEqDiff, Nat.reduceAdd, Nat.reduceLT, Nat.reduceMul, Nat.reduceSub, Nat.reduceLeDiff, Int.reduceLT, Int.reduceLE, Int.reduceEq, Option.isSome_some, implies_true, false_implies, Prod.mk.injEq, ne_eq, not_false_eq_true, not_true_eq_false, ge_iff_le, gt_iff_lt, Int.toNat_natCast, Int.reduceToNat, Int.cast_ofNat_Int, Int.natCast_nonneg, Try.f63]
  refine CallsVia.none (l01Is_ok n t ht) ?_
  rintro _ _ _ ⟨rfl, rfl, rfl⟩
  cases h1 : sqB n t
  · simp only [absE, absL, absF, reduceCtorEq, ↓reduceIte, Nat.reduceEqDiff, Nat.reduceAdd, Nat.reduceLT, Nat.reduceMul, Nat.reduceSub, Nat.reduceLeDiff, Int.reduceLT, Int.reduceLE, Int.reduceEq, Option.isSome_some, implies_true, false_implies, Prod.mk.injEq, ne_eq, not_false_eq_true, not_true_eq_false, ge_iff_le, gt_iff_lt, Int.toNat_natCast, Int.reduceToNat, Int.cast_ofNat_Int, Int.natCast_nonneg, Try.results63]
    exact fin_false (by simp [loopB, h1])
  · have hs := sqB_iff.1 h1
    obtain ⟨N, rfl⟩ : ∃ N : Nat, n = N := ⟨n.toNat, by have := hs.1; omega⟩
    have hN := hs.le
    simp only [absE, absL, absF, reduceCtorEq, ↓reduceIte, Nat.reduceEqDiff, Nat.reduceAdd, Nat.reduceLT, Nat.reduceMul, Nat.reduceSub, Nat.reduceLeDiff, Int.reduceLT, Int.reduceLE, Int.reduceEq, Option.isSome_some, implies_true, false_implies, Prod.mk.injEq, ne_eq, not_false_eq_true, not_true_eq_false, ge_iff_le, gt_iff_lt, Int.toNat_natCast, Int.reduceToNat, Int.cast_ofNat_Int, Int.natCast_nonneg]
    refine awpLoop.intro (fun x : Nat => [(1, .ref (.ptr 1 0 0 0)), (3, .i .i64 x)]) (fun x => ⟨[], [((1, 0), .lv true (sqS N t))], 7⟩)
      (fun x => x ≤ N ∧ ∀ j, j < x → cl t 0 j = j ∧ cl t j 0 = j) (fun x => N - x) 0 ⟨by omega, fun j hj => absurd hj (by omega)⟩ ⟨[((1,0),(1,0))], rfl, ?_, ?_⟩ ?_
    · simp [wkEnv, lk, renV, renAt, renTo]
    · simp [wkMem, wkLoc, Mem.get, assoc, renBlk, renSegs, renSg, renTo]
    · rintro x ⟨hx, hp⟩
      by_cases h : (x : Int) < N
      · have w := wrap_i64s (show x < 2 ^ 62 by omega)
        have w8 := wrap_u8n (show x < 256 by omega)
        have i1 : (x : Int) < 10 := by omega
        have u1 : 0 + x * 1 < 100 := by omega
        have u2 : 0 + x * 10 + 0 < 100 := by omega
        have u3 : 0 + x * 10 < 100 := by omega
        have k1 : t.getD (0 + x * 1) 0 = (cl t 0 x : Int) := by have := sq_colget ht 0 x; rwa [Nat.zero_mul, Nat.add_zero] at this
        have k2 : t.getD (0 + x * 10) 0 = (cl t x 0 : Int) := by have := sq_colget ht x 0; rwa [Nat.zero_mul, Nat.add_zero] at this
        have k3 : t.getD (0 + x * 10 + 0) 0 = (cl t x 0 : Int) := k2
        by_cases h1 : cl t 0 x = x
        · have g1 : (cl t 0 x : Int) = x := by omega
          by_cases h2 : cl t x 0 = x
          · have g2 : (cl t x 0 : Int) = x := by omega
            simp only [absE, absL, absF, reduceCtorEq, ↓reduceIte, Nat.reduceEqDiff, Nat.reduceAdd, Nat.reduceLT, Nat.reduceMul, Nat.reduceSub, Nat.reduceLeDiff, Int.reduceLT, Int.reduceLE, Int.reduceEq, Option.isSome_some, implies_true, false_implies, Prod.mk.injEq, ne_eq, not_false_eq_true, not_true_eq_false, ge_iff_le, gt_iff_lt, Int.toNat_natCast, Int.reduceToNat, Int.cast_ofNat_Int, Int.natCast_nonneg, h, w8, i1, u1, u2, u3, k1, k2, k3, g1, g2]
            refine LoopNext.intro (x + 1) ⟨by omega, fun j hj => ?_⟩ (by omega) ⟨[((1,0),(1,0))], rfl, ?_, ?_⟩
            · by_cases ej : j = x
              · subst ej; exact ⟨h1, h2⟩
              · exact hp j (by omega)
            · simp [wkEnv, lk, renV, renAt, renTo, w]
            · simp [wkMem, wkLoc, Mem.get, assoc, renBlk, renSegs, renSg, renTo, w]
          · have g2 : ¬(cl t x 0 : Int) = x := by omega
            simp only [absE, absL, absF, reduceCtorEq, ↓reduceIte, Nat.reduceEqDiff, Nat.reduceAdd, Nat.reduceLT, Nat.reduceMul, Nat.reduceSub, Nat.reduceLeDiff, Int.reduceLT, Int.reduceLE, Int.reduceEq, Option.isSome_some, implies_true, false_implies, Prod.mk.injEq, ne_eq, not_false_eq_true, not_true_eq_false, ge_iff_le, gt_iff_lt, Int.toNat_natCast, Int.reduceToNat, Int.cast_ofNat_Int, Int.natCast_nonneg, h, w8, i1, u1, u2, u3, k1, k2, k3, g1, g2, Try.results63]
            exact fin_false (by simp only [loopB, sqB_true hs, Bool.true_and]; exact unitB_false fun hu => h2 (hu x (by omega)).2)
        · have g1 : ¬(cl t 0 x : Int) = x := by omega
          simp only [absE, absL, absF, reduceCtorEq, ↓reduceIte, Nat.reduceEqDiff, Nat.reduceAdd, Nat.reduceLT, Nat.reduceMul, Nat.reduceSub, Nat.reduceLeDiff, Int.reduceLT, Int.reduceLE, Int.reduceEq, Option.isSome_some, implies_true, false_implies, Prod.mk.injEq, ne_eq, not_false_eq_true, not_true_eq_false, ge_iff_le, gt_iff_lt, Int.toNat_natCast, Int.reduceToNat, Int.cast_ofNat_Int, Int.natCast_nonneg, h, w8, i1, u1, u2, u3, k1, k2, k3, g1, Try.results63]
          exact fin_false (by simp only [loopB, sqB_true hs, Bool.true_and]; exact unitB_false fun hu => h1 (hu x (by omega)).1)
      · simp only [absE, absL, absF, reduceCtorEq, ↓reduceIte, Nat.reduceEqDiff, Nat.reduceAdd, Nat.reduceLT, Nat.reduceMul, Nat.reduceSub, Nat.reduceLeDiff, Int.reduceLT, Int.reduceLE, Int.reduceEq, Option.isSome_some, implies_true, false_implies, Prod.mk.injEq, ne_eq, not_false_eq_true, not_true_eq_false, ge_iff_le, gt_iff_lt, Int.toNat_natCast, Int.reduceToNat, Int.cast_ofNat_Int, Int.natCast_nonneg, h, Try.results63]
        exact fin_true (by simp only [loopB, sqB_true hs, Bool.true_and]; exact unitB_true fun j hj => hp j (by omega))

def HasP (n : Int) (xs : List Int) (k : Nat) : Prop := ∀ i, i < k → xs.getD i 0 < n
open Classical in
noncomputable def hasB (n : Int) (xs : List Int) (k : Nat) : Bool := decide (HasP n xs k)
theorem hasB_true {n : Int} {t : List Int} {e : Nat} (h : HasP n t e) : hasB n t e = true := by unfold hasB; exact @decide_eq_true _ (_) h
theorem hasB_false {n : Int} {t : List Int} {e : Nat} (h : ¬HasP n t e) : hasB n t e = false := by unfold hasB; exact @decide_eq_false _ (_) h
theorem hasB_iff {n : Int} {t : List Int} {e : Nat} : hasB n t e = true ↔ HasP n t e := by unfold hasB; exact @decide_eq_true_iff _ (_)
theorem hasB_one {n : Int} {x : Int} : hasB n [x] 1 = decide (x < n) := by
  rw [Bool.eq_iff_iff, hasB_iff, decide_eq_true_iff]
  constructor
  · intro h; exact h 0 (by omega)
  · intro h i hi; rw [show i = 0 by omega]; exact h
theorem hasB_two {n : Int} {x y : Int} : hasB n [x, y] 2 = (decide (x < n) && decide (y < n)) := by
  rw [Bool.eq_iff_iff, hasB_iff, Bool.and_eq_true, decide_eq_true_iff, decide_eq_true_iff]
  constructor
  · intro h; exact ⟨h 0 (by omega), h 1 (by omega)⟩
  · intro h i hi
    match i, hi with
    | 0, _ => exact h.1
    | 1, _ => exact h.2
theorem hasB_three {n : Int} {x y z : Int} : hasB n [x, y, z] 3 = (decide (x < n) && decide (y < n) && decide (z < n)) := by
  rw [Bool.eq_iff_iff, hasB_iff, Bool.and_eq_true, Bool.and_eq_true, decide_eq_true_iff, decide_eq_true_iff, decide_eq_true_iff]
  constructor
  · intro h; exact ⟨⟨h 0 (by omega), h 1 (by omega)⟩, h 2 (by omega)⟩
  · intro h i hi
    match i, hi with
    | 0, _ => exact h.1.1
    | 1, _ => exact h.1.2
    | 2, _ => exact h.2

noncomputable def ccode (n : Int) (t xs : List Int) (k : Nat) : Int := if sqB n t then (if hasB n xs k then 0 else 2) else 1
noncomputable def lcode (n : Int) (t xs : List Int) (k : Nat) : Int := if sqB n t then (if hasB n xs k then (if unitB n.toNat t 0 then 0 else 5) else 2) else 1

end Go.Proofs.Ytjmenocghjggcaa
