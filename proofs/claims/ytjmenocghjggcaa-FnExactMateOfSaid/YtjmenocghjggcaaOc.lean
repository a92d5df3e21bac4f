/-
Contracts of functions of the given program, by the abstract walk.
-/
import Derived.Test.YtjmenocghjggcaaAbsY
import Derived.Test.YtjmenocghjggcaaOb
namespace Go.Proofs.Ytjmenocghjggcaa
open Go Go.Abs
set_option linter.unusedVariables false
set_option linter.unusedSectionVars false
set_option linter.unusedSimpArgs false
set_option maxRecDepth 100000
/-! mates: the reference's marks -/
def mtS (N : Nat) (A : Atom) (g : List Int) (r : Nat) : Segs := [(0, .ints .i64 1 [(N : Int)]), (1, .cells 1 [A]), (2, .ints .u8 100 g), (102, .ints .i64 1 [(r : Int)])]
def mtM (N m : Nat) (T : List (List Int)) (g : List Int) (r : Nat) : List Blk := [.lv true (mtS N (.sl 0 1 0 0 m 10) g r), plB T]
theorem l09Fits_ok (N m r : Nat) (T : List (List Int)) (g p : List Int) (hN : N ≤ 10) (hg : Bytes 100 g) (hp : PlN N p) :
    ACalls Try.prog 72 [.ref (.ptr 0 0 0 0), .agg (plS p)] (mtM N m T g r) (fun v ms ns => v = .b (decide (∀ x, x < N → g.getD (x * 10 + (p.getD x 0).toNat) 0 = 0)) ∧ ms = mtM N m T g r ∧ ns = []) := by
  unfold mtM mtS plB
  refine acalls_of_body mix Try.func72 rfl fok72 (Nat.le_of_ble_eq_true rfl) ?_
  unfold abody
  simp only [absE, absL, absF, reduceCtorEq, ↓reduceIte, Nat.reduceEqDiff, Nat.reduceAdd, Nat.reduceLT, Nat.reduceMul, Nat.reduceSub, Nat.reduceLeDiff, Int.reduceLT, Int.reduceLE, Int.reduceEq, Option.isSome_some, implies_true, false_implies, Prod.mk.injEq, ne_eq, not_false_eq_true, not_true_eq_false, ge_iff_le, gt_iff_lt, Int.toNat_natCast, Int.reduceToNat, Int.cast_ofNat_Int, Int.natCast_nonneg, Try.f72]
  refine awpLoop.intro (fun x : Nat => [(0, .ref (.ptr 0 0 0 0)), (3, .ref (.ptr 1 0 0 0)), (5, .i .i64 x)]) (fun _ => ⟨[.lv true [(0, .ints .i64 1 [(N : Int)]), (1, .cells 1 [.sl 0 1 0 0 m 10]), (2, .ints .u8 100 g), (102, .ints .i64 1 [(r : Int)])], .lv true [(0, .ints .u8 (T.length * 10) T.flatten)]], [((1, 0), .lv true (plS p))], 10⟩) (fun x => x ≤ N ∧ ∀ i, i < x → g.getD (i * 10 + (p.getD i 0).toNat) 0 = 0) (fun x => N - x) 0 ⟨by omega, fun i hi => absurd hi (by omega)⟩ ⟨[((1,0),(1,0))], rfl, ?_, ?_⟩ ?_
  · simp [wkEnv, lk, renV, renAt, renTo]
  · simp [wkMem, wkLoc, Mem.get, assoc, renBlk, renSegs, renSg, renAt, renTo]
  · rintro x ⟨hx, hz⟩
    by_cases h : (x : Int) < N
    · have hxN : x < N := by omega
      obtain ⟨y, hy, ey⟩ := hp.2 x hxN
      have eyn : (p.getD x 0).toNat = y := by omega
      have w := wrap_i64s (show x < 2 ^ 62 by omega)
      have v1 : 0 + x * 1 < 10 := by omega
      have x10 : (x : Int) < 10 := by omega
      have y10 : (y : Int) < 10 := by omega
      have p1 : p.getD (0 + x * 1) 0 = (y : Int) := by rw [Nat.zero_add, Nat.mul_one]; exact ey
      have gi : 0 + x * 10 + y * 1 < 100 := by omega
      have ge : g.getD (0 + x * 10 + y * 1) 0 = g.getD (x * 10 + y) 0 := by rw [Nat.zero_add, Nat.mul_one]
      by_cases hz2 : g.getD (x * 10 + y) 0 = 0
      · simp only [absE, absL, absF, reduceCtorEq, ↓reduceIte, Nat.reduceEqDiff, Nat.reduceAdd, Nat.reduceLT, Nat.reduceMul, Nat.reduceSub, Nat.reduceLeDiff, Int.reduceLT, Int.reduceLE, Int.reduceEq, Option.isSome_some, implies_true, false_implies, Prod.mk.injEq, ne_eq, not_false_eq_true, not_true_eq_false, ge_iff_le, gt_iff_lt, Int.toNat_natCast, Int.reduceToNat, Int.cast_ofNat_Int, Int.natCast_nonneg, h, v1, x10, y10, p1, gi, ge, hz2]
        refine LoopNext.intro (x + 1) ⟨by omega, fun i hi => ?_⟩ (by omega) ⟨[((1,0),(1,0))], rfl, ?_, ?_⟩
        · by_cases e : i = x
          · subst e; rw [eyn]; exact hz2
          · exact hz i (by omega)
        · simp [wkEnv, lk, renV, renAt, renTo, w]
        · simp [wkMem, wkLoc, Mem.get, assoc, renBlk, renSegs, renSg, renAt, renTo]
      · have hd : decide (∀ x, x < N → g.getD (x * 10 + (p.getD x 0).toNat) 0 = 0) = false := decide_eq_false fun hh => hz2 (by have := hh x hxN; rwa [eyn] at this)
        simp only [absE, absL, absF, reduceCtorEq, ↓reduceIte, Nat.reduceEqDiff, Nat.reduceAdd, Nat.reduceLT, Nat.reduceMul, Nat.reduceSub, Nat.reduceLeDiff, Int.reduceLT, Int.reduceLE, Int.reduceEq, Option.isSome_some, implies_true, false_implies, Prod.mk.injEq, ne_eq, not_false_eq_true, not_true_eq_false, ge_iff_le, gt_iff_lt, Int.toNat_natCast, Int.reduceToNat, Int.cast_ofNat_Int, Int.natCast_nonneg, h, v1, x10, y10, p1, gi, ge, hz2, Try.results72]
        exact ⟨[], by simp, by simp, by simp only [renV, hd], by simp [renBlk, renSegs, renSg, renAt, renFin], by simp⟩
    · have hd : decide (∀ x, x < N → g.getD (x * 10 + (p.getD x 0).toNat) 0 = 0) = true := decide_eq_true fun i hi => hz i (by omega)
      simp only [absE, absL, absF, reduceCtorEq, ↓reduceIte, Nat.reduceEqDiff, Nat.reduceAdd, Nat.reduceLT, Nat.reduceMul, Nat.reduceSub, Nat.reduceLeDiff, Int.reduceLT, Int.reduceLE, Int.reduceEq, Option.isSome_some, implies_true, false_implies, Prod.mk.injEq, ne_eq, not_false_eq_true, not_true_eq_false, ge_iff_le, gt_iff_lt, Int.toNat_natCast, Int.reduceToNat, Int.cast_ofNat_Int, Int.natCast_nonneg, h, Try.results72]
      exact ⟨[], by simp, by simp, by simp only [renV, hd], by simp [renBlk, renSegs, renSg, renAt, renFin], by simp⟩
theorem l09Mark_ok (N m r v : Nat) (T : List (List Int)) (g p : List Int) (hN : N ≤ 10) (hg : g.length = 100) (hp : PlN N p) (hv : v < 256) :
    ACalls Try.prog 73 [.ref (.ptr 0 0 0 0), .agg (plS p), .i .u8 v] (mtM N m T g r) (fun v' ms ns => v' = .tup [] ∧ ms = mtM N m T (mkA p v g N) r ∧ ns = []) := by
  unfold mtM mtS plB
  refine acalls_of_body mix Try.func73 rfl fok73 (Nat.le_of_ble_eq_true rfl) ?_
  unfold abody
  simp only [absE, absL, absF, reduceCtorEq, ↓reduceIte, Nat.reduceEqDiff, Nat.reduceAdd, Nat.reduceLT, Nat.reduceMul, Nat.reduceSub, Nat.reduceLeDiff, Int.reduceLT, Int.reduceLE, Int.reduceEq, Option.isSome_some, implies_true, false_implies, Prod.mk.injEq, ne_eq, not_false_eq_true, not_true_eq_false, ge_iff_le, gt_iff_lt, Int.toNat_natCast, Int.reduceToNat, Int.cast_ofNat_Int, Int.natCast_nonneg, Try.f73]
  refine awpLoop.intro (fun x : Nat => [(0, .ref (.ptr 0 0 0 0)), (2, .i .u8 v), (4, .ref (.ptr 1 0 0 0)), (6, .i .i64 x)]) (fun x => ⟨[.lv true [(0, .ints .i64 1 [(N : Int)]), (1, .cells 1 [.sl 0 1 0 0 m 10]), (2, .ints .u8 100 (mkA p v g x)), (102, .ints .i64 1 [(r : Int)])], .lv true [(0, .ints .u8 (T.length * 10) T.flatten)]], [((1, 0), .lv true (plS p))], 10⟩) (fun x => x ≤ N) (fun x => N - x) 0 (by omega) ⟨[((1,0),(1,0))], rfl, ?_, ?_⟩ ?_
  · simp [wkEnv, lk, renV, renAt, renTo]
  · simp [wkMem, wkLoc, Mem.get, assoc, renBlk, renSegs, renSg, renAt, renTo, mkA]
  · intro x hx
    have hgl : (mkA p v g x).length = 100 := by rw [mkA_len]; exact hg
    have hgn : mkA p v g (x + 1) = (mkA p v g x).set (x * 10 + (p.getD x 0).toNat) v := rfl
    by_cases h : (x : Int) < N
    · have hxN : x < N := by omega
      obtain ⟨y, hy, ey⟩ := hp.2 x hxN
      have eyn : (p.getD x 0).toNat = y := by omega
      rw [eyn] at hgn
      generalize mkA p v g x = G at hgl hgn ⊢
      have w := wrap_i64s (show x < 2 ^ 62 by omega)
      have v1 : 0 + x * 1 < 10 := by omega
      have x10 : (x : Int) < 10 := by omega
      have y10 : (y : Int) < 10 := by omega
      have p1 : p.getD (0 + x * 1) 0 = (y : Int) := by rw [Nat.zero_add, Nat.mul_one]; exact ey
      have gi : 0 + x * 10 + y * 1 + 1 ≤ 100 := by omega
      have ge : G.set (0 + x * 10 + y * 1) (v : Int) = G.set (x * 10 + y) (v : Int) := by rw [Nat.zero_add, Nat.mul_one]
      simp only [absE, absL, absF, reduceCtorEq, ↓reduceIte, Nat.reduceEqDiff, Nat.reduceAdd, Nat.reduceLT, Nat.reduceMul, Nat.reduceSub, Nat.reduceLeDiff, Int.reduceLT, Int.reduceLE, Int.reduceEq, Option.isSome_some, implies_true, false_implies, Prod.mk.injEq, ne_eq, not_false_eq_true, not_true_eq_false, ge_iff_le, gt_iff_lt, Int.toNat_natCast, Int.reduceToNat, Int.cast_ofNat_Int, Int.natCast_nonneg, h, v1, x10, y10, p1, gi, ge]
      rw [hgn.symm]
      refine LoopNext.intro (x + 1) (by omega) (by omega) ⟨[((1,0),(1,0))], rfl, ?_, ?_⟩
      · simp [wkEnv, lk, renV, renAt, renTo, w]
      · simp [wkMem, wkLoc, Mem.get, assoc, renBlk, renSegs, renSg, renAt, renTo]
    · obtain rfl : N = x := by omega
      simp only [absE, absL, absF, reduceCtorEq, ↓reduceIte, Nat.reduceEqDiff, Nat.reduceAdd, Nat.reduceLT, Nat.reduceMul, Nat.reduceSub, Nat.reduceLeDiff, Int.reduceLT, Int.reduceLE, Int.reduceEq, Option.isSome_some, implies_true, false_implies, Prod.mk.injEq, ne_eq, not_false_eq_true, not_true_eq_false, ge_iff_le, gt_iff_lt, Int.toNat_natCast, Int.reduceToNat, Int.cast_ofNat_Int, Int.natCast_nonneg, h, Try.results73]
      exact ⟨[], by simp, by simp, by simp [renV, renVs], by simp [renBlk, renSegs, renSg, renAt, renFin], by simp⟩

end Go.Proofs.Ytjmenocghjggcaa
