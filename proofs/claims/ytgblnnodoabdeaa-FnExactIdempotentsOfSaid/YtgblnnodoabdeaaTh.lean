/-
Contracts of functions of the given program, by the abstract walk.
-/
import Derived.Test.YtgblnnodoabdeaaAbsY
import Derived.Test.YtgblnnodoabdeaaTg
namespace Go.Proofs.Ytgblnnodoabdeaa
open Go Go.Abs
set_option linter.unusedVariables false
set_option linter.unusedSectionVars false
set_option linter.unusedSimpArgs false
set_option maxRecDepth 100000
/-! IdempotentsOf: sums -/
def sMs (N : Nat) (t : List Int) (P : Nat) : List Blk := [.lv true (sqS N t), .lv true [(0, .ints .i64 1 [(P : Int)])], .lv true [(0, .cells 1 [.sl 0 3 0 0 0 1])], .lv true [(0, .cells 0 [])]]
theorem sums_no (N : Nat) (t : List Int) (P : Nat) (f : FuncId) (hN : N ≤ 10) (hP : 2 ≤ P) (hP2 : P ≤ 7) (hbig : 20000 < P ^ N) :
    ACalls Try.prog 59 [.agg (sqS N t), .i .i64 P, .ref (.fn f [(0, 0, 0, 0), (0, 1, 0, 0), (0, 2, 0, 0)])] (sMs N t P) (fun v ms ns => v = .i .i64 3 ∧ ms = sMs N t P ∧ ns = []) := by
  unfold sMs
  refine acalls_of_body mix Try.func59 rfl fok59 (Nat.le_of_ble_eq_true rfl) ?_
  unfold abody
  simp only [absE, absL, absF, reduceCtorEq, ↓reduceIte, Nat.reduceEqDiff, Nat.reduceAdd, Nat.reduceLT, Nat.reduceMul, Nat.reduceSub, Nat.reduceLeDiff, Int.reduceLT, Int.reduceLE, Int.reduceEq, Option.isSome_some, implies_true, false_implies, Prod.mk.injEq, ne_eq, not_false_eq_true, not_true_eq_false, ge_iff_le, gt_iff_lt, Int.toNat_natCast, Int.reduceToNat, Int.cast_ofNat_Int, Int.natCast_nonneg, Try.f59]
  refine awpLoop.intro (fun k : Nat => [(1, .i .i64 P), (2, .ref (.fn f [(0, 0, 0, 0), (0, 1, 0, 0), (0, 2, 0, 0)])), (3, .ref (.ptr 1 0 0 0)), (7, .i .i64 ((P ^ k : Nat) : Int)), (12, .i .i64 N), (13, .i .i64 k)]) (fun k => ⟨[.lv true (sqS N t), .lv true [(0, .ints .i64 1 [(P : Int)])], .lv true [(0, .cells 1 [.sl 0 3 0 0 0 1])], .lv true [(0, .cells 0 [])]], [((1, 0), .lv true (sqS N t))], 50⟩)
    (fun k => k ≤ N ∧ P ^ k ≤ 20000) (fun k => N - k) 0 ⟨by omega, by rw [Nat.pow_zero]; decide⟩ ⟨[((1,0),(1,0))], rfl, ?_, ?_⟩ ?_
  · simp [wkEnv, lk, renV, renAt, renTo, renCaps]
  · simp [wkMem, wkLoc, Mem.get, assoc, renBlk, renSegs, renSg, renAt, renTo]
  · rintro k ⟨hk, hb⟩
    have hkN : k < N := by
      rcases Nat.lt_or_ge k N with h | h
      · exact h
      · obtain rfl : k = N := by omega
        omega
    have h : (k : Int) < N := by omega
    have hpp : P ^ k * P = P ^ (k + 1) := (Nat.pow_succ ..).symm
    have hlt : P ^ (k + 1) ≤ 2000000 := by rw [← hpp]; exact Nat.le_trans (Nat.mul_le_mul hb hP2) (by decide)
    have wp : IntKind.i64.wrap (((P ^ k : Nat) : Int) * P) = ((P ^ (k + 1) : Nat) : Int) := by rw [← Int.natCast_mul, hpp]; exact wrap_i64n (by omega)
    have w := wrap_i64s (show k < 2 ^ 62 by omega)
    by_cases h2 : P ^ (k + 1) ≤ 20000
    · have g2 : ¬ (20000 : Int) < ((P ^ (k + 1) : Nat) : Int) := by omega
      simp only [absE, absL, absF, reduceCtorEq, ↓reduceIte, Nat.reduceEqDiff, Nat.reduceAdd, Nat.reduceLT, Nat.reduceMul, Nat.reduceSub, Nat.reduceLeDiff, Int.reduceLT, Int.reduceLE, Int.reduceEq, Option.isSome_some, implies_true, false_implies, Prod.mk.injEq, ne_eq, not_false_eq_true, not_true_eq_false, ge_iff_le, gt_iff_lt, Int.toNat_natCast, Int.reduceToNat, Int.cast_ofNat_Int, Int.natCast_nonneg, h, wp, g2]
      refine LoopNext.intro (k + 1) ⟨by omega, h2⟩ (by omega) ⟨[((1,0),(1,0))], rfl, ?_, ?_⟩
      · simp [wkEnv, lk, renV, renAt, renTo, renCaps, w]
      · simp [wkMem, wkLoc, Mem.get, assoc, renBlk, renSegs, renSg, renAt, renTo]
    · have g2 : (20000 : Int) < ((P ^ (k + 1) : Nat) : Int) := by omega
      simp only [absE, absL, absF, reduceCtorEq, ↓reduceIte, Nat.reduceEqDiff, Nat.reduceAdd, Nat.reduceLT, Nat.reduceMul, Nat.reduceSub, Nat.reduceLeDiff, Int.reduceLT, Int.reduceLE, Int.reduceEq, Option.isSome_some, implies_true, false_implies, Prod.mk.injEq, ne_eq, not_false_eq_true, not_true_eq_false, ge_iff_le, gt_iff_lt, Int.toNat_natCast, Int.reduceToNat, Int.cast_ofNat_Int, Int.natCast_nonneg, h, wp, g2, Try.results59]
      exact ⟨[], by simp, by simp, by simp [renV], by simp [renBlk, renSegs, renSg, renAt, renFin], by simp⟩
/-- the digits of i, written from the lowest: m of them -/
def digW (P N i m : Nat) : List Int := (List.range N).map fun j => if N - m ≤ j then ((dg P i (N - 1 - j) : Nat) : Int) else 0
theorem digW_len {P N i m : Nat} : (digW P N i m).length = N := by simp [digW]
theorem digW_zero {P N i : Nat} : digW P N i 0 = List.replicate N 0 := by
  apply List.ext_getElem
  · simp [digW]
  · intro j h1 h2
    have hj : j < N := by simpa using h2
    simp only [digW, List.getElem_map, List.getElem_range, List.getElem_replicate]
    rw [if_neg (by omega)]
theorem digW_all {P N i : Nat} : digW P N i N = digL P N i := by
  unfold digW digL
  apply List.map_congr_left
  intro j hj
  rw [if_pos (by omega)]
theorem digW_next {P N i m : Nat} (h : m < N) : (digW P N i m).set (N - 1 - m) ((dg P i m : Nat) : Int) = digW P N i (m + 1) := by
  apply List.ext_getElem
  · simp [digW]
  · intro j h1 h2
    have hj : j < N := by simpa [digW] using h2
    rw [List.getElem_set]
    simp only [digW, List.getElem_map, List.getElem_range]
    by_cases e : N - 1 - m = j
    · rw [if_pos e, if_pos (by omega), show N - 1 - j = m by omega]
    · rw [if_neg e]
      by_cases e2 : N - m ≤ j
      · rw [if_pos e2, if_pos (by omega)]
      · rw [if_neg e2, if_neg (by omega)]
/-- nought is idempotent -/
theorem tmT_zero {N : Nat} {t : List Int} {P : Nat} (hp : PrP P) (hP : 2 ≤ P) : ∀ {x}, tmT N t P (digL P N 0) (digL P N 0) x = List.replicate N 0
  | 0 => rfl
  | x + 1 => by
    have hz : (digL P N 0).getD x 0 = 0 := by rw [digL_zero]; exact getD_rep0
    rw [tmT, tmT_zero hp hP (x := x)]
    exact tmIn_skip hp hz (by rw [← digL_zero (P := P)]; exact digL_rng (by omega))
theorem idmB_zero {N : Nat} {t : List Int} {P : Nat} (hp : PrP P) (hP : 2 ≤ P) : idmB N t P 0 = true := by
  unfold idmB; rw [tmT_zero hp hP, digL_zero]; exact decide_eq_true rfl

end Go.Proofs.Ytgblnnodoabdeaa
