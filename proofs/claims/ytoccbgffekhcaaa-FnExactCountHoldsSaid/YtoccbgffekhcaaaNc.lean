/-
Contracts of functions of the given program, by the abstract walk.
-/
import Derived.Test.YtoccbgffekhcaaaAbsY
import Derived.Test.YtoccbgffekhcaaaNa
import Derived.Test.YtoccbgffekhcaaaDc
namespace Go.Proofs.Ytoccbgffekhcaaa
open Go Go.Abs
set_option linter.unusedVariables false
set_option linter.unusedSectionVars false
set_option linter.unusedSimpArgs false
set_option maxRecDepth 100000
/-! classes: the walks -/
def fl (c : Nat → Nat) (n : Nat) : List Int := (List.range n).map fun i => ((c i : Nat) : Int)
theorem fl_len {c : Nat → Nat} {n : Nat} : (fl c n).length = n := by simp [fl]
theorem fl_get {c : Nat → Nat} {n i : Nat} (h : i < n) : (fl c n).getD i 0 = (c i : Int) := by simp [fl, h]
theorem fl_succ {c : Nat → Nat} {n : Nat} : fl c (n + 1) = fl c n ++ [(c n : Int)] := by simp [fl, List.range_succ]
theorem fl_congr {c d : Nat → Nat} {n : Nat} (h : ∀ i, i < n → c i = d i) : fl c n = fl d n := List.map_congr_left fun i hi => by rw [h i (List.mem_range.1 hi)]
theorem fl_set {c d : Nat → Nat} {n i v : Nat} (hi : i < n) (h1 : d i = v) (h2 : ∀ j, j < n → j ≠ i → d j = c j) : (fl c n).set i (v : Int) = fl d n :=
  ext_getD (by rw [List.length_set, fl_len, fl_len]) fun j hj => by
    rw [List.length_set, fl_len] at hj
    rw [getD_set_int (by rw [fl_len]; exact hi), fl_get hj, fl_get hj]
    split
    · rename_i e; subst e; rw [h1]
    · rename_i e; rw [h2 j hj (fun e' => e e'.symm)]
theorem set_only {o : List Int} {v : Int} {z : Nat} (h : o.length = 1) (hz : z = 0) : [v] = o.set z v := by
  subst hz
  match o, h with
  | [w], _ => rfl
theorem newClasses_ok (N : Nat) (hN : N ≤ 10) : ACalls Try.prog 128 [.i .i64 N] [] (fun v ms ns => v = .ref (.sl 1 0 0 0 N 1) ∧ ms = [] ∧ ns = [.lv true [(0, .ints .i64 N (fl id N))]]) := by
  refine acalls_of_body mix Try.func128 rfl fok128 (Nat.le_of_ble_eq_true rfl) ?_
  unfold abody
  simp only [absE, absL, absF, reduceCtorEq, ↓reduceIte, Nat.reduceEqDiff, Nat.reduceAdd, Nat.reduceLT, Nat.reduceMul, Nat.reduceSub, Nat.reduceLeDiff, Int.reduceLT, Int.reduceLE, Int.reduceEq, Option.isSome_some, implies_true, false_implies, Prod.mk.injEq, ne_eq, not_false_eq_true, not_true_eq_false, ge_iff_le, gt_iff_lt, Int.toNat_natCast, Int.reduceToNat, Int.cast_ofNat_Int, Int.natCast_nonneg, Try.f128]
  refine awpLoop.intro (fun x : Nat => [(3, .ref (.sl 2 0 0 0 x 1)), (6, .i .i64 N), (7, .i .i64 x)]) (fun x => ⟨[], [((2, 0), .lv true ([(0, .ints .i64 x (fl id x))]))], 6⟩)
    (fun x => x ≤ N) (fun x => N - x) 0 (by omega) ⟨[((2,0),(2,0))], rfl, ?_, ?_⟩ ?_
  · simp [wkEnv, lk, renV, renAt, renTo, fl, zeroArr]
  · simp [wkMem, wkLoc, Mem.get, assoc, renBlk, renSegs, renSg, renTo, fl, zeroArr]
  · intro x hx
    by_cases h : (x : Int) < N
    · have w := wrap_i64s (show x < 2 ^ 62 by omega)
      have mx : x * 1 = x := Nat.mul_one x
      simp only [absE, absL, absF, reduceCtorEq, ↓reduceIte, Nat.reduceEqDiff, Nat.reduceAdd, Nat.reduceLT, Nat.reduceMul, Nat.reduceSub, Nat.reduceLeDiff, Int.reduceLT, Int.reduceLE, Int.reduceEq, Option.isSome_some, implies_true, false_implies, Prod.mk.injEq, ne_eq, not_false_eq_true, not_true_eq_false, ge_iff_le, gt_iff_lt, Int.toNat_natCast, Int.reduceToNat, Int.cast_ofNat_Int, Int.natCast_nonneg, h, mx]
      repeat refine And.intro (by omega) ?_
      refine LoopNext.intro (x + 1) (by omega) (by omega) ⟨[((12,0),(2,0))], rfl, ?_, ?_⟩
      · simp [wkEnv, lk, renV, renAt, renTo, w, fl_succ]
      · simp [wkMem, wkLoc, Mem.get, assoc, renBlk, renSegs, renSg, renTo, w, fl_succ]
    · obtain rfl : x = N := by omega
      simp only [absE, absL, absF, reduceCtorEq, ↓reduceIte, Nat.reduceEqDiff, Nat.reduceAdd, Nat.reduceLT, Nat.reduceMul, Nat.reduceSub, Nat.reduceLeDiff, Int.reduceLT, Int.reduceLE, Int.reduceEq, Option.isSome_some, implies_true, false_implies, Prod.mk.injEq, ne_eq, not_false_eq_true, not_true_eq_false, ge_iff_le, gt_iff_lt, Int.toNat_natCast, Int.reduceToNat, Int.cast_ofNat_Int, Int.natCast_nonneg, h, Try.results128]
      exact ⟨[(2, 0)], by simp, by simp, by simp [renV, renAt, renFin, idx], by simp, by simp [renBlk, renSegs, renSg, Mem.get, assoc]⟩
def jnF (c : Nat → Nat) (x y i : Nat) : Nat → Nat := fun j => if j < i then joinF c x y j else c j
theorem jnF_zero {c : Nat → Nat} {x y : Nat} : jnF c x y 0 = c := by funext j; unfold jnF; rw [if_neg (by omega)]
theorem jnF_all {c : Nat → Nat} {x y n : Nat} : fl (jnF c x y n) n = fl (joinF c x y) n := fl_congr fun i hi => by unfold jnF; rw [if_pos hi]
theorem join_ok (N : Nat) (c : Nat → Nat) (x y : Nat) (hN : N ≤ 10) (hx : x < N) (hy : y < N) :
    ACalls Try.prog 129 [.ref (.sl 0 0 0 0 N 1), .i .i64 x, .i .i64 y] [.lv true [(0, .ints .i64 N (fl c N))]] (fun v ms ns => v = .b (!decide (c x = c y)) ∧ ms = [.lv true [(0, .ints .i64 N (fl (joinF c x y) N))]] ∧ ns = []) := by
  have i1 : (x : Int) < N := by omega
  have i2 : (y : Int) < N := by omega
  have v1 : 0 + x * 1 < N := by omega
  have v2 : 0 + y * 1 < N := by omega
  have g1 : (fl c N).getD (0 + x * 1) 0 = (c x : Int) := by rw [Nat.zero_add, Nat.mul_one]; exact fl_get hx
  have g2 : (fl c N).getD (0 + y * 1) 0 = (c y : Int) := by rw [Nat.zero_add, Nat.mul_one]; exact fl_get hy
  refine acalls_of_body mix Try.func129 rfl fok129 (Nat.le_of_ble_eq_true rfl) ?_
  unfold abody
  simp only [absE, absL, absF, reduceCtorEq, ↓reduceIte, Nat.reduceEqDiff, Nat.reduceAdd, Nat.reduceLT, Nat.reduceMul, Nat.reduceSub, Nat.reduceLeDiff, Int.reduceLT, Int.reduceLE, Int.reduceEq, Option.isSome_some, implies_true, false_implies, Prod.mk.injEq, ne_eq, not_false_eq_true, not_true_eq_false, ge_iff_le, gt_iff_lt, Int.toNat_natCast, Int.reduceToNat, Int.cast_ofNat_Int, Int.natCast_nonneg, i1, i2, v1, v2, g1, g2, Try.f129]
  repeat first | refine And.intro (by decide +kernel) ?_ | refine And.intro (by omega) ?_
  refine awpLoop.intro (fun i : Nat => [(0, .ref (.sl 0 0 0 0 N 1)), (7, .i .i64 (c x)), (8, .i .i64 (c y)), (19, .i .i64 N), (20, .i .i64 i)]) (fun i => ⟨[.lv true [(0, .ints .i64 N (fl (jnF c x y i) N))]], [], 15⟩)
    (fun i => i ≤ N) (fun i => N - i) 0 (by omega) ⟨[], rfl, ?_, ?_⟩ ?_
  · simp [wkEnv, lk, renV, renAt, renTo, jnF_zero]
  · simp [wkMem, wkLoc, Mem.get, assoc, renBlk, renSegs, renSg, renTo, jnF_zero]
  · intro i hi
    by_cases h : (i : Int) < N
    · have w := wrap_i64s (show i < 2 ^ 62 by omega)
      have v : 0 + i * 1 < N := by omega
      have u : 0 + i * 1 + 1 ≤ N := by omega
      have g : (fl (jnF c x y i) N).getD (0 + i * 1) 0 = (c i : Int) := by rw [Nat.zero_add, Nat.mul_one, fl_get (by omega)]; unfold jnF; rw [if_neg (by omega)]
      by_cases e : (c i : Int) = max (c x : Int) (c y : Int)
      · have ej : joinF c x y i = min (c x) (c y) := by unfold joinF; rw [if_pos (by omega)]
        have em : min (c x : Int) (c y : Int) = ((min (c x) (c y) : Nat) : Int) := by omega
        have es : (fl (jnF c x y i) N).set (0 + i * 1) ((min (c x) (c y) : Nat) : Int) = fl (jnF c x y (i + 1)) N := by
          rw [Nat.zero_add, Nat.mul_one]
          refine fl_set (by omega) ?_ fun j hj hne => ?_
          · unfold jnF; rw [if_pos (by omega), ej]
          · unfold jnF
            by_cases hj2 : j < i
            · rw [if_pos hj2, if_pos (by omega)]
            · rw [if_neg hj2, if_neg (by omega)]
        by_cases n1 : 1 = N
        · have n1t : (1 = N) = True := eq_true n1
          have es' : [((min (c x) (c y) : Nat) : Int)] = fl (jnF c x y (i + 1)) N := by
            rw [← es, Nat.zero_add, Nat.mul_one]; exact set_only (by rw [fl_len]; omega) (by omega)
          simp only [absE, absL, absF, reduceCtorEq, ↓reduceIte, Nat.reduceEqDiff, Nat.reduceAdd, Nat.reduceLT, Nat.reduceMul, Nat.reduceSub, Nat.reduceLeDiff, Int.reduceLT, Int.reduceLE, Int.reduceEq, Option.isSome_some, implies_true, false_implies, Prod.mk.injEq, ne_eq, not_false_eq_true, not_true_eq_false, ge_iff_le, gt_iff_lt, Int.toNat_natCast, Int.reduceToNat, Int.cast_ofNat_Int, Int.natCast_nonneg, h, v, u, g, e, em, n1t, es']
          repeat refine And.intro (by omega) ?_
          refine LoopNext.intro (i + 1) (by omega) (by omega) ⟨[], rfl, ?_, ?_⟩
          · simp [wkEnv, lk, renV, renAt, renTo, w]
          · simp [wkMem, wkLoc, Mem.get, assoc, renBlk, renSegs, renSg, renTo, w]
        · simp only [absE, absL, absF, reduceCtorEq, ↓reduceIte, Nat.reduceEqDiff, Nat.reduceAdd, Nat.reduceLT, Nat.reduceMul, Nat.reduceSub, Nat.reduceLeDiff, Int.reduceLT, Int.reduceLE, Int.reduceEq, Option.isSome_some, implies_true, false_implies, Prod.mk.injEq, ne_eq, not_false_eq_true, not_true_eq_false, ge_iff_le, gt_iff_lt, Int.toNat_natCast, Int.reduceToNat, Int.cast_ofNat_Int, Int.natCast_nonneg, h, v, u, g, e, em, n1, es]
          repeat refine And.intro (by omega) ?_
          refine LoopNext.intro (i + 1) (by omega) (by omega) ⟨[], rfl, ?_, ?_⟩
          · simp [wkEnv, lk, renV, renAt, renTo, w]
          · simp [wkMem, wkLoc, Mem.get, assoc, renBlk, renSegs, renSg, renTo, w]
      · have es : fl (jnF c x y i) N = fl (jnF c x y (i + 1)) N := fl_congr fun j hj => by
          unfold jnF
          by_cases hj2 : j < i
          · rw [if_pos hj2, if_pos (by omega)]
          · rw [if_neg hj2]
            by_cases hj3 : j < i + 1
            · obtain rfl : j = i := by omega
              rw [if_pos hj3, joinF, if_neg (by omega)]
            · rw [if_neg hj3]
        simp only [absE, absL, absF, reduceCtorEq, ↓reduceIte, Nat.reduceEqDiff, Nat.reduceAdd, Nat.reduceLT, Nat.reduceMul, Nat.reduceSub, Nat.reduceLeDiff, Int.reduceLT, Int.reduceLE, Int.reduceEq, Option.isSome_some, implies_true, false_implies, Prod.mk.injEq, ne_eq, not_false_eq_true, not_true_eq_false, ge_iff_le, gt_iff_lt, Int.toNat_natCast, Int.reduceToNat, Int.cast_ofNat_Int, Int.natCast_nonneg, h, v, g, e]
        refine LoopNext.intro (i + 1) (by omega) (by omega) ⟨[], rfl, ?_, ?_⟩
        · simp [wkEnv, lk, renV, renAt, renTo, w, es]
        · simp [wkMem, wkLoc, Mem.get, assoc, renBlk, renSegs, renSg, renTo, w, es]
    · obtain rfl : i = N := by omega
      have ed : decide ((c x : Int) = (c y : Int)) = decide (c x = c y) := decide_eq_decide.2 ⟨fun h => by omega, fun h => by omega⟩
      simp only [absE, absL, absF, reduceCtorEq, ↓reduceIte, Nat.reduceEqDiff, Nat.reduceAdd, Nat.reduceLT, Nat.reduceMul, Nat.reduceSub, Nat.reduceLeDiff, Int.reduceLT, Int.reduceLE, Int.reduceEq, Option.isSome_some, implies_true, false_implies, Prod.mk.injEq, ne_eq, not_false_eq_true, not_true_eq_false, ge_iff_le, gt_iff_lt, Int.toNat_natCast, Int.reduceToNat, Int.cast_ofNat_Int, Int.natCast_nonneg, h, ed, Try.results129]
      exact ⟨[], by simp, by simp, by simp [renV], by simp [renBlk, renSegs, renSg, jnF_all], by simp⟩

end Go.Proofs.Ytoccbgffekhcaaa
