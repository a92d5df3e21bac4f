/-
Contracts of functions of the given program, by the abstract walk.
-/
import Derived.Test.YtjmenocghjggcaaAbsY
import Derived.Test.YtjmenocghjggcaaGe
namespace Go.Proofs.Ytjmenocghjggcaa
open Go Go.Abs
set_option linter.unusedVariables false
set_option linter.unusedSectionVars false
set_option linter.unusedSimpArgs false
set_option maxRecDepth 100000
def addR (p : Int) (a b : List Int) : Nat → List Int
  | 0 => []
  | i + 1 => addR p a b i ++ [(a.getD i 0 + b.getD i 0).tmod p]
theorem addR_len {p : Int} {a b : List Int} : ∀ {i}, (addR p a b i).length = i
  | 0 => rfl
  | i + 1 => by rw [addR, List.length_append, addR_len]; rfl
theorem tmod_twice {p s : Int} (hp : 0 < p) (hs : 0 ≤ s) : (s.tmod p + p).tmod p = s.tmod p := by
  have h1 := Int.tmod_nonneg p hs
  have h2 := Int.tmod_lt_of_pos s hp
  rw [Int.tmod_eq_emod_of_nonneg (show 0 ≤ s.tmod p + p by omega), Int.add_emod_right, Int.emod_eq_of_lt h1 h2]
def addRR (n : Int) (p : Int) (xs ys : List Int) : List Int := addR p xs ys n.toNat
theorem l10Add_ok (N : Nat) (p : Int) (a b : List Int) (hN : N ≤ 10) (hp : PrP p) (ha : RngP p a) (hb : RngP p b) (la : a.length = N) (lb : b.length = N) :
    ACalls Try.prog 55 [.i .i64 p, .ref (.sl 0 0 0 0 N 1), .ref (.sl 0 1 0 0 N 1), .i .i64 1] [.lv true [(0, .ints .i64 N a)], .lv true [(0, .ints .i64 N b)]]
      (fun v ms ns => v = .ref (.sl 1 0 0 0 N 1) ∧ ms = [.lv true [(0, .ints .i64 N a)], .lv true [(0, .ints .i64 N b)]] ∧ ns = [.lv true [(0, .ints .i64 N (addR p a b N))]]) := by
  have hp2 := hp.le
  have p0 : ¬ p = 0 := by omega
  refine acalls_of_body mix Try.func55 rfl fok55 (Nat.le_of_ble_eq_true rfl) ?_
  unfold abody
  simp only [absE, absL, absF, reduceCtorEq, ↓reduceIte, Nat.reduceEqDiff, Nat.reduceAdd, Nat.reduceLT, Nat.reduceMul, Nat.reduceSub, Nat.reduceLeDiff, Int.reduceLT, Int.reduceLE, Int.reduceEq, Option.isSome_some, implies_true, false_implies, Prod.mk.injEq, ne_eq, not_false_eq_true, not_true_eq_false, ge_iff_le, gt_iff_lt, Int.toNat_natCast, Int.reduceToNat, Int.cast_ofNat_Int, Int.natCast_nonneg, Try.f55]
  refine awpLoop.intro (fun i : Nat => [(0, .i .i64 p), (1, .ref (.sl 0 0 0 0 N 1)), (2, .ref (.sl 0 1 0 0 N 1)), (3, .i .i64 1), (9, .ref (.sl 2 0 0 0 i 1)), (10, .i .i64 i)]) (fun i => ⟨[.lv true [(0, .ints .i64 N a)], .lv true [(0, .ints .i64 N b)]], [((2, 0), .lv true ([(0, .ints .i64 i (addR p a b i))]))], 5⟩)
    (fun i => i ≤ N) (fun i => N - i) 0 (by omega) ⟨[((2,0),(2,0))], rfl, ?_, ?_⟩ ?_
  · simp [wkEnv, lk, renV, renAt, renTo, addR]
  · simp [wkMem, wkLoc, Mem.get, assoc, renBlk, renSegs, renSg, renTo, addR]
  · intro i hi
    by_cases h' : (i : Int) < N
    · have w := wrap_i64s (show i < 2 ^ 62 by omega)
      have v1 : 0 + i * 1 < N := by omega
      have e0 : a.getD (0 + i * 1) 0 = a.getD i 0 := by rw [Nat.zero_add, Nat.mul_one]
      have e1 : b.getD (0 + i * 1) 0 = b.getD i 0 := by rw [Nat.zero_add, Nat.mul_one]
      have r1 := ha i
      have r2 := hb i
      have wm : IntKind.i64.wrap (1 * b.getD i 0) = b.getD i 0 := by rw [Int.one_mul]; exact wrap_i64 (by omega) (by omega)
      have wa : IntKind.i64.wrap (a.getD i 0 + b.getD i 0) = a.getD i 0 + b.getD i 0 := wrap_i64 (by omega) (by omega)
      have q1 := Int.tmod_nonneg p (show 0 ≤ a.getD i 0 + b.getD i 0 by omega)
      have q2 := Int.tmod_lt_of_pos (a.getD i 0 + b.getD i 0) (show 0 < p by omega)
      have wb : IntKind.i64.wrap ((a.getD i 0 + b.getD i 0).tmod p + p) = (a.getD i 0 + b.getD i 0).tmod p + p := wrap_i64 (by omega) (by omega)
      have wt := tmod_twice (p := p) (s := a.getD i 0 + b.getD i 0) (by omega) (by omega)
      have mx : i * 1 = i := Nat.mul_one i
      have e2 : a.getD (0 + i) 0 = a.getD i 0 := by rw [Nat.zero_add]
      have e3 : b.getD (0 + i) 0 = b.getD i 0 := by rw [Nat.zero_add]
      simp only [absE, absL, absF, reduceCtorEq, ↓reduceIte, Nat.reduceEqDiff, Nat.reduceAdd, Nat.reduceLT, Nat.reduceMul, Nat.reduceSub, Nat.reduceLeDiff, Int.reduceLT, Int.reduceLE, Int.reduceEq, Option.isSome_some, implies_true, false_implies, Prod.mk.injEq, ne_eq, not_false_eq_true, not_true_eq_false, ge_iff_le, gt_iff_lt, Int.toNat_natCast, Int.reduceToNat, Int.cast_ofNat_Int, Int.natCast_nonneg, h', v1, e0, e1, e2, e3, wm, wa, wb, wt, p0, mx]
      repeat refine And.intro (by first | omega | decide +kernel) ?_
      refine LoopNext.intro (i + 1) (by omega) (by omega) ⟨[((28,0),(2,0))], rfl, ?_, ?_⟩
      · simp [wkEnv, lk, renV, renAt, renTo, w, addR]
      · simp [wkMem, wkLoc, Mem.get, assoc, renBlk, renSegs, renSg, renTo, w, addR]
    · obtain rfl : i = N := by omega
      simp only [absE, absL, absF, reduceCtorEq, ↓reduceIte, Nat.reduceEqDiff, Nat.reduceAdd, Nat.reduceLT, Nat.reduceMul, Nat.reduceSub, Nat.reduceLeDiff, Int.reduceLT, Int.reduceLE, Int.reduceEq, Option.isSome_some, implies_true, false_implies, Prod.mk.injEq, ne_eq, not_false_eq_true, not_true_eq_false, ge_iff_le, gt_iff_lt, Int.toNat_natCast, Int.reduceToNat, Int.cast_ofNat_Int, Int.natCast_nonneg, h', Try.results55]
      exact ⟨[(2, 0)], by simp, by simp, by simp [renV, renVs, renAt, renFin, idx], by simp [renBlk, renSegs, renSg], by simp [renBlk, renSegs, renSg, Mem.get, assoc]⟩
theorem addRR_len {n : Int} {t : List Int} {p : Int} {xs ys : List Int} {k m : Nat} (h : decide (rcd2 n t p xs k ys m = 0) = true) : (addRR n p xs ys).length < 2 ^ 40 := by
  have h1 := (rcd2_zero (of_decide_eq_true h)).1
  have := loopB_le h1
  unfold addRR; rw [addR_len]; omega

end Go.Proofs.Ytjmenocghjggcaa
