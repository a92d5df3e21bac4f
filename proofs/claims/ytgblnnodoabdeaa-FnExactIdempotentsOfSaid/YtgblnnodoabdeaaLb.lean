/-
Contracts of functions of the given program, by the abstract walk.
-/
import Derived.Test.YtgblnnodoabdeaaAbsY
import Derived.Test.YtgblnnodoabdeaaLa
namespace Go.Proofs.Ytgblnnodoabdeaa
open Go Go.Abs
set_option linter.unusedVariables false
set_option linter.unusedSectionVars false
set_option linter.unusedSimpArgs false
set_option maxRecDepth 100000
theorem l10UnitX_ok (N x : Nat) (hx : x < N) (hN : N ≤ 10) : ACalls Try.prog 92 [.i .i64 N, .i .i64 x] [] (fun v ms ns => v = .ref (.sl 1 0 0 0 N 1) ∧ ms = [] ∧ ns = [.lv true [(0, .ints .i64 N (uniX N x))]]) := by
  have hk8 : (N : Int) * 8 ≤ 140737488355328 := by omega
  have m1 : N * 1 = N := Nat.mul_one N
  have i0 : (x : Int) < N := by omega
  have u0 : 0 + x * 1 + 1 ≤ N := by omega
  have ex : (List.replicate N (0 : Int)).set (0 + x * 1) 1 = uniX N x := by rw [Nat.zero_add, Nat.mul_one]; rfl
  refine acalls_of_body mix Try.func92 rfl fok92 (Nat.le_of_ble_eq_true rfl) ?_
  unfold abody
  by_cases h : 1 = N
  · have h1t : (1 = N) = True := eq_true h
    have ex1 : [(1 : Int)] = uniX N x := by
      obtain rfl : x = 0 := by omega
      subst h; rfl
    simp only [absE, absL, absF, reduceCtorEq, ↓reduceIte, Nat.reduceEqDiff, Nat.reduceAdd, Nat.reduceLT, Nat.reduceMul, Nat.reduceSub, Nat.reduceLeDiff, Int.reduceLT, Int.reduceLE, Int.reduceEq, Option.isSome_some, implies_true, false_implies, Prod.mk.injEq, ne_eq, not_false_eq_true, not_true_eq_false, ge_iff_le, gt_iff_lt, Int.toNat_natCast, Int.reduceToNat, Int.cast_ofNat_Int, Int.natCast_nonneg, hk8, m1, i0, h1t, ex1, Try.f92, Try.results92]
    repeat refine And.intro (by omega) ?_
    exact ⟨[(3, 0)], by simp, by simp, by simp [renV, renAt, renFin, idx], by simp, by simp [renBlk, renSegs, renSg, Mem.get, assoc]⟩
  · simp only [absE, absL, absF, reduceCtorEq, ↓reduceIte, Nat.reduceEqDiff, Nat.reduceAdd, Nat.reduceLT, Nat.reduceMul, Nat.reduceSub, Nat.reduceLeDiff, Int.reduceLT, Int.reduceLE, Int.reduceEq, Option.isSome_some, implies_true, false_implies, Prod.mk.injEq, ne_eq, not_false_eq_true, not_true_eq_false, ge_iff_le, gt_iff_lt, Int.toNat_natCast, Int.reduceToNat, Int.cast_ofNat_Int, Int.natCast_nonneg, hk8, m1, i0, u0, h, zeroArr, ex, Try.f92, Try.results92]
    exact ⟨[(3, 0)], by simp, by simp, by simp [renV, renAt, renFin, idx], by simp, by simp [renBlk, renSegs, renSg, Mem.get, assoc]⟩
theorem l10First_ok (k : Nat) (xs : List Int) (hx : xs.length = k) (hk : k ≤ 2 ^ 20) :
    ACalls Try.prog 139 [.ref (.sl 0 0 0 0 k 1), .i .i64 k] [.lv true [(0, .ints .i64 k xs)]] (fun v ms ns => (∃ r : Int, v = .i .i64 r ∧ (r < 0 ↔ ZerP xs)) ∧ ms = [.lv true [(0, .ints .i64 k xs)]] ∧ ns = []) := by
  refine acalls_of_body mix Try.func139 rfl fok139 (Nat.le_of_ble_eq_true rfl) ?_
  unfold abody
  simp only [absE, absL, absF, reduceCtorEq, ↓reduceIte, Nat.reduceEqDiff, Nat.reduceAdd, Nat.reduceLT, Nat.reduceMul, Nat.reduceSub, Nat.reduceLeDiff, Int.reduceLT, Int.reduceLE, Int.reduceEq, Option.isSome_some, implies_true, false_implies, Prod.mk.injEq, ne_eq, not_false_eq_true, not_true_eq_false, ge_iff_le, gt_iff_lt, Int.toNat_natCast, Int.reduceToNat, Int.cast_ofNat_Int, Int.natCast_nonneg, Try.f139]
  refine awpLoop.intro (fun i : Nat => [(0, .ref (.sl 0 0 0 0 k 1)), (1, .i .i64 k), (5, .i .i64 i)]) (fun i => ⟨[.lv true [(0, .ints .i64 k xs)]], [], 3⟩)
    (fun i => i ≤ k ∧ ∀ j, j < i → xs.getD j 0 = 0) (fun i => k - i) 0 ⟨by omega, fun j hj => absurd hj (by omega)⟩ ⟨[], rfl, ?_, ?_⟩ ?_
  · simp [wkEnv, lk, renV, renAt, renTo]
  · simp [wkMem, wkLoc, Mem.get, assoc, renBlk, renSegs, renSg, renTo]
  · rintro i ⟨hi, hp⟩
    by_cases h : (i : Int) < k
    · have w := wrap_i64s (show i < 2 ^ 62 by omega)
      have v1 : 0 + i * 1 < k := by omega
      have e0 : xs.getD (0 + i * 1) 0 = xs.getD i 0 := by rw [Nat.zero_add, Nat.mul_one]
      by_cases hz : xs.getD i 0 = 0
      · simp only [absE, absL, absF, reduceCtorEq, ↓reduceIte, Nat.reduceEqDiff, Nat.reduceAdd, Nat.reduceLT, Nat.reduceMul, Nat.reduceSub, Nat.reduceLeDiff, Int.reduceLT, Int.reduceLE, Int.reduceEq, Option.isSome_some, implies_true, false_implies, Prod.mk.injEq, ne_eq, not_false_eq_true, not_true_eq_false, ge_iff_le, gt_iff_lt, Int.toNat_natCast, Int.reduceToNat, Int.cast_ofNat_Int, Int.natCast_nonneg, h, v1, e0, hz]
        refine LoopNext.intro (i + 1) ⟨by omega, fun j hj => ?_⟩ (by omega) ⟨[], rfl, ?_, ?_⟩
        · by_cases ej : j = i
          · subst ej; exact hz
          · exact hp j (by omega)
        · simp [wkEnv, lk, renV, renAt, renTo, w]
        · simp [wkMem, wkLoc, Mem.get, assoc, renBlk, renSegs, renSg, renTo, w]
      · simp only [absE, absL, absF, reduceCtorEq, ↓reduceIte, Nat.reduceEqDiff, Nat.reduceAdd, Nat.reduceLT, Nat.reduceMul, Nat.reduceSub, Nat.reduceLeDiff, Int.reduceLT, Int.reduceLE, Int.reduceEq, Option.isSome_some, implies_true, false_implies, Prod.mk.injEq, ne_eq, not_false_eq_true, not_true_eq_false, ge_iff_le, gt_iff_lt, Int.toNat_natCast, Int.reduceToNat, Int.cast_ofNat_Int, Int.natCast_nonneg, h, v1, e0, hz, Try.results139]
        exact ⟨[], by simp, by simp, ⟨(i : Int), by simp [renV], ⟨fun hh => by omega, fun hh => absurd (hh i (by omega)) hz⟩⟩, by simp [renBlk, renSegs, renSg], by simp⟩
    · simp only [absE, absL, absF, reduceCtorEq, ↓reduceIte, Nat.reduceEqDiff, Nat.reduceAdd, Nat.reduceLT, Nat.reduceMul, Nat.reduceSub, Nat.reduceLeDiff, Int.reduceLT, Int.reduceLE, Int.reduceEq, Option.isSome_some, implies_true, false_implies, Prod.mk.injEq, ne_eq, not_false_eq_true, not_true_eq_false, ge_iff_le, gt_iff_lt, Int.toNat_natCast, Int.reduceToNat, Int.cast_ofNat_Int, Int.natCast_nonneg, h, Try.results139]
      exact ⟨[], by simp, by simp, ⟨-1, by simp [renV], ⟨fun _ j hj => hp j (by omega), fun _ => by omega⟩⟩, by simp [renBlk, renSegs, renSg], by simp⟩
def incL (xs : List Int) (z : Nat) (d : Int) : List Int := xs.set z (xs.getD z 0 + d)
theorem incL_len {xs : List Int} {z : Nat} {d : Int} : (incL xs z d).length = xs.length := by simp [incL]
theorem incL_get {xs : List Int} {z w : Nat} {d : Int} (h : z < xs.length) : (incL xs z d).getD w 0 = xs.getD w 0 + dl z w * d := by
  unfold incL dl
  rw [getD_set_int h]
  split
  · rename_i e; subst e; omega
  · omega
def canL (N A B C D : Nat) : List Int := incL (incL (incL (incL (List.replicate N 0) A 1) B (-1)) C 1) D (-1)
theorem canL_len {N A B C D : Nat} : (canL N A B C D).length = N := by simp [canL, incL_len]
theorem canL_get {N A B C D w : Nat} (hA : A < N) (hB : B < N) (hC : C < N) (hD : D < N) : (canL N A B C D).getD w 0 = canD A B C D w := by
  unfold canL
  rw [incL_get (by simp [incL_len]; exact hD), incL_get (by simp [incL_len]; exact hC), incL_get (by simp [incL_len]; exact hB), incL_get (by simp; exact hA), getD_rep0]
  unfold canD; omega
theorem inc_facts {N A B : Nat} {s : List Int} (hA : A < N) (hB : B < N) (hl : s.length = N) (hb : ∀ j, -100 ≤ s.getD j 0 ∧ s.getD j 0 ≤ 100) :
    (0 + A * 1 < N ∧ 0 + B * 1 < N ∧ s.getD (0 + A * 1) 0 = s.getD A 0 ∧ IntKind.i64.wrap (s.getD A 0 + 1) = s.getD A 0 + 1 ∧ s.set (0 + A * 1) (s.getD A 0 + 1) = incL s A 1) ∧
    ((incL s A 1).getD (0 + B * 1) 0 = (incL s A 1).getD B 0 ∧ IntKind.i64.wrap ((incL s A 1).getD B 0 - 1) = (incL s A 1).getD B 0 - 1 ∧ (incL s A 1).set (0 + B * 1) ((incL s A 1).getD B 0 - 1) = incL (incL s A 1) B (-1)) := by
  have b1 := hb A
  have b2 := hb B
  have b3 : (incL s A 1).getD B 0 = s.getD B 0 + dl A B * 1 := incL_get (by omega)
  have b4 := dl_cases A B
  refine ⟨⟨by omega, by omega, by rw [Nat.zero_add, Nat.mul_one], wrap_i64 (by omega) (by omega), by rw [Nat.zero_add, Nat.mul_one]; rfl⟩, by rw [Nat.zero_add, Nat.mul_one], wrap_i64 ?_ ?_, by rw [Nat.zero_add, Nat.mul_one]; rfl⟩
  · rw [b3]; rcases b4 with e | e <;> rw [e] <;> omega
  · rw [b3]; rcases b4 with e | e <;> rw [e] <;> omega
theorem one_set {A : Nat} {s : List Int} {v : Int} (h : s.length = 1) (hA : A < 1) : [s.getD A 0 + v] = incL s A v := by
  obtain rfl : A = 0 := by omega
  match s, h with
  | [a], _ => rfl
def csL (N A B C D : Nat) : Nat → List Int
  | 0 => List.replicate N 0
  | 1 => incL (incL (List.replicate N 0) A 1) B (-1)
  | _ => canL N A B C D
theorem csL_len {N A B C D : Nat} : ∀ {i}, (csL N A B C D i).length = N
  | 0 => by simp [csL]
  | 1 => by simp [csL, incL_len]
  | i + 2 => canL_len
theorem csL_rng {N A B C D : Nat} (hA : A < N) (hB : B < N) : ∀ {i}, i < 2 → ∀ j, -100 ≤ (csL N A B C D i).getD j 0 ∧ (csL N A B C D i).getD j 0 ≤ 100
  | 0, _, j => by rw [csL, getD_rep0]; omega
  | 1, _, j => by
    rw [csL, incL_get (by simp [incL_len]; exact hB), incL_get (by simp; exact hA), getD_rep0]
    rcases dl_cases A j with e | e <;> rcases dl_cases B j with f | f <;> rw [e, f] <;> omega
  | i + 2, h, _ => absurd h (by omega)
def at3 (a b c : Nat) : AV := .agg [(0, .ints .u8 3 [(a : Int), (b : Int), (c : Int)])]
end Go.Proofs.Ytgblnnodoabdeaa
