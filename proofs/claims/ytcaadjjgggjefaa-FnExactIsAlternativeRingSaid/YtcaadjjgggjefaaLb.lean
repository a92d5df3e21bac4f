/-
Contracts of functions of the given program, by the abstract walk.
-/
import Derived.Test.YtcaadjjgggjefaaAbsY
import Derived.Test.YtcaadjjgggjefaaLa
namespace Go.Proofs.Ytcaadjjgggjefaa
open Go Go.Abs
set_option linter.unusedVariables false
set_option linter.unusedSectionVars false
set_option linter.unusedSimpArgs false
set_option maxRecDepth 100000
theorem l10UnitX_ok (N x : Nat) (hx : x < N) (hN : N ≤ 10) : ACalls Try.prog 126 [.i .i64 N, .i .i64 x] [] (fun v ms ns => v = .ref (.sl 1 0 0 0 N 1) ∧ ms = [] ∧ ns = [.lv true [(0, .ints .i64 N (uniX N x))]]) := by
  have hk8 : (N : Int) * 8 ≤ 140737488355328 := by omega
  have m1 : N * 1 = N := Nat.mul_one N
  have i0 : (x : Int) < N := by omega
  have u0 : 0 + x * 1 + 1 ≤ N := by omega
  have ex : (List.replicate N (0 : Int)).set (0 + x * 1) 1 = uniX N x := by rw [Nat.zero_add, Nat.mul_one]; rfl
  refine acalls_of_body mix Try.func126 rfl fok126 (Nat.le_of_ble_eq_true rfl) ?_
  unfold abody
  by_cases h : 1 = N
  · have h1t : (1 = N) = True := eq_true h
    have ex1 : [(1 : Int)] = uniX N x := by
      obtain rfl : x = 0 := by omega
      subst h; rfl
    simp only [absE, absL, absF, reduceCtorEq, ↓reduceIte, Nat.reduceEqDiff, Nat.reduceAdd, Nat.reduceLT, Nat.reduceMul, Nat.reduceSub, Nat.reduceLeDiff, Int.reduceLT, Int.reduceLE, Int.reduceEq, Option.isSome_some, implies_true, false_implies, Prod.mk.injEq, ne_eq, not_false_eq_true, not_true_eq_false, ge_iff_le, gt_iff_lt, Int.toNat_natCast, Int.reduceToNat, Int.cast_ofNat_Int, Int.natCast_nonneg, hk8, m1, i0, h1t, ex1, Try.f126, Try.results126]
    repeat refine And.intro (by omega) ?_
    exact ⟨[(3, 0)], by simp, by simp, by simp [renV, renAt, renFin, idx], by simp, by simp [renBlk, renSegs, renSg, Mem.get, assoc]⟩
  · simp only [absE, absL, absF, reduceCtorEq, ↓reduceIte, Nat.reduceEqDiff, Nat.reduceAdd, Nat.reduceLT, Nat.reduceMul, Nat.reduceSub, Nat.reduceLeDiff, Int.reduceLT, Int.reduceLE, Int.reduceEq, Option.isSome_some, implies_true, false_implies, Prod.mk.injEq, ne_eq, not_false_eq_true, not_true_eq_false, ge_iff_le, gt_iff_lt, Int.toNat_natCast, Int.reduceToNat, Int.cast_ofNat_Int, Int.natCast_nonneg, hk8, m1, i0, u0, h, zeroArr, ex, Try.f126, Try.results126]
    exact ⟨[(3, 0)], by simp, by simp, by simp [renV, renAt, renFin, idx], by simp, by simp [renBlk, renSegs, renSg, Mem.get, assoc]⟩
theorem l10First_ok (k : Nat) (xs : List Int) (hx : xs.length = k) (hk : k ≤ 2 ^ 20) :
    ACalls Try.prog 146 [.ref (.sl 0 0 0 0 k 1), .i .i64 k] [.lv true [(0, .ints .i64 k xs)]] (fun v ms ns => (∃ r : Int, v = .i .i64 r ∧ (r < 0 ↔ ZerP xs)) ∧ ms = [.lv true [(0, .ints .i64 k xs)]] ∧ ns = []) := by
  refine acalls_of_body mix Try.func146 rfl fok146 (Nat.le_of_ble_eq_true rfl) ?_
  unfold abody
  simp only [absE, absL, absF, reduceCtorEq, ↓reduceIte, Nat.reduceEqDiff, Nat.reduceAdd, Nat.reduceLT, Nat.reduceMul, Nat.reduceSub, Nat.reduceLeDiff, Int.reduceLT, Int.reduceLE, Int.reduceEq, Option.isSome_some, implies_true, false_implies, Prod.mk.injEq, ne_eq, not_false_eq_true, not_true_eq_false, ge_iff_le, gt_iff_lt, Int.toNat_natCast, Int.reduceToNat, Int.cast_ofNat_Int, Int.natCast_nonneg, Try.f146]
  refine awpLoop.intro (fun i : Nat => [(0, .ref (.sl 0 0 0 0 k 1)), (1, .i .i64 k), (5, .i .i64 i)]) (fun i => ⟨[.lv true [(0, .ints .i64 k xs)]], [], 3⟩)
    (fun i => i ≤ k ∧ ∀ j, j < i → xs.getD j 0 = 0) (fun i => k - i) 0 ⟨by omega, fun j hj => absurd hj (by omega)⟩ ⟨[], rfl, ?_, ?_⟩ ?_
  · simp [wkEnv, lk, renV, renAt, renTo]
  · simp [wkMem, wkLoc, Mem.get, assoc, renBlk, renSegs, renSg, renTo]
  · rintro i ⟨hi, hp⟩
    by_cases h : (i : Int) < k
    · have w := wrap_i64s (show i < 2 ^ 62 by omega)
      have v1 : 0 + i * 1 < k := by omega
      have e0 : xs.getD (0 + i * 1) 0 = xs.getD i 0 := by rw [Nat.zero_add, Nat.mul_one]
      by_cases hz : xs.getD i 0 = 0
      · simp only [absE, absL, absF, reduceCtorEq, ↓reduceIte, Nat.reduceEqDiff, Nat.reduceAdd, Nat.reduceLT, Nat.reduceMul, Nat.reduceSub, Nat.reduceLeDiff, Int.reduceLT, Int.reduceLE, Int.reduceEq, Option.isSome_some, implies_true, false_implies, Prod.mk.injEq, ne_eq, not_false_eq_true, not_true_eq_false, ge_iff_le, gt_iff_lt, Int.toNat_natCast, Int.reduceToNat, Int.cast_ofNat_Int, Int.natCast_nonneg, h, v1, e0, hz]
        refine LoopNext.intro (i + 1) ⟨by omega, fun j hj => ?_⟩ (by omega) ⟨[], rfl, ?_, ?_⟩
        · by_cases ej : j = i
          · subst ej; exact hz
          · exact hp j (by omega)
        · simp [wkEnv, lk, renV, renAt, renTo, w]
        · simp [wkMem, wkLoc, Mem.get, assoc, renBlk, renSegs, renSg, renTo, w]
      · simp only [absE, absL, absF, reduceCtorEq, ↓reduceIte, Nat.reduceEqDiff, Nat.reduceAdd, Nat.reduceLT, Nat.reduceMul, Nat.reduceSub, Nat.reduceLeDiff, Int.reduceLT, Int.reduceLE, Int.reduceEq, Option.isSome_some, implies_true, false_implies, Prod.mk.injEq, ne_eq, not_false_eq_true, not_true_eq_false, ge_iff_le, gt_iff_lt, Int.toNat_natCast, Int.reduceToNat, Int.cast_ofNat_Int, Int.natCast_nonneg, h, v1, e0, hz, Try.results146]
        exact ⟨[], by simp, by simp, ⟨(i : Int), by simp [renV], ⟨fun hh => by omega, fun hh => absurd (hh i (by omega)) hz⟩⟩, by simp [renBlk, renSegs, renSg], by simp⟩
    · simp only [absE, absL, absF, reduceCtorEq, ↓reduceIte, Nat.reduceEqDiff, Nat.reduceAdd, Nat.reduceLT, Nat.reduceMul, Nat.reduceSub, Nat.reduceLeDiff, Int.reduceLT, Int.reduceLE, Int.reduceEq, Option.isSome_some, implies_true, false_implies, Prod.mk.injEq, ne_eq, not_false_eq_true, not_true_eq_false, ge_iff_le, gt_iff_lt, Int.toNat_natCast, Int.reduceToNat, Int.cast_ofNat_Int, Int.natCast_nonneg, h, Try.results146]
      exact ⟨[], by simp, by simp, ⟨-1, by simp [renV], ⟨fun _ j hj => hp j (by omega), fun _ => by omega⟩⟩, by simp [renBlk, renSegs, renSg], by simp⟩
theorem l10Zero_ok (k : Nat) (xs : List Int) (hx : xs.length = k) (hk : k ≤ 2 ^ 20) :
    ACalls Try.prog 127 [.ref (.sl 0 0 0 0 k 1)] [.lv true [(0, .ints .i64 k xs)]] (fun v ms ns => v = .b (zerB xs) ∧ ms = [.lv true [(0, .ints .i64 k xs)]] ∧ ns = []) := by
  refine acalls_of_body mix Try.func127 rfl fok127 (Nat.le_of_ble_eq_true rfl) ?_
  unfold abody
  simp only [absE, absL, absF, reduceCtorEq, ↓reduceIte, Nat.reduceEqDiff, Nat.reduceAdd, Nat.reduceLT, Nat.reduceMul, Nat.reduceSub, Nat.reduceLeDiff, Int.reduceLT, Int.reduceLE, Int.reduceEq, Option.isSome_some, implies_true, false_implies, Prod.mk.injEq, ne_eq, not_false_eq_true, not_true_eq_false, ge_iff_le, gt_iff_lt, Int.toNat_natCast, Int.reduceToNat, Int.cast_ofNat_Int, Int.natCast_nonneg, Try.f127]
  refine CallsVia.args [(0, 0)] (l10First_ok k xs hx hk) (by simp) (by simp [Mem.get]) rfl rfl ?_
  rintro _ _ _ ⟨⟨r, rfl, hr⟩, rfl, rfl⟩
  have e : decide (r < 0) = zerB xs := decide_eq_decide.2 hr
  simp only [absE, absL, absF, reduceCtorEq, ↓reduceIte, Nat.reduceEqDiff, Nat.reduceAdd, Nat.reduceLT, Nat.reduceMul, Nat.reduceSub, Nat.reduceLeDiff, Int.reduceLT, Int.reduceLE, Int.reduceEq, Option.isSome_some, implies_true, false_implies, Prod.mk.injEq, ne_eq, not_false_eq_true, not_true_eq_false, ge_iff_le, gt_iff_lt, Int.toNat_natCast, Int.reduceToNat, Int.cast_ofNat_Int, Int.natCast_nonneg, e, Try.results127]
  exact ⟨[], by simp, by simp, by simp [renV], by simp [renBlk, renSegs, renSg], by simp⟩
/-! sums of associators, as the program keeps them -/
def incL (xs : List Int) (z : Nat) (d : Int) : List Int := xs.set z (xs.getD z 0 + d)
theorem incL_len {xs : List Int} {z : Nat} {d : Int} : (incL xs z d).length = xs.length := by simp [incL]
theorem incL_get {xs : List Int} {z w : Nat} {d : Int} (h : z < xs.length) : (incL xs z d).getD w 0 = xs.getD w 0 + dl z w * d := by
  unfold incL dl
  rw [getD_set_int h]
  split
  · rename_i e; subst e; omega
  · omega
def canL (N A B C D : Nat) : List Int := incL (incL (incL (incL (List.replicate N 0) A 1) B (-1)) C 1) D (-1)
theorem canL_len {N A B C D : Nat} : (canL N A B C D).length = N := by simp [canL, incL_len]
theorem canL_get {N A B C D w : Nat} (hA : A < N) (hB : B < N) (hC : C < N) (hD : D < N) : (canL N A B C D).getD w 0 = canD A B C D w := by
  unfold canL
  rw [incL_get (by simp [incL_len]; exact hD), incL_get (by simp [incL_len]; exact hC), incL_get (by simp [incL_len]; exact hB), incL_get (by simp; exact hA), getD_rep0]
  unfold canD; omega
theorem cancel1_ok (p n : Int) (hp : PrP p) : ACalls Try.prog 148 [.i .i64 n, .ref (.ptr 0 0 0 0)] [.lv true [(0, .ints .i64 1 [p])]] (fun v ms ns => v = .b (!decide (n.tmod p = 0)) ∧ ms = [.lv true [(0, .ints .i64 1 [p])]] ∧ ns = []) := by
  have h2 := hp.le
  have p0 : ¬ p = 0 := by omega
  refine acalls_of_body mix Try.func148 rfl fok148 (Nat.le_of_ble_eq_true rfl) ?_
  unfold abody
  simp only [absE, absL, absF, reduceCtorEq, ↓reduceIte, Nat.reduceEqDiff, Nat.reduceAdd, Nat.reduceLT, Nat.reduceMul, Nat.reduceSub, Nat.reduceLeDiff, Int.reduceLT, Int.reduceLE, Int.reduceEq, Option.isSome_some, implies_true, false_implies, Prod.mk.injEq, ne_eq, not_false_eq_true, not_true_eq_false, ge_iff_le, gt_iff_lt, Int.toNat_natCast, Int.reduceToNat, Int.cast_ofNat_Int, Int.natCast_nonneg, List.getD_cons_zero, p0, Try.f148, Try.results148]
  exact ⟨[], by simp, by simp, by simp [renV], by simp [renBlk, renSegs, renSg], by simp⟩
theorem indexFunc1_ok (k : Nat) (xs : List Int) (f : FuncId) (g : Int → Bool) (p : Int) (hx : xs.length = k) (hk : k ≤ 2 ^ 20)
    (hf : ∀ n, ACalls Try.prog f [.i .i64 n, .ref (.ptr 0 0 0 0)] [.lv true [(0, .ints .i64 1 [p])]] (fun v ms ns => v = .b (g n) ∧ ms = [.lv true [(0, .ints .i64 1 [p])]] ∧ ns = [])) :
    ACalls Try.prog 152 [.ref (.sl 0 0 0 0 k 1), .ref (.fn f [(0, 1, 0, 0)])] [.lv true [(0, .ints .i64 k xs)], .lv true [(0, .ints .i64 1 [p])]] (fun v ms ns => (∃ r : Int, v = .i .i64 r ∧ (0 ≤ r ↔ ∃ i, i < k ∧ g (xs.getD i 0) = true)) ∧ ms = [.lv true [(0, .ints .i64 k xs)], .lv true [(0, .ints .i64 1 [p])]] ∧ ns = []) := by
  refine acalls_of_body mix Try.func152 rfl fok152 (Nat.le_of_ble_eq_true rfl) ?_
  unfold abody
  simp only [absE, absL, absF, reduceCtorEq, ↓reduceIte, Nat.reduceEqDiff, Nat.reduceAdd, Nat.reduceLT, Nat.reduceMul, Nat.reduceSub, Nat.reduceLeDiff, Int.reduceLT, Int.reduceLE, Int.reduceEq, Option.isSome_some, implies_true, false_implies, Prod.mk.injEq, ne_eq, not_false_eq_true, not_true_eq_false, ge_iff_le, gt_iff_lt, Int.toNat_natCast, Int.reduceToNat, Int.cast_ofNat_Int, Int.natCast_nonneg, Try.f152]
  refine awpLoop.intro (fun i : Nat => [(0, .ref (.sl 0 0 0 0 k 1)), (1, .ref (.fn f [(0, 1, 0, 0)])), (7, .i .i64 k), (8, .i .i64 i)]) (fun i => ⟨[.lv true [(0, .ints .i64 k xs)], .lv true [(0, .ints .i64 1 [p])]], [], 5⟩)
    (fun i => i ≤ k ∧ ∀ j, j < i → g (xs.getD j 0) = false) (fun i => k - i) 0 ⟨by omega, fun j hj => absurd hj (by omega)⟩ ⟨[], rfl, ?_, ?_⟩ ?_
  · simp [wkEnv, lk, renV, renAt, renTo, renCaps, renAt]
  · simp [wkMem, wkLoc, Mem.get, assoc, renBlk, renSegs, renSg, renTo, renCaps, renAt]
  · rintro i ⟨hi, hp⟩
    by_cases h : (i : Int) < k
    · have w := wrap_i64s (show i < 2 ^ 62 by omega)
      have v1 : 0 + i * 1 < k := by omega
      have e0 : xs.getD (0 + i * 1) 0 = xs.getD i 0 := by rw [Nat.zero_add, Nat.mul_one]
      simp only [absE, absL, absF, reduceCtorEq, ↓reduceIte, Nat.reduceEqDiff, Nat.reduceAdd, Nat.reduceLT, Nat.reduceMul, Nat.reduceSub, Nat.reduceLeDiff, Int.reduceLT, Int.reduceLE, Int.reduceEq, Option.isSome_some, implies_true, false_implies, Prod.mk.injEq, ne_eq, not_false_eq_true, not_true_eq_false, ge_iff_le, gt_iff_lt, Int.toNat_natCast, Int.reduceToNat, Int.cast_ofNat_Int, Int.natCast_nonneg, h, v1, e0]
      refine CallsVia.args [(0, 1)] (hf (xs.getD i 0)) (by simp) (by simp [Mem.get]) rfl rfl ?_
      rintro _ _ _ ⟨rfl, rfl, rfl⟩
      cases hg : g (xs.getD i 0)
      · simp only [absE, absL, absF, reduceCtorEq, ↓reduceIte, Nat.reduceEqDiff, Nat.reduceAdd, Nat.reduceLT, Nat.reduceMul, Nat.reduceSub, Nat.reduceLeDiff, Int.reduceLT, Int.reduceLE, Int.reduceEq, Option.isSome_some, implies_true, false_implies, Prod.mk.injEq, ne_eq, not_false_eq_true, not_true_eq_false, ge_iff_le, gt_iff_lt, Int.toNat_natCast, Int.reduceToNat, Int.cast_ofNat_Int, Int.natCast_nonneg]
        refine LoopNext.intro (i + 1) ⟨by omega, fun j hj => ?_⟩ (by omega) ⟨[], rfl, ?_, ?_⟩
        · by_cases ej : j = i
          · subst ej; exact hg
          · exact hp j (by omega)
        · simp [wkEnv, lk, renV, renAt, renTo, w, renCaps, renAt]
        · simp [wkMem, wkLoc, Mem.get, assoc, renBlk, renSegs, renSg, renTo, w, renCaps, renAt]
      · simp only [absE, absL, absF, reduceCtorEq, ↓reduceIte, Nat.reduceEqDiff, Nat.reduceAdd, Nat.reduceLT, Nat.reduceMul, Nat.reduceSub, Nat.reduceLeDiff, Int.reduceLT, Int.reduceLE, Int.reduceEq, Option.isSome_some, implies_true, false_implies, Prod.mk.injEq, ne_eq, not_false_eq_true, not_true_eq_false, ge_iff_le, gt_iff_lt, Int.toNat_natCast, Int.reduceToNat, Int.cast_ofNat_Int, Int.natCast_nonneg, Try.results152]
        exact ⟨[], by simp, by simp, ⟨(i : Int), by simp [renV], ⟨fun _ => ⟨i, by omega, hg⟩, fun _ => by omega⟩⟩, by simp [renBlk, renSegs, renSg], by simp⟩
    · simp only [absE, absL, absF, reduceCtorEq, ↓reduceIte, Nat.reduceEqDiff, Nat.reduceAdd, Nat.reduceLT, Nat.reduceMul, Nat.reduceSub, Nat.reduceLeDiff, Int.reduceLT, Int.reduceLE, Int.reduceEq, Option.isSome_some, implies_true, false_implies, Prod.mk.injEq, ne_eq, not_false_eq_true, not_true_eq_false, ge_iff_le, gt_iff_lt, Int.toNat_natCast, Int.reduceToNat, Int.cast_ofNat_Int, Int.natCast_nonneg, h, Try.results152]
      exact ⟨[], by simp, by simp, ⟨-1, by simp [renV], ⟨fun hh => by omega, fun ⟨j, hj, hgj⟩ => by rw [hp j (by omega)] at hgj; cases hgj⟩⟩, by simp [renBlk, renSegs, renSg], by simp⟩
theorem containsFunc1_ok (k : Nat) (xs : List Int) (p : Int) (hp : PrP p) (hx : xs.length = k) (hk : k ≤ 2 ^ 20) :
    ACalls Try.prog 147 [.ref (.sl 0 0 0 0 k 1), .ref (.fn 148 [(0, 1, 0, 0)])] [.lv true [(0, .ints .i64 k xs)], .lv true [(0, .ints .i64 1 [p])]] (fun v ms ns => v = .b (!decide (∀ i, i < k → (xs.getD i 0).tmod p = 0)) ∧ ms = [.lv true [(0, .ints .i64 k xs)], .lv true [(0, .ints .i64 1 [p])]] ∧ ns = []) := by
  refine acalls_of_body mix Try.func147 rfl fok147 (Nat.le_of_ble_eq_true rfl) ?_
  unfold abody
  simp only [absE, absL, absF, reduceCtorEq, ↓reduceIte, Nat.reduceEqDiff, Nat.reduceAdd, Nat.reduceLT, Nat.reduceMul, Nat.reduceSub, Nat.reduceLeDiff, Int.reduceLT, Int.reduceLE, Int.reduceEq, Option.isSome_some, implies_true, false_implies, Prod.mk.injEq, ne_eq, not_false_eq_true, not_true_eq_false, ge_iff_le, gt_iff_lt, Int.toNat_natCast, Int.reduceToNat, Int.cast_ofNat_Int, Int.natCast_nonneg, Try.f147]
  refine CallsVia.args [(0, 0), (0, 1)] (indexFunc1_ok k xs 148 (fun n => !decide (n.tmod p = 0)) p hx hk fun n => cancel1_ok p n hp) (by simp) (by simp [Mem.get]) rfl rfl ?_
  rintro _ _ _ ⟨⟨r, rfl, hr⟩, rfl, rfl⟩
  have e : decide (0 ≤ r) = !decide (∀ i, i < k → (xs.getD i 0).tmod p = 0) := by
    rw [Bool.eq_iff_iff, decide_eq_true_iff, hr]
    simp
  simp only [absE, absL, absF, reduceCtorEq, ↓reduceIte, Nat.reduceEqDiff, Nat.reduceAdd, Nat.reduceLT, Nat.reduceMul, Nat.reduceSub, Nat.reduceLeDiff, Int.reduceLT, Int.reduceLE, Int.reduceEq, Option.isSome_some, implies_true, false_implies, Prod.mk.injEq, ne_eq, not_false_eq_true, not_true_eq_false, ge_iff_le, gt_iff_lt, Int.toNat_natCast, Int.reduceToNat, Int.cast_ofNat_Int, Int.natCast_nonneg, e, Try.results147]
  exact ⟨[], by simp, by simp, by simp [renV], by simp [renBlk, renSegs, renSg], by simp⟩
theorem inc_facts {N A B : Nat} {s : List Int} (hA : A < N) (hB : B < N) (hl : s.length = N) (hb : ∀ j, -100 ≤ s.getD j 0 ∧ s.getD j 0 ≤ 100) :
    (0 + A * 1 < N ∧ 0 + B * 1 < N ∧ s.getD (0 + A * 1) 0 = s.getD A 0 ∧ IntKind.i64.wrap (s.getD A 0 + 1) = s.getD A 0 + 1 ∧ s.set (0 + A * 1) (s.getD A 0 + 1) = incL s A 1) ∧
    ((incL s A 1).getD (0 + B * 1) 0 = (incL s A 1).getD B 0 ∧ IntKind.i64.wrap ((incL s A 1).getD B 0 - 1) = (incL s A 1).getD B 0 - 1 ∧ (incL s A 1).set (0 + B * 1) ((incL s A 1).getD B 0 - 1) = incL (incL s A 1) B (-1)) := by
  have b1 := hb A
  have b2 := hb B
  have b3 : (incL s A 1).getD B 0 = s.getD B 0 + dl A B * 1 := incL_get (by omega)
  have b4 := dl_cases A B
  refine ⟨⟨by omega, by omega, by rw [Nat.zero_add, Nat.mul_one], wrap_i64 (by omega) (by omega), by rw [Nat.zero_add, Nat.mul_one]; rfl⟩, by rw [Nat.zero_add, Nat.mul_one], wrap_i64 ?_ ?_, by rw [Nat.zero_add, Nat.mul_one]; rfl⟩
  · rw [b3]; rcases b4 with e | e <;> rw [e] <;> omega
  · rw [b3]; rcases b4 with e | e <;> rw [e] <;> omega
theorem one_set {A : Nat} {s : List Int} {v : Int} (h : s.length = 1) (hA : A < 1) : [s.getD A 0 + v] = incL s A v := by
  obtain rfl : A = 0 := by omega
  match s, h with
  | [a], _ => rfl
def csL (N A B C D : Nat) : Nat → List Int
  | 0 => List.replicate N 0
  | 1 => incL (incL (List.replicate N 0) A 1) B (-1)
  | _ => canL N A B C D
theorem csL_len {N A B C D : Nat} : ∀ {i}, (csL N A B C D i).length = N
  | 0 => by simp [csL]
  | 1 => by simp [csL, incL_len]
  | i + 2 => canL_len
theorem csL_rng {N A B C D : Nat} (hA : A < N) (hB : B < N) : ∀ {i}, i < 2 → ∀ j, -100 ≤ (csL N A B C D i).getD j 0 ∧ (csL N A B C D i).getD j 0 ≤ 100
  | 0, _, j => by rw [csL, getD_rep0]; omega
  | 1, _, j => by
    rw [csL, incL_get (by simp [incL_len]; exact hB), incL_get (by simp; exact hA), getD_rep0]
    rcases dl_cases A j with e | e <;> rcases dl_cases B j with f | f <;> rw [e, f] <;> omega
  | i + 2, h, _ => absurd h (by omega)
def at3 (a b c : Nat) : AV := .agg [(0, .ints .u8 3 [(a : Int), (b : Int), (c : Int)])]
theorem cancel_ok (N : Nat) (t : List Int) (p : Int) (x y z x' y' z' : Nat) (ht : Bytes 100 t) (hs : SqP N t) (hp : PrP p) (hx : x < N) (hy : y < N) (hz : z < N) (hx' : x' < N) (hy' : y' < N) (hz' : z' < N) :
    ACalls Try.prog 129 [.agg (sqS N t), .i .i64 p, at3 x y z, at3 x' y' z'] [] (fun v ms ns => v = .b (canB p N (cl t (cl t x y) z) (cl t x (cl t y z)) (cl t (cl t x' y') z') (cl t x' (cl t y' z'))) ∧ ms = [] ∧ ns = []) := by
  have hN := hs.le
  have hk8 : (N : Int) * 8 ≤ 140737488355328 := by omega
  have m1 : N * 1 = N := Nat.mul_one N
  unfold at3
  have hA0 := hs.cl_lt (hs.cl_lt hx hy) hz
  have hB0 := hs.cl_lt hx (hs.cl_lt hy hz)
  have hA1 := hs.cl_lt (hs.cl_lt hx' hy') hz'
  have hB1 := hs.cl_lt hx' (hs.cl_lt hy' hz')
  generalize eC0 : csL N (cl t (cl t x y) z) (cl t x (cl t y z)) (cl t (cl t x' y') z') (cl t x' (cl t y' z')) = cs
  have hl : ∀ i, (cs i).length = N := fun i => by rw [← eC0]; exact csL_len
  have hr : ∀ i, i < 2 → ∀ j, -100 ≤ (cs i).getD j 0 ∧ (cs i).getD j 0 ≤ 100 := fun i hi => by rw [← eC0]; exact csL_rng hA0 hB0 hi
  have c1 : incL (incL (cs 0) (cl t (cl t x y) z) 1) (cl t x (cl t y z)) (-1) = cs 1 := by rw [← eC0]; rfl
  have c2 : incL (incL (cs 1) (cl t (cl t x' y') z') 1) (cl t x' (cl t y' z')) (-1) = cs 2 := by rw [← eC0]; rfl
  have c0 : cs 0 = List.replicate N 0 := by rw [← eC0]; rfl
  have c3 : cs 2 = canL N (cl t (cl t x y) z) (cl t x (cl t y z)) (cl t (cl t x' y') z') (cl t x' (cl t y' z')) := by rw [← eC0]; rfl
  refine acalls_of_body mix Try.func129 rfl fok129 (Nat.le_of_ble_eq_true rfl) ?_
  unfold abody
  simp only [absE, absL, absF, reduceCtorEq, ↓reduceIte, Nat.reduceEqDiff, Nat.reduceAdd, Nat.reduceLT, Nat.reduceMul, Nat.reduceSub, Nat.reduceLeDiff, Int.reduceLT, Int.reduceLE, Int.reduceEq, Option.isSome_some, implies_true, false_implies, Prod.mk.injEq, ne_eq, not_false_eq_true, not_true_eq_false, ge_iff_le, gt_iff_lt, Int.toNat_natCast, Int.reduceToNat, Int.cast_ofNat_Int, Int.natCast_nonneg, hk8, m1, zeroArr, ← c0, Try.f129]
  refine awpLoop.intro (fun i : Nat => [(4, .ref (.ptr 1 0 0 0)), (5, .ref (.ptr 2 0 0 0)), (9, .ref (.sl 8 0 0 0 N 1)), (17, .agg [(0, .ints .u8 6 [(x : Int), (y : Int), (z : Int), (x' : Int), (y' : Int), (z' : Int)])]), (18, .i .i64 i)]) (fun i => ⟨[], [((1, 0), .lv true (sqS N t)), ((2, 0), .lv true ([(0, .ints .i64 1 [p])])), ((8, 0), .lv true ([(0, .ints .i64 N (cs i))]))], 14⟩)
    (fun i => i ≤ 2) (fun i => 2 - i) 0 (by omega) ⟨[((1,0),(1,0)), ((2,0),(2,0)), ((8,0),(8,0))], rfl, ?_, ?_⟩ ?_
  · simp [wkEnv, lk, renV, renAt, renTo, renSegs, renSg]
  · simp [wkMem, wkLoc, Mem.get, assoc, renBlk, renSegs, renSg, renTo, renSegs, renSg]
  · rintro i hi
    by_cases h0 : i = 0
    · subst h0
      have q0 : List.take 3 (List.drop 0 [(x : Int), (y : Int), (z : Int), (x' : Int), (y' : Int), (z' : Int)]) = [(x : Int), (y : Int), (z : Int)] := rfl
      have d0 : [(x : Int), (y : Int), (z : Int)].getD 0 0 = x := rfl
      have d1 : [(x : Int), (y : Int), (z : Int)].getD 1 0 = y := rfl
      have d2 : [(x : Int), (y : Int), (z : Int)].getD 2 0 = z := rfl
      have w : IntKind.i64.wrap 1 = 1 := by decide
      have g := inc_facts hA0 hB0 (hl 0) (hr 0 (by omega))
      have i1 : (x : Int) < 10 := by omega
      have i2 : (y : Int) < 10 := by omega
      have i3 : (z : Int) < 10 := by omega
      have j1 := hs.cl_lt hx hy
      have j2 := hs.cl_lt hy hz
      have i4 : (cl t x y : Int) < 10 := by omega
      have i5 : (cl t y z : Int) < 10 := by omega
      have u1 : 0 + x * 10 + y * 1 < 100 := by omega
      have u2 : 0 + y * 10 + z * 1 < 100 := by omega
      have u3 : 0 + cl t x y * 10 + z * 1 < 100 := by omega
      have u4 : 0 + x * 10 + cl t y z * 1 < 100 := by omega
      have k1 := sq_colget ht x y
      have k2 := sq_colget ht y z
      have k3 := sq_colget ht (cl t x y) z
      have k4 := sq_colget ht x (cl t y z)
      have n1 : (cl t (cl t x y) z : Int) < N := by omega
      have n2 : (cl t x (cl t y z) : Int) < N := by omega
      by_cases hn : 1 = N
      · have hnt : (1 = N) = True := eq_true hn
        have z1 : (0 + cl t (cl t x y) z * 1 = 0) = True := eq_true (by omega)
        have z2 : (0 + cl t x (cl t y z) * 1 = 0) = True := eq_true (by omega)
        have o1 : [(cs 0).getD (cl t (cl t x y) z) 0 + 1] = incL (cs 0) (cl t (cl t x y) z) 1 := one_set (by rw [hl, hn]) (by omega)
        have o2 : [(incL (cs 0) (cl t (cl t x y) z) 1).getD (cl t x (cl t y z)) 0 - 1] = incL (incL (cs 0) (cl t (cl t x y) z) 1) (cl t x (cl t y z)) (-1) := one_set (by rw [incL_len, hl, hn]) (by omega)
        simp only [absE, absL, absF, reduceCtorEq, ↓reduceIte, Nat.reduceEqDiff, Nat.reduceAdd, Nat.reduceLT, Nat.reduceMul, Nat.reduceSub, Nat.reduceLeDiff, Int.reduceLT, Int.reduceLE, Int.reduceEq, Option.isSome_some, implies_true, false_implies, Prod.mk.injEq, ne_eq, not_false_eq_true, not_true_eq_false, ge_iff_le, gt_iff_lt, Int.toNat_natCast, Int.reduceToNat, Int.cast_ofNat_Int, Int.natCast_nonneg, hnt, z1, z2, o1, o2, q0, d0, d1, d2, i1, i2, i3, i4, i5, u1, u2, u3, u4, k1, k2, k3, k4, n1, n2, g.1.1, g.1.2.1, g.1.2.2.1, g.1.2.2.2.1, g.1.2.2.2.2, g.2.1, g.2.2.1, g.2.2.2, c1]
        repeat first | refine And.intro (by decide +kernel) ?_ | refine And.intro (by omega) ?_
        refine LoopNext.intro 1 (by omega) (by omega) ⟨[((1,0),(1,0)), ((2,0),(2,0)), ((8,0),(8,0))], rfl, ?_, ?_⟩
        · simp [wkEnv, lk, renV, renAt, renTo, renSegs, renSg, w]
        · simp [wkMem, wkLoc, Mem.get, assoc, renBlk, renSegs, renSg, renTo, renSegs, renSg, w]
      · simp only [absE, absL, absF, reduceCtorEq, ↓reduceIte, Nat.reduceEqDiff, Nat.reduceAdd, Nat.reduceLT, Nat.reduceMul, Nat.reduceSub, Nat.reduceLeDiff, Int.reduceLT, Int.reduceLE, Int.reduceEq, Option.isSome_some, implies_true, false_implies, Prod.mk.injEq, ne_eq, not_false_eq_true, not_true_eq_false, ge_iff_le, gt_iff_lt, Int.toNat_natCast, Int.reduceToNat, Int.cast_ofNat_Int, Int.natCast_nonneg, hn, q0, d0, d1, d2, i1, i2, i3, i4, i5, u1, u2, u3, u4, k1, k2, k3, k4, n1, n2, g.1.1, g.1.2.1, g.1.2.2.1, g.1.2.2.2.1, g.1.2.2.2.2, g.2.1, g.2.2.1, g.2.2.2, c1]
        repeat first | refine And.intro (by decide +kernel) ?_ | refine And.intro (by omega) ?_
        refine LoopNext.intro 1 (by omega) (by omega) ⟨[((1,0),(1,0)), ((2,0),(2,0)), ((8,0),(8,0))], rfl, ?_, ?_⟩
        · simp [wkEnv, lk, renV, renAt, renTo, renSegs, renSg, w]
        · simp [wkMem, wkLoc, Mem.get, assoc, renBlk, renSegs, renSg, renTo, renSegs, renSg, w]
    · by_cases h1 : i = 1
      · subst h1
        have q0 : List.take 3 (List.drop 3 [(x : Int), (y : Int), (z : Int), (x' : Int), (y' : Int), (z' : Int)]) = [(x' : Int), (y' : Int), (z' : Int)] := rfl
        have d0 : [(x' : Int), (y' : Int), (z' : Int)].getD 0 0 = x' := rfl
        have d1 : [(x' : Int), (y' : Int), (z' : Int)].getD 1 0 = y' := rfl
        have d2 : [(x' : Int), (y' : Int), (z' : Int)].getD 2 0 = z' := rfl
        have w : IntKind.i64.wrap 2 = 2 := by decide
        have g := inc_facts hA1 hB1 (hl 1) (hr 1 (by omega))
        have i1 : (x' : Int) < 10 := by omega
        have i2 : (y' : Int) < 10 := by omega
        have i3 : (z' : Int) < 10 := by omega
        have j1 := hs.cl_lt hx' hy'
        have j2 := hs.cl_lt hy' hz'
        have i4 : (cl t x' y' : Int) < 10 := by omega
        have i5 : (cl t y' z' : Int) < 10 := by omega
        have u1 : 0 + x' * 10 + y' * 1 < 100 := by omega
        have u2 : 0 + y' * 10 + z' * 1 < 100 := by omega
        have u3 : 0 + cl t x' y' * 10 + z' * 1 < 100 := by omega
        have u4 : 0 + x' * 10 + cl t y' z' * 1 < 100 := by omega
        have k1 := sq_colget ht x' y'
        have k2 := sq_colget ht y' z'
        have k3 := sq_colget ht (cl t x' y') z'
        have k4 := sq_colget ht x' (cl t y' z')
        have n1 : (cl t (cl t x' y') z' : Int) < N := by omega
        have n2 : (cl t x' (cl t y' z') : Int) < N := by omega
        by_cases hn : 1 = N
        · have hnt : (1 = N) = True := eq_true hn
          have z1 : (0 + cl t (cl t x' y') z' * 1 = 0) = True := eq_true (by omega)
          have z2 : (0 + cl t x' (cl t y' z') * 1 = 0) = True := eq_true (by omega)
          have o1 : [(cs 1).getD (cl t (cl t x' y') z') 0 + 1] = incL (cs 1) (cl t (cl t x' y') z') 1 := one_set (by rw [hl, hn]) (by omega)
          have o2 : [(incL (cs 1) (cl t (cl t x' y') z') 1).getD (cl t x' (cl t y' z')) 0 - 1] = incL (incL (cs 1) (cl t (cl t x' y') z') 1) (cl t x' (cl t y' z')) (-1) := one_set (by rw [incL_len, hl, hn]) (by omega)
          simp only [absE, absL, absF, reduceCtorEq, ↓reduceIte, Nat.reduceEqDiff, Nat.reduceAdd, Nat.reduceLT, Nat.reduceMul, Nat.reduceSub, Nat.reduceLeDiff, Int.reduceLT, Int.reduceLE, Int.reduceEq, Option.isSome_some, implies_true, false_implies, Prod.mk.injEq, ne_eq, not_false_eq_true, not_true_eq_false, ge_iff_le, gt_iff_lt, Int.toNat_natCast, Int.reduceToNat, Int.cast_ofNat_Int, Int.natCast_nonneg, hnt, z1, z2, o1, o2, q0, d0, d1, d2, i1, i2, i3, i4, i5, u1, u2, u3, u4, k1, k2, k3, k4, n1, n2, g.1.1, g.1.2.1, g.1.2.2.1, g.1.2.2.2.1, g.1.2.2.2.2, g.2.1, g.2.2.1, g.2.2.2, c2]
          repeat first | refine And.intro (by decide +kernel) ?_ | refine And.intro (by omega) ?_
          refine LoopNext.intro 2 (by omega) (by omega) ⟨[((1,0),(1,0)), ((2,0),(2,0)), ((8,0),(8,0))], rfl, ?_, ?_⟩
          · simp [wkEnv, lk, renV, renAt, renTo, renSegs, renSg, w]
          · simp [wkMem, wkLoc, Mem.get, assoc, renBlk, renSegs, renSg, renTo, renSegs, renSg, w]
        · simp only [absE, absL, absF, reduceCtorEq, ↓reduceIte, Nat.reduceEqDiff, Nat.reduceAdd, Nat.reduceLT, Nat.reduceMul, Nat.reduceSub, Nat.reduceLeDiff, Int.reduceLT, Int.reduceLE, Int.reduceEq, Option.isSome_some, implies_true, false_implies, Prod.mk.injEq, ne_eq, not_false_eq_true, not_true_eq_false, ge_iff_le, gt_iff_lt, Int.toNat_natCast, Int.reduceToNat, Int.cast_ofNat_Int, Int.natCast_nonneg, hn, q0, d0, d1, d2, i1, i2, i3, i4, i5, u1, u2, u3, u4, k1, k2, k3, k4, n1, n2, g.1.1, g.1.2.1, g.1.2.2.1, g.1.2.2.2.1, g.1.2.2.2.2, g.2.1, g.2.2.1, g.2.2.2, c2]
          repeat first | refine And.intro (by decide +kernel) ?_ | refine And.intro (by omega) ?_
          refine LoopNext.intro 2 (by omega) (by omega) ⟨[((1,0),(1,0)), ((2,0),(2,0)), ((8,0),(8,0))], rfl, ?_, ?_⟩
          · simp [wkEnv, lk, renV, renAt, renTo, renSegs, renSg, w]
          · simp [wkMem, wkLoc, Mem.get, assoc, renBlk, renSegs, renSg, renTo, renSegs, renSg, w]
      · obtain rfl : i = 2 := by omega
        simp only [absE, absL, absF, reduceCtorEq, ↓reduceIte, Nat.reduceEqDiff, Nat.reduceAdd, Nat.reduceLT, Nat.reduceMul, Nat.reduceSub, Nat.reduceLeDiff, Int.reduceLT, Int.reduceLE, Int.reduceEq, Option.isSome_some, implies_true, false_implies, Prod.mk.injEq, ne_eq, not_false_eq_true, not_true_eq_false, ge_iff_le, gt_iff_lt, Int.toNat_natCast, Int.reduceToNat, Int.cast_ofNat_Int, Int.natCast_nonneg]
        refine CallsVia.args [(8, 0), (2, 0)] (containsFunc1_ok N (cs 2) p hp (hl 2) (by omega)) (by simp) (by simp [Mem.get, assoc]) rfl rfl ?_
        rintro _ _ _ ⟨rfl, rfl, rfl⟩
        have e : decide (∀ i, i < N → ((cs 2).getD i 0).tmod p = 0) = canB p N (cl t (cl t x y) z) (cl t x (cl t y z)) (cl t (cl t x' y') z') (cl t x' (cl t y' z')) := decide_eq_decide.2 (forall_congr' fun w => forall_congr' fun hw => by rw [c3, canL_get hA0 hB0 hA1 hB1])
        simp only [absE, absL, absF, reduceCtorEq, ↓reduceIte, Nat.reduceEqDiff, Nat.reduceAdd, Nat.reduceLT, Nat.reduceMul, Nat.reduceSub, Nat.reduceLeDiff, Int.reduceLT, Int.reduceLE, Int.reduceEq, Option.isSome_some, implies_true, false_implies, Prod.mk.injEq, ne_eq, not_false_eq_true, not_true_eq_false, ge_iff_le, gt_iff_lt, Int.toNat_natCast, Int.reduceToNat, Int.cast_ofNat_Int, Int.natCast_nonneg, Bool.not_not, e, Try.results129]
        exact ⟨[], by simp, by simp, by simp [renV, renVs, renSegs, renSg]⟩

end Go.Proofs.Ytcaadjjgggjefaa
