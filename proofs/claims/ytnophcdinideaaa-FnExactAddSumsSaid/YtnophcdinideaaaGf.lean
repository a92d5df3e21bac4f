/-
Contracts of functions of the given program, by the abstract walk.
-/
import Derived.Test.YtnophcdinideaaaAbsW
import Derived.Test.YtnophcdinideaaaGe
namespace Go.Proofs.Ytnophcdinideaaa
open Go Go.Abs
set_option linter.unusedVariables false
set_option linter.unusedSectionVars false
set_option linter.unusedSimpArgs false
set_option maxRecDepth 100000
def addR (p : Int) (a b : List Int) : Nat → List Int
  | 0 => []
  | i + 1 => addR p a b i ++ [(a.getD i 0 + b.getD i 0).tmod p]
theorem addR_len {p : Int} {a b : List Int} : ∀ {i}, (addR p a b i).length = i
  | 0 => rfl
  | i + 1 => by rw [addR, List.length_append, addR_len]; rfl
theorem tmod_twice {p s : Int} (hp : 0 < p) (hs : 0 ≤ s) : (s.tmod p + p).tmod p = s.tmod p := by
  have h1 := Int.tmod_nonneg p hs
  have h2 := Int.tmod_lt_of_pos s hp
  rw [Int.tmod_eq_emod_of_nonneg (show 0 ≤ s.tmod p + p by omega), Int.add_emod_right, Int.emod_eq_of_lt h1 h2]
def addRR (n : Int) (p : Int) (xs ys : List Int) : List Int := addR p xs ys n.toNat
theorem implAdd_yes (n : Int) (t : List Int) (p : Int) (xs : List Int) (k : Nat) (ys : List Int) (m : Nat) (ht : Bytes 100 t) (hx : xs.length = k) (hk : k ≤ 2 ^ 20) (hy : ys.length = m) (hm : m ≤ 2 ^ 20) (h : decide (rcd2 n t p xs k ys m = 0) = true) :
    ACalls Try.prog 21 [.agg (sqS n t), .i .i64 p, .ref (.sl 0 0 0 0 k 1), .ref (.sl 0 1 0 0 m 1)] [.lv true [(0, .ints .i64 k xs)], .lv true [(0, .ints .i64 m ys)]] (fun v ms ns => v = .tup [.ref (.sl 1 0 0 0 (addRR n p xs ys).length 1), .i .i64 0] ∧ ms = [.lv true [(0, .ints .i64 k xs)], .lv true [(0, .ints .i64 m ys)]] ∧ ns = [.lv true [(0, .ints .i64 (addRR n p xs ys).length (addRR n p xs ys))]]) := by
  have h1 := of_decide_eq_true h
  obtain ⟨hl, hp, hS, hT⟩ := rcd2_zero h1
  have hs : SqP n t := by simp only [loopB, Bool.and_eq_true] at hl; exact sqB_iff.1 hl.1
  obtain ⟨N, rfl⟩ : ∃ N : Nat, n = N := ⟨n.toNat, by have := hs.1; omega⟩
  have hN := hs.le
  have hp2 := hp.le
  have p0 : ¬ p = 0 := by omega
  have hR := RngP.of hp hS hx
  have hR2 := RngP.of hp hT hy
  obtain rfl : k = N := by have := hS.2; simpa using this
  obtain rfl : k = m := by have := hT.2; simp at this; exact this.symm
  have tN : (k : Int).toNat = k := by omega
  unfold addRR
  rw [tN, addR_len]
  refine acalls_of_body mix Try.func21 rfl fok21 (Nat.le_of_ble_eq_true rfl) ?_
  unfold abody
  simp only [absE, absL, absF, reduceCtorEq, ↓reduceIte, Nat.reduceEqDiff, Nat.reduceAdd, Nat.reduceLT, Nat.reduceMul, Nat.reduceSub, Nat.reduceLeDiff, Int.reduceLT, Int.reduceLE, Int.reduceEq, Option.isSome_some, implies_true, false_implies, Prod.mk.injEq, ne_eq, not_false_eq_true, not_true_eq_false, ge_iff_le, gt_iff_lt, Int.toNat_natCast, Int.reduceToNat, Int.cast_ofNat_Int, Int.natCast_nonneg, Try.f21]
  refine CallsVia.args [(8, 0), (0, 0), (0, 1)] (ringCode2_ok k t p xs k ys k ht hx hk hy hm) (by simp) (by simp [Mem.get, assoc]) rfl rfl ?_
  rintro _ _ _ ⟨rfl, rfl, rfl⟩
  simp only [absE, absL, absF, reduceCtorEq, ↓reduceIte, Nat.reduceEqDiff, Nat.reduceAdd, Nat.reduceLT, Nat.reduceMul, Nat.reduceSub, Nat.reduceLeDiff, Int.reduceLT, Int.reduceLE, Int.reduceEq, Option.isSome_some, implies_true, false_implies, Prod.mk.injEq, ne_eq, not_false_eq_true, not_true_eq_false, ge_iff_le, gt_iff_lt, Int.toNat_natCast, Int.reduceToNat, Int.cast_ofNat_Int, Int.natCast_nonneg, h1]
  refine awpLoop.intro (fun i : Nat => [(1, .i .i64 p), (3, .ref (.sl 0 1 0 0 k 1)), (11, .ref (.sl 13 0 0 0 i 1)), (24, .ref (.sl 0 0 0 0 k 1)), (25, .i .i64 k), (26, .i .i64 i)]) (fun i => ⟨[.lv true [(0, .ints .i64 k xs)], .lv true [(0, .ints .i64 k ys)]], [((13, 0), .lv true ([(0, .ints .i64 i (addR p xs ys i))]))], 18⟩)
    (fun i => i ≤ k) (fun i => k - i) 0 (by omega) ⟨[((13,0),(13,0))], rfl, ?_, ?_⟩ ?_
  · simp [wkEnv, lk, renV, renAt, renTo, addR]
  · simp [wkMem, wkLoc, Mem.get, assoc, renBlk, renSegs, renSg, renTo, addR]
  · intro i hi
    by_cases h' : (i : Int) < k
    · have w := wrap_i64s (show i < 2 ^ 62 by omega)
      have v1 : 0 + i * 1 < k := by omega
      have e0 : xs.getD (0 + i * 1) 0 = xs.getD i 0 := by rw [Nat.zero_add, Nat.mul_one]
      have e1 : ys.getD (0 + i * 1) 0 = ys.getD i 0 := by rw [Nat.zero_add, Nat.mul_one]
      have r1 := hR i
      have r2 := hR2 i
      have wa : IntKind.i64.wrap (xs.getD i 0 + ys.getD i 0) = xs.getD i 0 + ys.getD i 0 := wrap_i64 (by omega) (by omega)
      have mx : i * 1 = i := Nat.mul_one i
      have e2 : xs.getD (0 + i) 0 = xs.getD i 0 := by rw [Nat.zero_add]
      have e3 : ys.getD (0 + i) 0 = ys.getD i 0 := by rw [Nat.zero_add]
      simp only [absE, absL, absF, reduceCtorEq, ↓reduceIte, Nat.reduceEqDiff, Nat.reduceAdd, Nat.reduceLT, Nat.reduceMul, Nat.reduceSub, Nat.reduceLeDiff, Int.reduceLT, Int.reduceLE, Int.reduceEq, Option.isSome_some, implies_true, false_implies, Prod.mk.injEq, ne_eq, not_false_eq_true, not_true_eq_false, ge_iff_le, gt_iff_lt, Int.toNat_natCast, Int.reduceToNat, Int.cast_ofNat_Int, Int.natCast_nonneg, h', v1, e0, e1, e2, e3, wa, p0, mx]
      repeat refine And.intro (by omega) ?_
      refine LoopNext.intro (i + 1) (by omega) (by omega) ⟨[((34,0),(13,0))], rfl, ?_, ?_⟩
      · simp [wkEnv, lk, renV, renAt, renTo, w, addR]
      · simp [wkMem, wkLoc, Mem.get, assoc, renBlk, renSegs, renSg, renTo, w, addR]
    · obtain rfl : i = k := by omega
      simp only [absE, absL, absF, reduceCtorEq, ↓reduceIte, Nat.reduceEqDiff, Nat.reduceAdd, Nat.reduceLT, Nat.reduceMul, Nat.reduceSub, Nat.reduceLeDiff, Int.reduceLT, Int.reduceLE, Int.reduceEq, Option.isSome_some, implies_true, false_implies, Prod.mk.injEq, ne_eq, not_false_eq_true, not_true_eq_false, ge_iff_le, gt_iff_lt, Int.toNat_natCast, Int.reduceToNat, Int.cast_ofNat_Int, Int.natCast_nonneg, h', Try.results21]
      exact ⟨[(13, 0)], by simp, by simp, by simp [renV, renVs, renAt, renFin, idx], by simp [renBlk, renSegs, renSg], by simp [renBlk, renSegs, renSg, Mem.get, assoc]⟩
theorem l10Add_ok (N : Nat) (p : Int) (a b : List Int) (hN : N ≤ 10) (hp : PrP p) (ha : RngP p a) (hb : RngP p b) (la : a.length = N) (lb : b.length = N) :
    ACalls Try.prog 52 [.i .i64 p, .ref (.sl 0 0 0 0 N 1), .ref (.sl 0 1 0 0 N 1), .i .i64 1] [.lv true [(0, .ints .i64 N a)], .lv true [(0, .ints .i64 N b)]]
      (fun v ms ns => v = .ref (.sl 1 0 0 0 N 1) ∧ ms = [.lv true [(0, .ints .i64 N a)], .lv true [(0, .ints .i64 N b)]] ∧ ns = [.lv true [(0, .ints .i64 N (addR p a b N))]]) := by
  have hp2 := hp.le
  have p0 : ¬ p = 0 := by omega
  refine acalls_of_body mix Try.func52 rfl fok52 (Nat.le_of_ble_eq_true rfl) ?_
  unfold abody
  simp only [absE, absL, absF, reduceCtorEq, ↓reduceIte, Nat.reduceEqDiff, Nat.reduceAdd, Nat.reduceLT, Nat.reduceMul, Nat.reduceSub, Nat.reduceLeDiff, Int.reduceLT, Int.reduceLE, Int.reduceEq, Option.isSome_some, implies_true, false_implies, Prod.mk.injEq, ne_eq, not_false_eq_true, not_true_eq_false, ge_iff_le, gt_iff_lt, Int.toNat_natCast, Int.reduceToNat, Int.cast_ofNat_Int, Int.natCast_nonneg, Try.f52]
  refine awpLoop.intro (fun i : Nat => [(0, .i .i64 p), (1, .ref (.sl 0 0 0 0 N 1)), (2, .ref (.sl 0 1 0 0 N 1)), (3, .i .i64 1), (9, .ref (.sl 2 0 0 0 i 1)), (10, .i .i64 i)]) (fun i => ⟨[.lv true [(0, .ints .i64 N a)], .lv true [(0, .ints .i64 N b)]], [((2, 0), .lv true ([(0, .ints .i64 i (addR p a b i))]))], 5⟩)
    (fun i => i ≤ N) (fun i => N - i) 0 (by omega) ⟨[((2,0),(2,0))], rfl, ?_, ?_⟩ ?_
  · simp [wkEnv, lk, renV, renAt, renTo, addR]
  · simp [wkMem, wkLoc, Mem.get, assoc, renBlk, renSegs, renSg, renTo, addR]
  · intro i hi
    by_cases h' : (i : Int) < N
    · have w := wrap_i64s (show i < 2 ^ 62 by omega)
      have v1 : 0 + i * 1 < N := by omega
      have e0 : a.getD (0 + i * 1) 0 = a.getD i 0 := by rw [Nat.zero_add, Nat.mul_one]
      have e1 : b.getD (0 + i * 1) 0 = b.getD i 0 := by rw [Nat.zero_add, Nat.mul_one]
      have r1 := ha i
      have r2 := hb i
      have wm : IntKind.i64.wrap (1 * b.getD i 0) = b.getD i 0 := by rw [Int.one_mul]; exact wrap_i64 (by omega) (by omega)
      have wa : IntKind.i64.wrap (a.getD i 0 + b.getD i 0) = a.getD i 0 + b.getD i 0 := wrap_i64 (by omega) (by omega)
      have q1 := Int.tmod_nonneg p (show 0 ≤ a.getD i 0 + b.getD i 0 by omega)
      have q2 := Int.tmod_lt_of_pos (a.getD i 0 + b.getD i 0) (show 0 < p by omega)
      have wb : IntKind.i64.wrap ((a.getD i 0 + b.getD i 0).tmod p + p) = (a.getD i 0 + b.getD i 0).tmod p + p := wrap_i64 (by omega) (by omega)
      have wt := tmod_twice (p := p) (s := a.getD i 0 + b.getD i 0) (by omega) (by omega)
      have mx : i * 1 = i := Nat.mul_one i
      have e2 : a.getD (0 + i) 0 = a.getD i 0 := by rw [Nat.zero_add]
      have e3 : b.getD (0 + i) 0 = b.getD i 0 := by rw [Nat.zero_add]
      simp only [absE, absL, absF, reduceCtorEq, ↓reduceIte, Nat.reduceEqDiff, Nat.reduceAdd, Nat.reduceLT, Nat.reduceMul, Nat.reduceSub, Nat.reduceLeDiff, Int.reduceLT, Int.reduceLE, Int.reduceEq, Option.isSome_some, implies_true, false_implies, Prod.mk.injEq, ne_eq, not_false_eq_true, not_true_eq_false, ge_iff_le, gt_iff_lt, Int.toNat_natCast, Int.reduceToNat, Int.cast_ofNat_Int, Int.natCast_nonneg, h', v1, e0, e1, e2, e3, wm, wa, wb, wt, p0, mx]
      repeat refine And.intro (by first | omega | decide +kernel) ?_
      refine LoopNext.intro (i + 1) (by omega) (by omega) ⟨[((28,0),(2,0))], rfl, ?_, ?_⟩
      · simp [wkEnv, lk, renV, renAt, renTo, w, addR]
      · simp [wkMem, wkLoc, Mem.get, assoc, renBlk, renSegs, renSg, renTo, w, addR]
    · obtain rfl : i = N := by omega
      simp only [absE, absL, absF, reduceCtorEq, ↓reduceIte, Nat.reduceEqDiff, Nat.reduceAdd, Nat.reduceLT, Nat.reduceMul, Nat.reduceSub, Nat.reduceLeDiff, Int.reduceLT, Int.reduceLE, Int.reduceEq, Option.isSome_some, implies_true, false_implies, Prod.mk.injEq, ne_eq, not_false_eq_true, not_true_eq_false, ge_iff_le, gt_iff_lt, Int.toNat_natCast, Int.reduceToNat, Int.cast_ofNat_Int, Int.natCast_nonneg, h', Try.results52]
      exact ⟨[(2, 0)], by simp, by simp, by simp [renV, renVs, renAt, renFin, idx], by simp [renBlk, renSegs, renSg], by simp [renBlk, renSegs, renSg, Mem.get, assoc]⟩
theorem specAdd_yes (n : Int) (t : List Int) (p : Int) (xs : List Int) (k : Nat) (ys : List Int) (m : Nat) (ht : Bytes 100 t) (hx : xs.length = k) (hk : k ≤ 2 ^ 20) (hy : ys.length = m) (hm : m ≤ 2 ^ 20) (h : decide (rcd2 n t p xs k ys m = 0) = true) :
    ACalls Try.prog 20 [.agg (sqS n t), .i .i64 p, .ref (.sl 0 0 0 0 k 1), .ref (.sl 0 1 0 0 m 1)] [.lv true [(0, .ints .i64 k xs)], .lv true [(0, .ints .i64 m ys)]] (fun v ms ns => v = .tup [.ref (.sl 1 0 0 0 (addRR n p xs ys).length 1), .i .i64 0] ∧ ms = [.lv true [(0, .ints .i64 k xs)], .lv true [(0, .ints .i64 m ys)]] ∧ ns = [.lv true [(0, .ints .i64 (addRR n p xs ys).length (addRR n p xs ys))]]) := by
  have h1 := of_decide_eq_true h
  obtain ⟨hl, hp, hS, hT⟩ := rcd2_zero h1
  have hs : SqP n t := by simp only [loopB, Bool.and_eq_true] at hl; exact sqB_iff.1 hl.1
  obtain ⟨N, rfl⟩ : ∃ N : Nat, n = N := ⟨n.toNat, by have := hs.1; omega⟩
  have hN := hs.le
  have hR := RngP.of hp hS hx
  have hR2 := RngP.of hp hT hy
  obtain rfl : k = N := by have := hS.2; simpa using this
  obtain rfl : k = m := by have := hT.2; simp at this; exact this.symm
  have tN : (k : Int).toNat = k := by omega
  unfold addRR
  rw [tN, addR_len]
  refine acalls_of_body mix Try.func20 rfl fok20 (Nat.le_of_ble_eq_true rfl) ?_
  unfold abody
  simp only [absE, absL, absF, reduceCtorEq, ↓reduceIte, Nat.reduceEqDiff, Nat.reduceAdd, Nat.reduceLT, Nat.reduceMul, Nat.reduceSub, Nat.reduceLeDiff, Int.reduceLT, Int.reduceLE, Int.reduceEq, Option.isSome_some, implies_true, false_implies, Prod.mk.injEq, ne_eq, not_false_eq_true, not_true_eq_false, ge_iff_le, gt_iff_lt, Int.toNat_natCast, Int.reduceToNat, Int.cast_ofNat_Int, Int.natCast_nonneg, Try.f20]
  refine CallsVia.args [(8, 0), (0, 0), (0, 1)] (l10Code2_ok k t p xs k ys k ht hx hk hy hm) (by simp) (by simp [Mem.get, assoc]) rfl rfl ?_
  rintro _ _ _ ⟨rfl, rfl, rfl⟩
  simp only [absE, absL, absF, reduceCtorEq, ↓reduceIte, Nat.reduceEqDiff, Nat.reduceAdd, Nat.reduceLT, Nat.reduceMul, Nat.reduceSub, Nat.reduceLeDiff, Int.reduceLT, Int.reduceLE, Int.reduceEq, Option.isSome_some, implies_true, false_implies, Prod.mk.injEq, ne_eq, not_false_eq_true, not_true_eq_false, ge_iff_le, gt_iff_lt, Int.toNat_natCast, Int.reduceToNat, Int.cast_ofNat_Int, Int.natCast_nonneg, h1]
  refine CallsVia.args [(0, 0), (0, 1)] (l10Add_ok k p xs ys hN hp hR hR2 hx hy) (by simp) (by simp [Mem.get, assoc]) rfl rfl ?_
  rintro _ _ _ ⟨rfl, rfl, rfl⟩
  simp only [absE, absL, absF, reduceCtorEq, ↓reduceIte, Nat.reduceEqDiff, Nat.reduceAdd, Nat.reduceLT, Nat.reduceMul, Nat.reduceSub, Nat.reduceLeDiff, Int.reduceLT, Int.reduceLE, Int.reduceEq, Option.isSome_some, implies_true, false_implies, Prod.mk.injEq, ne_eq, not_false_eq_true, not_true_eq_false, ge_iff_le, gt_iff_lt, Int.toNat_natCast, Int.reduceToNat, Int.cast_ofNat_Int, Int.natCast_nonneg, Try.results20]
  exact ⟨[(16, 0)], by simp, by simp, by simp [renV, renVs, renAt, renFin, idx], by simp [renBlk, renSegs, renSg], by simp [renBlk, renSegs, renSg, Mem.get, assoc]⟩
theorem implAdd_no (n : Int) (t : List Int) (p : Int) (xs : List Int) (k : Nat) (ys : List Int) (m : Nat) (ht : Bytes 100 t) (hx : xs.length = k) (hk : k ≤ 2 ^ 20) (hy : ys.length = m) (hm : m ≤ 2 ^ 20) (h : decide (rcd2 n t p xs k ys m = 0) = false) :
    ACalls Try.prog 21 [.agg (sqS n t), .i .i64 p, .ref (.sl 0 0 0 0 k 1), .ref (.sl 0 1 0 0 m 1)] [.lv true [(0, .ints .i64 k xs)], .lv true [(0, .ints .i64 m ys)]] (fun v ms ns => v = .tup [.ref .nils, .i .i64 (rcd2 n t p xs k ys m)] ∧ ms = [.lv true [(0, .ints .i64 k xs)], .lv true [(0, .ints .i64 m ys)]] ∧ ns = []) := by
  have h := of_decide_eq_false h
  refine acalls_of_body mix Try.func21 rfl fok21 (Nat.le_of_ble_eq_true rfl) ?_
  unfold abody
  simp only [absE, absL, absF, reduceCtorEq, ↓reduceIte, Nat.reduceEqDiff, Nat.reduceAdd, Nat.reduceLT, Nat.reduceMul, Nat.reduceSub, Nat.reduceLeDiff, Int.reduceLT, Int.reduceLE, Int.reduceEq, Option.isSome_some, implies_true, false_implies, Prod.mk.injEq, ne_eq, not_false_eq_true, not_true_eq_false, ge_iff_le, gt_iff_lt, Int.toNat_natCast, Int.reduceToNat, Int.cast_ofNat_Int, Int.natCast_nonneg, Try.f21]
  refine CallsVia.args [(8, 0), (0, 0), (0, 1)] (ringCode2_ok n t p xs k ys m ht hx hk hy hm) (by simp) (by simp [Mem.get, assoc]) rfl rfl ?_
  rintro _ _ _ ⟨rfl, rfl, rfl⟩
  simp only [absE, absL, absF, reduceCtorEq, ↓reduceIte, Nat.reduceEqDiff, Nat.reduceAdd, Nat.reduceLT, Nat.reduceMul, Nat.reduceSub, Nat.reduceLeDiff, Int.reduceLT, Int.reduceLE, Int.reduceEq, Option.isSome_some, implies_true, false_implies, Prod.mk.injEq, ne_eq, not_false_eq_true, not_true_eq_false, ge_iff_le, gt_iff_lt, Int.toNat_natCast, Int.reduceToNat, Int.cast_ofNat_Int, Int.natCast_nonneg, h, Try.results21]
  exact ⟨[], by simp, by simp, by simp [renV, renVs, renAt, renBlk, renSegs, renSg]⟩
theorem specAdd_no (n : Int) (t : List Int) (p : Int) (xs : List Int) (k : Nat) (ys : List Int) (m : Nat) (ht : Bytes 100 t) (hx : xs.length = k) (hk : k ≤ 2 ^ 20) (hy : ys.length = m) (hm : m ≤ 2 ^ 20) (h : decide (rcd2 n t p xs k ys m = 0) = false) :
    ACalls Try.prog 20 [.agg (sqS n t), .i .i64 p, .ref (.sl 0 0 0 0 k 1), .ref (.sl 0 1 0 0 m 1)] [.lv true [(0, .ints .i64 k xs)], .lv true [(0, .ints .i64 m ys)]] (fun v ms ns => v = .tup [.ref .nils, .i .i64 (rcd2 n t p xs k ys m)] ∧ ms = [.lv true [(0, .ints .i64 k xs)], .lv true [(0, .ints .i64 m ys)]] ∧ ns = []) := by
  have h := of_decide_eq_false h
  refine acalls_of_body mix Try.func20 rfl fok20 (Nat.le_of_ble_eq_true rfl) ?_
  unfold abody
  simp only [absE, absL, absF, reduceCtorEq, ↓reduceIte, Nat.reduceEqDiff, Nat.reduceAdd, Nat.reduceLT, Nat.reduceMul, Nat.reduceSub, Nat.reduceLeDiff, Int.reduceLT, Int.reduceLE, Int.reduceEq, Option.isSome_some, implies_true, false_implies, Prod.mk.injEq, ne_eq, not_false_eq_true, not_true_eq_false, ge_iff_le, gt_iff_lt, Int.toNat_natCast, Int.reduceToNat, Int.cast_ofNat_Int, Int.natCast_nonneg, Try.f20]
  refine CallsVia.args [(8, 0), (0, 0), (0, 1)] (l10Code2_ok n t p xs k ys m ht hx hk hy hm) (by simp) (by simp [Mem.get, assoc]) rfl rfl ?_
  rintro _ _ _ ⟨rfl, rfl, rfl⟩
  simp only [absE, absL, absF, reduceCtorEq, ↓reduceIte, Nat.reduceEqDiff, Nat.reduceAdd, Nat.reduceLT, Nat.reduceMul, Nat.reduceSub, Nat.reduceLeDiff, Int.reduceLT, Int.reduceLE, Int.reduceEq, Option.isSome_some, implies_true, false_implies, Prod.mk.injEq, ne_eq, not_false_eq_true, not_true_eq_false, ge_iff_le, gt_iff_lt, Int.toNat_natCast, Int.reduceToNat, Int.cast_ofNat_Int, Int.natCast_nonneg, h, Try.results20]
  exact ⟨[], by simp, by simp, by simp [renV, renVs, renAt, renBlk, renSegs, renSg]⟩
theorem addRR_len {n : Int} {t : List Int} {p : Int} {xs ys : List Int} {k m : Nat} (h : decide (rcd2 n t p xs k ys m = 0) = true) : (addRR n p xs ys).length < 2 ^ 40 := by
  have h1 := (rcd2_zero (of_decide_eq_true h)).1
  have := loopB_le h1
  unfold addRR; rw [addR_len]; omega

end Go.Proofs.Ytnophcdinideaaa
