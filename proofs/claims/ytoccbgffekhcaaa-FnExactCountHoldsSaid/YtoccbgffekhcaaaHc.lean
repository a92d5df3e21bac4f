/-
Contracts of functions of the given program, by the abstract walk.
-/
import Derived.Test.YtoccbgffekhcaaaAbsY
import Derived.Test.YtoccbgffekhcaaaHb
import Derived.Test.YtoccbgffekhcaaaFb
import Derived.Test.YtoccbgffekhcaaaGa
namespace Go.Proofs.Ytoccbgffekhcaaa
open Go Go.Abs
set_option linter.unusedVariables false
set_option linter.unusedSectionVars false
set_option linter.unusedSimpArgs false
set_option maxRecDepth 100000
/-! lists of elements as sets; the subloop that they generate -/
def el (xs : List Int) (i : Nat) : Nat := (xs.getD i 0).toNat
def inL (xs : List Int) (k z : Nat) : Prop := ∃ i, i < k ∧ el xs i = z
theorem inL_step {xs : List Int} {i z : Nat} : inL xs (i + 1) z ↔ inL xs i z ∨ el xs i = z := by
  constructor
  · rintro ⟨j, h1, h2⟩
    by_cases e : j = i
    · subst e; exact .inr h2
    · exact .inl ⟨j, by omega, h2⟩
  · rintro (⟨j, h1, h2⟩ | h)
    · exact ⟨j, by omega, h2⟩
    · exact ⟨i, by omega, h⟩
def setN (xs : List Int) : Nat → Nat
  | 0 => 0
  | i + 1 => setN xs i ||| 2 ^ el xs i
theorem setN_bit {xs : List Int} {z : Nat} : ∀ {i}, (setN xs i).testBit z = true ↔ inL xs i z
  | 0 => by simp [setN, inL]
  | i + 1 => by rw [inL_step, ← setN_bit (i := i), setN]; simp only [Nat.testBit_or, Bool.or_eq_true, Nat.testBit_two_pow, decide_eq_true_iff]
theorem setN_lt {xs : List Int} {N : Nat} : ∀ {i}, (∀ j, j < i → el xs j < N) → setN xs i < 2 ^ N
  | 0, _ => by simp [setN, Nat.two_pow_pos]
  | i + 1, h => by rw [setN]; exact Nat.or_lt_two_pow (setN_lt fun j hj => h j (by omega)) (Nat.pow_lt_pow_right (by decide) (h i (by omega)))
def mkB (xs : List Int) : Nat → List Bool
  | 0 => List.replicate 10 false
  | i + 1 => (mkB xs i).set (el xs i) true
theorem mkB_len {xs : List Int} : ∀ {i}, (mkB xs i).length = 10
  | 0 => by simp [mkB]
  | i + 1 => by simp [mkB, mkB_len]
theorem mkB_get {xs : List Int} {z : Nat} : ∀ {i}, (∀ j, j < i → el xs j < 10) → ((mkB xs i).getD z false = true ↔ inL xs i z)
  | 0, _ => by
    have : (mkB xs 0).getD z false = false := by
      rw [mkB, List.getD_eq_getElem?_getD, List.getElem?_replicate]; split <;> rfl
    rw [this]; simp [inL]
  | i + 1, h => by
    rw [inL_step, ← mkB_get (i := i) fun j hj => h j (by omega), mkB, getD_setb (by rw [mkB_len]; exact h i (by omega))]
    by_cases e : el xs i = z
    · simp [e]
    · simp [e]
theorem ListP.el_eq {N : Nat} {xs : List Int} {k i : Nat} (h : ListP N xs 0 k) (hi : i < k) : xs.getD (0 + i * 1) 0 = ((el xs i : Nat) : Int) ∧ el xs i < N := by
  have h1 := (h i hi).1
  unfold el
  rw [Nat.zero_add, Nat.mul_one] at h1 ⊢
  omega
theorem setOf_ok (N : Nat) (xs : List Int) (k : Nat) (hN : N ≤ 10) (hk : k ≤ 2 ^ 20) (h : ListP N xs 0 k) :
    ACalls Try.prog 61 [.ref (.sl 0 0 0 0 k 1)] [.lv true [(0, .ints .i64 k xs)]] (fun v ms ns => v = .i .i64 (setN xs k) ∧ ms = [.lv true [(0, .ints .i64 k xs)]] ∧ ns = []) := by
  have hN2 : (2 : Nat) ^ N ≤ 2 ^ 10 := Nat.pow_le_pow_right (by decide) hN
  refine acalls_of_body mix Try.func61 rfl fok61 (Nat.le_of_ble_eq_true rfl) ?_
  unfold abody
  simp only [absE, absL, absF, reduceCtorEq, ↓reduceIte, Nat.reduceEqDiff, Nat.reduceAdd, Nat.reduceLT, Nat.reduceMul, Nat.reduceSub, Nat.reduceLeDiff, Int.reduceLT, Int.reduceLE, Int.reduceEq, Option.isSome_some, implies_true, false_implies, Prod.mk.injEq, ne_eq, not_false_eq_true, not_true_eq_false, ge_iff_le, gt_iff_lt, Int.toNat_natCast, Int.reduceToNat, Int.cast_ofNat_Int, Int.natCast_nonneg, Try.f61]
  refine awpLoop.intro (fun i : Nat => [(0, .ref (.sl 0 0 0 0 k 1)), (3, .i .i64 (setN xs i : Nat)), (6, .ref (.sl 0 0 0 0 k 1)), (7, .i .i64 k), (8, .i .i64 i)]) (fun i => ⟨[.lv true [(0, .ints .i64 k xs)]], [], 6⟩) (fun i => i ≤ k) (fun i => k - i) 0 (by omega) ⟨[], rfl, ?_, ?_⟩ ?_
  · simp [wkEnv, lk, renV, renAt, renTo, setN]
  · simp [wkMem, wkLoc, Mem.get, assoc, renBlk, renSegs, renSg, renTo, setN]
  · intro i hi
    by_cases h' : (i : Int) < k
    · have w := wrap_i64s (show i < 2 ^ 62 by omega)
      have v1 : 0 + i * 1 < k := by omega
      obtain ⟨e0, l0⟩ := h.el_eq (show i < k by omega)
      have hl1 := setN_lt (xs := xs) (N := N) (i := i) fun j hj => (h.el_eq (show j < k by omega)).2
      have hl2 : (2 : Nat) ^ el xs i ≤ 2 ^ 10 := Nat.pow_le_pow_right (by decide) (by omega)
      have s1 := wrap_shl (c := el xs i) (by omega)
      have o1 := wrap_or (a := setN xs i) (b := 2 ^ el xs i) (by omega) (by omega)
      simp only [absE, absL, absF, reduceCtorEq, ↓reduceIte, Nat.reduceEqDiff, Nat.reduceAdd, Nat.reduceLT, Nat.reduceMul, Nat.reduceSub, Nat.reduceLeDiff, Int.reduceLT, Int.reduceLE, Int.reduceEq, Option.isSome_some, implies_true, false_implies, Prod.mk.injEq, ne_eq, not_false_eq_true, not_true_eq_false, ge_iff_le, gt_iff_lt, Int.toNat_natCast, Int.reduceToNat, Int.cast_ofNat_Int, Int.natCast_nonneg, h', v1, e0, s1, o1]
      refine LoopNext.intro (i + 1) (by omega) (by omega) ⟨[], rfl, ?_, ?_⟩
      · simp [wkEnv, lk, renV, renAt, renTo, w, setN]
      · simp [wkMem, wkLoc, Mem.get, assoc, renBlk, renSegs, renSg, renTo, w, setN]
    · obtain rfl : i = k := by omega
      simp only [absE, absL, absF, reduceCtorEq, ↓reduceIte, Nat.reduceEqDiff, Nat.reduceAdd, Nat.reduceLT, Nat.reduceMul, Nat.reduceSub, Nat.reduceLeDiff, Int.reduceLT, Int.reduceLE, Int.reduceEq, Option.isSome_some, implies_true, false_implies, Prod.mk.injEq, ne_eq, not_false_eq_true, not_true_eq_false, ge_iff_le, gt_iff_lt, Int.toNat_natCast, Int.reduceToNat, Int.cast_ofNat_Int, Int.natCast_nonneg, h', Try.results61]
      exact ⟨[], by simp, by simp, by simp [renV, renVs, renSegs, renSg, renBlk]⟩
noncomputable def lcd1 (n : Int) (t : List Int) (xs : List Int) (k : Nat) : Int := if loopB n t then (if listB n.toNat xs 0 k then 0 else 2) else 1
theorem listCode_ok (n : Int) (t : List Int) (xs : List Int) (k : Nat) (ht : Bytes 100 t) (hx : xs.length = k) (hk : k ≤ 2 ^ 20) :
    ACalls Try.prog 59 [.agg (sqS n t), .ref (.sl 0 0 0 0 k 1)] [.lv true [(0, .ints .i64 k xs)]] (fun v ms ns => v = .i .i64 (lcd1 n t xs k) ∧ ms = [.lv true [(0, .ints .i64 k xs)]] ∧ ns = []) := by
  refine acalls_of_body mix Try.func59 rfl fok59 (Nat.le_of_ble_eq_true rfl) ?_
  unfold abody
  simp only [absE, absL, absF, reduceCtorEq, ↓reduceIte, Nat.reduceEqDiff, Nat.reduceAdd, Nat.reduceLT, Nat.reduceMul, Nat.reduceSub, Nat.reduceLeDiff, Int.reduceLT, Int.reduceLE, Int.reduceEq, Option.isSome_some, implies_true, false_implies, Prod.mk.injEq, ne_eq, not_false_eq_true, not_true_eq_false, ge_iff_le, gt_iff_lt, Int.toNat_natCast, Int.reduceToNat, Int.cast_ofNat_Int, Int.natCast_nonneg, Try.f59]
  refine CallsVia.none (isLoop_ok n t ht) ?_
  rintro _ _ _ ⟨rfl, rfl, rfl⟩
  cases h1 : loopB n t
  · simp only [absE, absL, absF, reduceCtorEq, ↓reduceIte, Nat.reduceEqDiff, Nat.reduceAdd, Nat.reduceLT, Nat.reduceMul, Nat.reduceSub, Nat.reduceLeDiff, Int.reduceLT, Int.reduceLE, Int.reduceEq, Option.isSome_some, implies_true, false_implies, Prod.mk.injEq, ne_eq, not_false_eq_true, not_true_eq_false, ge_iff_le, gt_iff_lt, Int.toNat_natCast, Int.reduceToNat, Int.cast_ofNat_Int, Int.natCast_nonneg, Try.results59]
    exact ⟨[], by simp, by simp, by simp [renV, renBlk, renSegs, renSg, lcd1, h1]⟩
  · have hs : SqP n t := by simp only [loopB, Bool.and_eq_true] at h1; exact sqB_iff.1 h1.1
    obtain ⟨N, rfl⟩ : ∃ N : Nat, n = N := ⟨n.toNat, by have := hs.1; omega⟩
    have hN := hs.le
    simp only [absE, absL, absF, reduceCtorEq, ↓reduceIte, Nat.reduceEqDiff, Nat.reduceAdd, Nat.reduceLT, Nat.reduceMul, Nat.reduceSub, Nat.reduceLeDiff, Int.reduceLT, Int.reduceLE, Int.reduceEq, Option.isSome_some, implies_true, false_implies, Prod.mk.injEq, ne_eq, not_false_eq_true, not_true_eq_false, ge_iff_le, gt_iff_lt, Int.toNat_natCast, Int.reduceToNat, Int.cast_ofNat_Int, Int.natCast_nonneg]
    refine CallsVia.args [(0, 0)] (isList_ok N t xs k 0 k hN hx hk (by omega)) (by simp) (by simp [Mem.get]) rfl rfl ?_
    rintro _ _ _ ⟨rfl, rfl, rfl⟩
    cases h2 : listB N xs 0 k
    · simp only [absE, absL, absF, reduceCtorEq, ↓reduceIte, Nat.reduceEqDiff, Nat.reduceAdd, Nat.reduceLT, Nat.reduceMul, Nat.reduceSub, Nat.reduceLeDiff, Int.reduceLT, Int.reduceLE, Int.reduceEq, Option.isSome_some, implies_true, false_implies, Prod.mk.injEq, ne_eq, not_false_eq_true, not_true_eq_false, ge_iff_le, gt_iff_lt, Int.toNat_natCast, Int.reduceToNat, Int.cast_ofNat_Int, Int.natCast_nonneg, Try.results59]
      exact ⟨[], by simp, by simp, by simp [renV, renBlk, renSegs, renSg, lcd1, h1, h2]⟩
    · simp only [absE, absL, absF, reduceCtorEq, ↓reduceIte, Nat.reduceEqDiff, Nat.reduceAdd, Nat.reduceLT, Nat.reduceMul, Nat.reduceSub, Nat.reduceLeDiff, Int.reduceLT, Int.reduceLE, Int.reduceEq, Option.isSome_some, implies_true, false_implies, Prod.mk.injEq, ne_eq, not_false_eq_true, not_true_eq_false, ge_iff_le, gt_iff_lt, Int.toNat_natCast, Int.reduceToNat, Int.cast_ofNat_Int, Int.natCast_nonneg, Try.results59]
      exact ⟨[], by simp, by simp, by simp [renV, renBlk, renSegs, renSg, lcd1, h1, h2]⟩
end Go.Proofs.Ytoccbgffekhcaaa
