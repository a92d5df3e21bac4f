/-
Contracts of functions of the given program, by the abstract walk.
-/
import Derived.Test.YtcaadjjgggjefaaAbsY
import Derived.Test.YtcaadjjgggjefaaHb
import Derived.Test.YtcaadjjgggjefaaFb
import Derived.Test.YtcaadjjgggjefaaGa
namespace Go.Proofs.Ytcaadjjgggjefaa
open Go Go.Abs
set_option linter.unusedVariables false
set_option linter.unusedSectionVars false
set_option linter.unusedSimpArgs false
set_option maxRecDepth 100000
/-! lists of elements as sets; the subloop that they generate -/
def el (xs : List Int) (i : Nat) : Nat := (xs.getD i 0).toNat
def inL (xs : List Int) (k z : Nat) : Prop := ∃ i, i < k ∧ el xs i = z
theorem inL_step {xs : List Int} {i z : Nat} : inL xs (i + 1) z ↔ inL xs i z ∨ el xs i = z := by
  constructor
  · rintro ⟨j, h1, h2⟩
    by_cases e : j = i
    · subst e; exact .inr h2
    · exact .inl ⟨j, by omega, h2⟩
  · rintro (⟨j, h1, h2⟩ | h)
    · exact ⟨j, by omega, h2⟩
    · exact ⟨i, by omega, h⟩
def setN (xs : List Int) : Nat → Nat
  | 0 => 0
  | i + 1 => setN xs i ||| 2 ^ el xs i
theorem setN_bit {xs : List Int} {z : Nat} : ∀ {i}, (setN xs i).testBit z = true ↔ inL xs i z
  | 0 => by simp [setN, inL]
  | i + 1 => by rw [inL_step, ← setN_bit (i := i), setN]; simp only [Nat.testBit_or, Bool.or_eq_true, Nat.testBit_two_pow, decide_eq_true_iff]
theorem setN_lt {xs : List Int} {N : Nat} : ∀ {i}, (∀ j, j < i → el xs j < N) → setN xs i < 2 ^ N
  | 0, _ => by simp [setN, Nat.two_pow_pos]
  | i + 1, h => by rw [setN]; exact Nat.or_lt_two_pow (setN_lt fun j hj => h j (by omega)) (Nat.pow_lt_pow_right (by decide) (h i (by omega)))
def mkB (xs : List Int) : Nat → List Bool
  | 0 => List.replicate 10 false
  | i + 1 => (mkB xs i).set (el xs i) true
theorem mkB_len {xs : List Int} : ∀ {i}, (mkB xs i).length = 10
  | 0 => by simp [mkB]
  | i + 1 => by simp [mkB, mkB_len]
theorem mkB_get {xs : List Int} {z : Nat} : ∀ {i}, (∀ j, j < i → el xs j < 10) → ((mkB xs i).getD z false = true ↔ inL xs i z)
  | 0, _ => by
    have : (mkB xs 0).getD z false = false := by
      rw [mkB, List.getD_eq_getElem?_getD, List.getElem?_replicate]; split <;> rfl
    rw [this]; simp [inL]
  | i + 1, h => by
    rw [inL_step, ← mkB_get (i := i) fun j hj => h j (by omega), mkB, getD_setb (by rw [mkB_len]; exact h i (by omega))]
    by_cases e : el xs i = z
    · simp [e]
    · simp [e]
theorem ListP.el_eq {N : Nat} {xs : List Int} {k i : Nat} (h : ListP N xs 0 k) (hi : i < k) : xs.getD (0 + i * 1) 0 = ((el xs i : Nat) : Int) ∧ el xs i < N := by
  have h1 := (h i hi).1
  unfold el
  rw [Nat.zero_add, Nat.mul_one] at h1 ⊢
  omega
theorem l05Set_ok (N : Nat) (xs : List Int) (k : Nat) (hN : N ≤ 10) (hk : k ≤ 2 ^ 20) (h : ListP N xs 0 k) :
    ACalls Try.prog 99 [.ref (.sl 0 0 0 0 k 1)] [.lv true [(0, .ints .i64 k xs)]] (fun v ms ns => v = .agg [(0, .bools 10 (mkB xs k))] ∧ ms = [.lv true [(0, .ints .i64 k xs)]] ∧ ns = []) := by
  refine acalls_of_body mix Try.func99 rfl fok99 (Nat.le_of_ble_eq_true rfl) ?_
  unfold abody
  simp only [absE, absL, absF, reduceCtorEq, ↓reduceIte, Nat.reduceEqDiff, Nat.reduceAdd, Nat.reduceLT, Nat.reduceMul, Nat.reduceSub, Nat.reduceLeDiff, Int.reduceLT, Int.reduceLE, Int.reduceEq, Option.isSome_some, implies_true, false_implies, Prod.mk.injEq, ne_eq, not_false_eq_true, not_true_eq_false, ge_iff_le, gt_iff_lt, Int.toNat_natCast, Int.reduceToNat, Int.cast_ofNat_Int, Int.natCast_nonneg, Try.f99]
  refine awpLoop.intro (fun i : Nat => [(0, .ref (.sl 0 0 0 0 k 1)), (2, .ref (.ptr 1 0 0 0)), (3, .ref (.ptr 3 0 0 0)), (4, .i .i64 i)]) (fun i => ⟨[.lv true [(0, .ints .i64 k xs)]], [((1, 0), .lv true ([(0, .bools 10 (List.replicate 10 false))])), ((3, 0), .lv true ([(0, .bools 10 (mkB xs i))]))], 6⟩) (fun i => i ≤ k) (fun i => k - i) 0 (by omega) ⟨[((1,0),(1,0)), ((3,0),(3,0))], rfl, ?_, ?_⟩ ?_
  · simp [wkEnv, lk, renV, renAt, renTo, mkB]
  · simp [wkMem, wkLoc, Mem.get, assoc, renBlk, renSegs, renSg, renTo, mkB]
  · intro i hi
    by_cases h' : (i : Int) < k
    · have w := wrap_i64s (show i < 2 ^ 62 by omega)
      have v1 : 0 + i * 1 < k := by omega
      obtain ⟨e0, l0⟩ := h.el_eq (show i < k by omega)
      have i1 : ((el xs i : Nat) : Int) < 10 := by omega
      have u1 : 0 + el xs i * 1 < 10 := by omega
      have u2 : 0 + el xs i * 1 ≤ 9 := by omega
      have es : (mkB xs i).set (0 + el xs i * 1) true = (mkB xs i).set (el xs i) true := by rw [Nat.zero_add, Nat.mul_one]
      simp only [absE, absL, absF, reduceCtorEq, ↓reduceIte, Nat.reduceEqDiff, Nat.reduceAdd, Nat.reduceLT, Nat.reduceMul, Nat.reduceSub, Nat.reduceLeDiff, Int.reduceLT, Int.reduceLE, Int.reduceEq, Option.isSome_some, implies_true, false_implies, Prod.mk.injEq, ne_eq, not_false_eq_true, not_true_eq_false, ge_iff_le, gt_iff_lt, Int.toNat_natCast, Int.reduceToNat, Int.cast_ofNat_Int, Int.natCast_nonneg, h', v1, e0, i1, u1, u2, es]
      refine LoopNext.intro (i + 1) (by omega) (by omega) ⟨[((1,0),(1,0)), ((3,0),(3,0))], rfl, ?_, ?_⟩
      · simp [wkEnv, lk, renV, renAt, renTo, w, mkB]
      · simp [wkMem, wkLoc, Mem.get, assoc, renBlk, renSegs, renSg, renTo, w, mkB]
    · obtain rfl : i = k := by omega
      simp only [absE, absL, absF, reduceCtorEq, ↓reduceIte, Nat.reduceEqDiff, Nat.reduceAdd, Nat.reduceLT, Nat.reduceMul, Nat.reduceSub, Nat.reduceLeDiff, Int.reduceLT, Int.reduceLE, Int.reduceEq, Option.isSome_some, implies_true, false_implies, Prod.mk.injEq, ne_eq, not_false_eq_true, not_true_eq_false, ge_iff_le, gt_iff_lt, Int.toNat_natCast, Int.reduceToNat, Int.cast_ofNat_Int, Int.natCast_nonneg, h', Try.results99]
      exact ⟨[], by simp, by simp, by simp [renV, renVs, renSegs, renSg, renBlk]⟩
theorem l05Told_ok (m : List Bool) (hm : m.length = 10) :
    ACalls Try.prog 100 [.agg [(0, .bools 10 m)]] [] (fun v ms ns => v = .ref (.sl 1 0 0 0 (memL (fun z => m.getD z false) 10).length 1) ∧ ms = [] ∧ ns = [.lv true [(0, .ints .i64 (memL (fun z => m.getD z false) 10).length (memL (fun z => m.getD z false) 10))]]) := by
  refine acalls_of_body mix Try.func100 rfl fok100 (Nat.le_of_ble_eq_true rfl) ?_
  unfold abody
  simp only [absE, absL, absF, reduceCtorEq, ↓reduceIte, Nat.reduceEqDiff, Nat.reduceAdd, Nat.reduceLT, Nat.reduceMul, Nat.reduceSub, Nat.reduceLeDiff, Int.reduceLT, Int.reduceLE, Int.reduceEq, Option.isSome_some, implies_true, false_implies, Prod.mk.injEq, ne_eq, not_false_eq_true, not_true_eq_false, ge_iff_le, gt_iff_lt, Int.toNat_natCast, Int.reduceToNat, Int.cast_ofNat_Int, Int.natCast_nonneg, Try.f100]
  refine awpLoop.intro (fun x : Nat => [(1, .ref (.ptr 1 0 0 0)), (3, .ref (.sl 3 0 0 0 (memL (fun z => m.getD z false) x).length 1)), (4, .i .i64 x)]) (fun x => ⟨[], [((1, 0), .lv true ([(0, .bools 10 m)])), ((3, 0), .lv true ([(0, .ints .i64 (memL (fun z => m.getD z false) x).length (memL (fun z => m.getD z false) x))]))], 6⟩)
    (fun x => x ≤ 10) (fun x => 10 - x) 0 (by omega) ⟨[((1,0),(1,0)), ((3,0),(3,0))], rfl, ?_, ?_⟩ ?_
  · simp [wkEnv, lk, renV, renAt, renTo, memL]
  · simp [wkMem, wkLoc, Mem.get, assoc, renBlk, renSegs, renSg, renTo, memL]
  · intro x hx
    have hl := memL_len (p := fun z => m.getD z false) (k := x)
    by_cases h : (x : Int) < 10
    · have w := wrap_i64s (show x < 2 ^ 62 by omega)
      have u1 : 0 + x * 1 < 10 := by omega
      have e1 : m.getD (0 + x * 1) false = m.getD x false := by rw [Nat.zero_add, Nat.mul_one]
      cases hb : m.getD x false
      · simp only [absE, absL, absF, reduceCtorEq, ↓reduceIte, Nat.reduceEqDiff, Nat.reduceAdd, Nat.reduceLT, Nat.reduceMul, Nat.reduceSub, Nat.reduceLeDiff, Int.reduceLT, Int.reduceLE, Int.reduceEq, Option.isSome_some, implies_true, false_implies, Prod.mk.injEq, ne_eq, not_false_eq_true, not_true_eq_false, ge_iff_le, gt_iff_lt, Int.toNat_natCast, Int.reduceToNat, Int.cast_ofNat_Int, Int.natCast_nonneg, h, u1, e1, hb]
        refine LoopNext.intro (x + 1) (by omega) (by omega) ⟨[((1,0),(1,0)), ((3,0),(3,0))], rfl, ?_, ?_⟩
        · simp [wkEnv, lk, renV, renAt, renTo, w, memL, hb, -List.getD_eq_getElem?_getD]
        · simp [wkMem, wkLoc, Mem.get, assoc, renBlk, renSegs, renSg, renTo, w, memL, hb, -List.getD_eq_getElem?_getD]
      · have mx : (memL (fun z => m.getD z false) x).length * 1 = (memL (fun z => m.getD z false) x).length := Nat.mul_one _
        simp only [absE, absL, absF, reduceCtorEq, ↓reduceIte, Nat.reduceEqDiff, Nat.reduceAdd, Nat.reduceLT, Nat.reduceMul, Nat.reduceSub, Nat.reduceLeDiff, Int.reduceLT, Int.reduceLE, Int.reduceEq, Option.isSome_some, implies_true, false_implies, Prod.mk.injEq, ne_eq, not_false_eq_true, not_true_eq_false, ge_iff_le, gt_iff_lt, Int.toNat_natCast, Int.reduceToNat, Int.cast_ofNat_Int, Int.natCast_nonneg, h, u1, e1, hb, mx]
        refine ⟨by omega, by omega, LoopNext.intro (x + 1) (by omega) (by omega) ⟨[((1,0),(1,0)), ((14,0),(3,0))], rfl, ?_, ?_⟩⟩
        · simp [wkEnv, lk, renV, renAt, renTo, w, memL, hb, -List.getD_eq_getElem?_getD]
        · simp [wkMem, wkLoc, Mem.get, assoc, renBlk, renSegs, renSg, renTo, w, memL, hb, -List.getD_eq_getElem?_getD]
    · have hxN : x = 10 := by omega
      subst hxN
      simp only [absE, absL, absF, reduceCtorEq, ↓reduceIte, Nat.reduceEqDiff, Nat.reduceAdd, Nat.reduceLT, Nat.reduceMul, Nat.reduceSub, Nat.reduceLeDiff, Int.reduceLT, Int.reduceLE, Int.reduceEq, Option.isSome_some, implies_true, false_implies, Prod.mk.injEq, ne_eq, not_false_eq_true, not_true_eq_false, ge_iff_le, gt_iff_lt, Int.toNat_natCast, Int.reduceToNat, Int.cast_ofNat_Int, Int.natCast_nonneg, h, Try.results100]
      exact ⟨[(3, 0)], by simp, by simp, by simp [renV, renAt, renFin, idx, -List.getD_eq_getElem?_getD], by simp, by simp [renBlk, renSegs, renSg, Mem.get, assoc, -List.getD_eq_getElem?_getD]⟩
noncomputable def lcd1 (n : Int) (t : List Int) (xs : List Int) (k : Nat) : Int := if loopB n t then (if listB n.toNat xs 0 k then 0 else 2) else 1
end Go.Proofs.Ytcaadjjgggjefaa
