/-
Contracts of functions of the given program, by the abstract walk.
-/
import Derived.Test.YtoccbgffekhcaaaAbsY
import Derived.Test.YtoccbgffekhcaaaFa
import Derived.Test.YtoccbgffekhcaaaCc
namespace Go.Proofs.Ytoccbgffekhcaaa
open Go Go.Abs
set_option linter.unusedVariables false
set_option linter.unusedSectionVars false
set_option linter.unusedSimpArgs false
set_option maxRecDepth 100000
/-! ascending lists of elements -/
def okAt (N : Nat) (xs : List Int) (off i : Nat) : Prop := (0 ≤ xs.getD (off + i * 1) 0 ∧ xs.getD (off + i * 1) 0 ≤ (N : Int) - 1) ∧ (0 < i → xs.getD (off + (i - 1) * 1) 0 < xs.getD (off + i * 1) 0)
def ListP (N : Nat) (xs : List Int) (off k : Nat) : Prop := ∀ i, i < k → okAt N xs off i
open Classical in
noncomputable def listB (N : Nat) (xs : List Int) (off k : Nat) : Bool := decide (ListP N xs off k)
theorem listB_true {N : Nat} {xs : List Int} {off k : Nat} (h : ListP N xs off k) : listB N xs off k = true := by unfold listB; exact @decide_eq_true _ (_) h
theorem listB_false {N : Nat} {xs : List Int} {off k : Nat} (h : ¬ListP N xs off k) : listB N xs off k = false := by unfold listB; exact @decide_eq_false _ (_) h
theorem listB_iff {N : Nat} {xs : List Int} {off k : Nat} : listB N xs off k = true ↔ ListP N xs off k := by unfold listB; exact @decide_eq_true_iff _ (_)
theorem isList_ok (N : Nat) (t xs : List Int) (L off k : Nat) (hN : N ≤ 10) (hx : xs.length = L) (hL : L ≤ 2 ^ 20) (ho : off + k ≤ L) :
    ACalls Try.prog 115 [.agg (sqS N t), .ref (.sl 0 0 0 off k 1)] [.lv true [(0, .ints .i64 L xs)]] (fun v ms ns => v = .b (listB N xs off k) ∧ ms = [.lv true [(0, .ints .i64 L xs)]] ∧ ns = []) := by
  have wn : IntKind.i64.wrap ((N : Int) - 1) = (N : Int) - 1 := wrap_i64 (by omega) (by omega)
  refine acalls_of_body mix Try.func115 rfl fok115 (Nat.le_of_ble_eq_true rfl) ?_
  unfold abody
  simp only [absE, absL, absF, reduceCtorEq, ↓reduceIte, Nat.reduceEqDiff, Nat.reduceAdd, Nat.reduceLT, Nat.reduceMul, Nat.reduceSub, Nat.reduceLeDiff, Int.reduceLT, Int.reduceLE, Int.reduceEq, Option.isSome_some, implies_true, false_implies, Prod.mk.injEq, ne_eq, not_false_eq_true, not_true_eq_false, ge_iff_le, gt_iff_lt, Int.toNat_natCast, Int.reduceToNat, Int.cast_ofNat_Int, Int.natCast_nonneg, Try.f115]
  refine awpLoop.intro (fun i : Nat => [(1, .ref (.sl 0 0 0 off k 1)), (2, .ref (.ptr 1 0 0 0)), (7, .ref (.sl 0 0 0 off k 1)), (8, .i .i64 k), (9, .i .i64 i)]) (fun i => ⟨[.lv true [(0, .ints .i64 L xs)]], [((1, 0), .lv true (sqS N t))], 6⟩)
    (fun i => i ≤ k ∧ ∀ j, j < i → okAt N xs off j) (fun i => k - i) 0 ⟨by omega, fun j hj => absurd hj (by omega)⟩ ⟨[((1,0),(1,0))], rfl, ?_, ?_⟩ ?_
  · simp [wkEnv, lk, renV, renAt, renTo]
  · simp [wkMem, wkLoc, Mem.get, assoc, renBlk, renSegs, renSg, renTo]
  · rintro i ⟨hi, hp⟩
    by_cases h : (i : Int) < k
    · have w := wrap_i64s (show i < 2 ^ 62 by omega)
      have v1 : off + i * 1 < L := by omega
      simp only [absE, absL, absF, reduceCtorEq, ↓reduceIte, Nat.reduceEqDiff, Nat.reduceAdd, Nat.reduceLT, Nat.reduceMul, Nat.reduceSub, Nat.reduceLeDiff, Int.reduceLT, Int.reduceLE, Int.reduceEq, Option.isSome_some, implies_true, false_implies, Prod.mk.injEq, ne_eq, not_false_eq_true, not_true_eq_false, ge_iff_le, gt_iff_lt, Int.toNat_natCast, Int.reduceToNat, Int.cast_ofNat_Int, Int.natCast_nonneg, h, v1, wn]
      refine CallsVia.none (within_ok (xs.getD (off + i * 1) 0) 0 ((N : Int) - 1)) ?_
      rintro _ _ _ ⟨rfl, rfl, rfl⟩
      by_cases hw : 0 ≤ xs.getD (off + i * 1) 0 ∧ xs.getD (off + i * 1) 0 ≤ (N : Int) - 1
      · by_cases h0 : 0 < i
        · have g0 : (0 : Int) < i := by omega
          have wi : IntKind.i64.wrap ((i : Int) - 1) = ((i - 1 : Nat) : Int) := by rw [wrap_i64 (by omega) (by omega)]; omega
          have v2 : off + (i - 1) * 1 < L := by omega
          have z2 : (0 : Int) ≤ ((i - 1 : Nat) : Int) := by omega
          have l2 : ((i - 1 : Nat) : Int) < k := by omega
          by_cases hc : xs.getD (off + i * 1) 0 ≤ xs.getD (off + (i - 1) * 1) 0
          · simp only [absE, absL, absF, reduceCtorEq, ↓reduceIte, Nat.reduceEqDiff, Nat.reduceAdd, Nat.reduceLT, Nat.reduceMul, Nat.reduceSub, Nat.reduceLeDiff, Int.reduceLT, Int.reduceLE, Int.reduceEq, Option.isSome_some, implies_true, false_implies, Prod.mk.injEq, ne_eq, not_false_eq_true, not_true_eq_false, ge_iff_le, gt_iff_lt, Int.toNat_natCast, Int.reduceToNat, Int.cast_ofNat_Int, Int.natCast_nonneg, hw, g0, wi, v2, z2, l2, hc, and_self, Try.results115]
            have hf : listB N xs off k = false := listB_false fun hu => by have := (hu i (by omega)).2 h0; omega
            exact ⟨[], by simp, by simp, by simp [renV, renBlk, renSegs, renSg, hf]⟩
          · simp only [absE, absL, absF, reduceCtorEq, ↓reduceIte, Nat.reduceEqDiff, Nat.reduceAdd, Nat.reduceLT, Nat.reduceMul, Nat.reduceSub, Nat.reduceLeDiff, Int.reduceLT, Int.reduceLE, Int.reduceEq, Option.isSome_some, implies_true, false_implies, Prod.mk.injEq, ne_eq, not_false_eq_true, not_true_eq_false, ge_iff_le, gt_iff_lt, Int.toNat_natCast, Int.reduceToNat, Int.cast_ofNat_Int, Int.natCast_nonneg, hw, g0, wi, v2, z2, l2, hc, and_self]
            refine LoopNext.intro (i + 1) ⟨by omega, fun j hj => ?_⟩ (by omega) ⟨[((1,0),(1,0))], rfl, ?_, ?_⟩
            · by_cases ej : j = i
              · subst ej; exact ⟨hw, fun _ => by omega⟩
              · exact hp j (by omega)
            · simp [wkEnv, lk, renV, renAt, renTo, w]
            · simp [wkMem, wkLoc, Mem.get, assoc, renBlk, renSegs, renSg, renTo, w]
        · have g0 : ¬(0 : Int) < i := by omega
          simp only [absE, absL, absF, reduceCtorEq, ↓reduceIte, Nat.reduceEqDiff, Nat.reduceAdd, Nat.reduceLT, Nat.reduceMul, Nat.reduceSub, Nat.reduceLeDiff, Int.reduceLT, Int.reduceLE, Int.reduceEq, Option.isSome_some, implies_true, false_implies, Prod.mk.injEq, ne_eq, not_false_eq_true, not_true_eq_false, ge_iff_le, gt_iff_lt, Int.toNat_natCast, Int.reduceToNat, Int.cast_ofNat_Int, Int.natCast_nonneg, hw, g0, and_self]
          refine LoopNext.intro (i + 1) ⟨by omega, fun j hj => ?_⟩ (by omega) ⟨[((1,0),(1,0))], rfl, ?_, ?_⟩
          · by_cases ej : j = i
            · subst ej; exact ⟨hw, fun hh => absurd hh h0⟩
            · exact hp j (by omega)
          · simp [wkEnv, lk, renV, renAt, renTo, w]
          · simp [wkMem, wkLoc, Mem.get, assoc, renBlk, renSegs, renSg, renTo, w]
      · simp only [absE, absL, absF, reduceCtorEq, ↓reduceIte, Nat.reduceEqDiff, Nat.reduceAdd, Nat.reduceLT, Nat.reduceMul, Nat.reduceSub, Nat.reduceLeDiff, Int.reduceLT, Int.reduceLE, Int.reduceEq, Option.isSome_some, implies_true, false_implies, Prod.mk.injEq, ne_eq, not_false_eq_true, not_true_eq_false, ge_iff_le, gt_iff_lt, Int.toNat_natCast, Int.reduceToNat, Int.cast_ofNat_Int, Int.natCast_nonneg, hw, Try.results115]
        have hf : listB N xs off k = false := listB_false fun hu => hw (hu i (by omega)).1
        exact ⟨[], by simp, by simp, by simp [renV, renBlk, renSegs, renSg, hf]⟩
    · simp only [absE, absL, absF, reduceCtorEq, ↓reduceIte, Nat.reduceEqDiff, Nat.reduceAdd, Nat.reduceLT, Nat.reduceMul, Nat.reduceSub, Nat.reduceLeDiff, Int.reduceLT, Int.reduceLE, Int.reduceEq, Option.isSome_some, implies_true, false_implies, Prod.mk.injEq, ne_eq, not_false_eq_true, not_true_eq_false, ge_iff_le, gt_iff_lt, Int.toNat_natCast, Int.reduceToNat, Int.cast_ofNat_Int, Int.natCast_nonneg, h, Try.results115]
      have hf : listB N xs off k = true := listB_true fun j hj => hp j (by omega)
      exact ⟨[], by simp, by simp, by simp [renV, renBlk, renSegs, renSg, hf]⟩

end Go.Proofs.Ytoccbgffekhcaaa
