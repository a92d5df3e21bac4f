/-
Contracts of functions of the given program, by the abstract walk.
-/
import Derived.Test.YtoccbgffekhcaaaAbsY
import Derived.Test.YtoccbgffekhcaaaCr
namespace Go.Proofs.Ytoccbgffekhcaaa
open Go Go.Abs
set_option linter.unusedVariables false
set_option linter.unusedSectionVars false
set_option linter.unusedSimpArgs false
set_option maxRecDepth 100000
theorem bytes_turned {t : List Int} (h : Bytes 100 t) : Bytes 100 (turned t) :=
  ⟨by simp [turned], fun i => by
    by_cases hi : i < 100
    · have := turned_getD (t := t) (a := i % 10) (b := i / 10) (by omega) (by omega)
      rw [show i / 10 * 10 + i % 10 = i by omega] at this
      rw [this]; exact h.rng _
    · have : (turned t).getD i 0 = 0 := by simp [turned, hi]
      rw [this]; omega⟩
theorem cl_turned {t : List Int} {a b : Nat} (ha : a < 10) (hb : b < 10) : cl (turned t) b a = cl t a b := by unfold cl; rw [turned_getD ha hb]
theorem pl_row {t : List Int} {x j : Nat} (hj : j < 10) : pl ((t.drop (x * 10)).take 10) j = cl t x j := by
  unfold pl cl; rw [getD_sub, if_pos hj]
theorem PermF_congr {N : Nat} {f g : Nat → Nat} (h : ∀ i, i < 10 → f i = g i) : PermF N f ↔ PermF N g := by
  have key : ∀ {f g : Nat → Nat}, (∀ i, i < 10 → f i = g i) → PermF N f → PermF N g := fun h hp i hi => by
    have := hp i hi
    unfold permAt at this ⊢
    rw [← h i hi]
    split
    · rename_i hc
      rw [if_pos hc] at this
      exact ⟨this.1, fun j hj => by rw [← h j (by omega)]; exact this.2 j hj⟩
    · rename_i hc
      rw [if_neg hc] at this; exact this
  exact ⟨key h, key fun i hi => (h i hi).symm⟩
theorem PermP_row {n : Int} {t : List Int} {x : Nat} : PermP n ((t.drop (x * 10)).take 10) ↔ 1 ≤ n ∧ n ≤ 10 ∧ PermF n.toNat (cl t x) := by
  unfold PermP
  rw [PermF_congr (N := n.toNat) fun i hi => pl_row (t := t) (x := x) hi]
theorem row_zero {t : List Int} {x : Nat} (ht : Bytes 100 t) (hx : x < 10) : (t.drop (x * 10)).take 10 = List.replicate 10 0 ↔ ∀ y, y < 10 → cl t x y = 0 := by
  have hl := ht.len
  constructor
  · intro h y hy
    have := congrArg (fun l => pl l y) h
    simp only [pl_row hy] at this
    rw [this]; unfold pl; rw [getD_rep0]; rfl
  · intro h
    refine ext_getD (by rw [sub_length (by omega)]; simp) fun i hi => ?_
    rw [sub_length (by omega)] at hi
    rw [getD_sub, if_pos hi, getD_rep0, ht.cell x i, h i hi]; rfl

theorem sq_rows {n : Int} {t : List Int} (ht : Bytes 100 t) : SqP n t ↔ (1 ≤ n ∧ n ≤ 10) ∧ RowsP n t ∧ RowsP n (turned t) := by
  rw [SqP_iff]
  constructor
  · rintro ⟨h1, h2, h3, h4⟩
    refine ⟨⟨h1, h2⟩, fun i hi => ?_, fun i hi => ?_⟩
    · split
      · rename_i hc
        exact PermP_row.2 ⟨h1, h2, (h3 i (by omega)).1⟩
      · rename_i hc
        exact (row_zero ht hi).2 fun y hy => (h4 i hi (by omega) y hy).1
    · split
      · rename_i hc
        exact PermP_row.2 ⟨h1, h2, (PermF_congr fun j hj => cl_turned hj hi).2 (h3 i (by omega)).2⟩
      · rename_i hc
        exact (row_zero (bytes_turned ht) hi).2 fun y hy => by rw [cl_turned hy hi]; exact (h4 i hi (by omega) y hy).2
  · rintro ⟨⟨h1, h2⟩, h3, h4⟩
    refine ⟨h1, h2, fun x hx => ⟨?_, ?_⟩, fun x hx hn y hy => ⟨?_, ?_⟩⟩
    · have := h3 x (by omega)
      rw [if_pos (by omega)] at this
      exact (PermP_row.1 this).2.2
    · have := h4 x (by omega)
      rw [if_pos (by omega)] at this
      exact (PermF_congr fun j hj => cl_turned hj (by omega)).1 (PermP_row.1 this).2.2
    · have := h3 x (by omega)
      rw [if_neg (by omega)] at this
      exact (row_zero ht hx).1 this y hy
    · have := h4 x (by omega)
      rw [if_neg (by omega)] at this
      rw [← cl_turned hy hx]; exact (row_zero (bytes_turned ht) hx).1 this y hy

theorem sqB_rows {n : Int} {t : List Int} (ht : Bytes 100 t) : sqB n t = (decide (1 ≤ n ∧ n ≤ 10) && rowsB n t && rowsB n (turned t)) := by
  rw [Bool.eq_iff_iff, sqB_iff, sq_rows ht]
  simp only [Bool.and_eq_true, decide_eq_true_eq, rowsB_iff, and_assoc]

theorem l01Is_ok (n : Int) (t : List Int) (ht : Bytes 100 t) : ACalls Try.prog 72 [.agg (sqS n t)] [] (fun r ms ns => r = .b (sqB n t) ∧ ms = [] ∧ ns = []) := by
  rw [sqB_rows ht]
  refine acalls_of_body mix Try.func72 rfl fok72 (Nat.le_of_ble_eq_true rfl) ?_
  unfold abody
  simp only [absE, absL, absF, reduceCtorEq, ↓reduceIte, Nat.reduceEqDiff, Nat.reduceAdd, Nat.reduceLT, Nat.reduceMul, Nat.reduceSub, Nat.reduceLeDiff, Int.reduceLT, Int.reduceLE, Int.reduceEq, Option.isSome_some, implies_true, false_implies, Prod.mk.injEq, ne_eq, not_false_eq_true, not_true_eq_false, ge_iff_le, gt_iff_lt, Int.toNat_natCast, Int.reduceToNat, Int.cast_ofNat_Int, Int.natCast_nonneg, Try.f72]
  refine CallsX.none (l01In_ok n 1 10) ?_
  by_cases hn : 1 ≤ n ∧ n ≤ 10
  · simp only [absE, absL, absF, reduceCtorEq, ↓reduceIte, Nat.reduceEqDiff, Nat.reduceAdd, Nat.reduceLT, Nat.reduceMul, Nat.reduceSub, Nat.reduceLeDiff, Int.reduceLT, Int.reduceLE, Int.reduceEq, Option.isSome_some, implies_true, false_implies, Prod.mk.injEq, ne_eq, not_false_eq_true, not_true_eq_false, ge_iff_le, gt_iff_lt, Int.toNat_natCast, Int.reduceToNat, Int.cast_ofNat_Int, Int.natCast_nonneg, hn]
    refine CallsX.none (l01Rows_ok t n ht) ?_
    cases hr : rowsB n t
    · simp only [absE, absL, absF, reduceCtorEq, ↓reduceIte, Nat.reduceEqDiff, Nat.reduceAdd, Nat.reduceLT, Nat.reduceMul, Nat.reduceSub, Nat.reduceLeDiff, Int.reduceLT, Int.reduceLE, Int.reduceEq, Option.isSome_some, implies_true, false_implies, Prod.mk.injEq, ne_eq, not_false_eq_true, not_true_eq_false, ge_iff_le, gt_iff_lt, Int.toNat_natCast, Int.reduceToNat, Int.cast_ofNat_Int, Int.natCast_nonneg, Try.results72]
      exact fin_false (by simp [hn])
    · simp only [absE, absL, absF, reduceCtorEq, ↓reduceIte, Nat.reduceEqDiff, Nat.reduceAdd, Nat.reduceLT, Nat.reduceMul, Nat.reduceSub, Nat.reduceLeDiff, Int.reduceLT, Int.reduceLE, Int.reduceEq, Option.isSome_some, implies_true, false_implies, Prod.mk.injEq, ne_eq, not_false_eq_true, not_true_eq_false, ge_iff_le, gt_iff_lt, Int.toNat_natCast, Int.reduceToNat, Int.cast_ofNat_Int, Int.natCast_nonneg]
      refine CallsX.none (l01Turned_ok t ht.len) ?_
      simp only [absE, absL, absF, reduceCtorEq, ↓reduceIte, Nat.reduceEqDiff, Nat.reduceAdd, Nat.reduceLT, Nat.reduceMul, Nat.reduceSub, Nat.reduceLeDiff, Int.reduceLT, Int.reduceLE, Int.reduceEq, Option.isSome_some, implies_true, false_implies, Prod.mk.injEq, ne_eq, not_false_eq_true, not_true_eq_false, ge_iff_le, gt_iff_lt, Int.toNat_natCast, Int.reduceToNat, Int.cast_ofNat_Int, Int.natCast_nonneg]
      refine CallsX.none (l01Rows_ok (turned t) n (bytes_turned ht)) ?_
      simp only [absE, absL, absF, reduceCtorEq, ↓reduceIte, Nat.reduceEqDiff, Nat.reduceAdd, Nat.reduceLT, Nat.reduceMul, Nat.reduceSub, Nat.reduceLeDiff, Int.reduceLT, Int.reduceLE, Int.reduceEq, Option.isSome_some, implies_true, false_implies, Prod.mk.injEq, ne_eq, not_false_eq_true, not_true_eq_false, ge_iff_le, gt_iff_lt, Int.toNat_natCast, Int.reduceToNat, Int.cast_ofNat_Int, Int.natCast_nonneg, Try.results72]
      exact fin_b (by simp [hn]) rfl
  · simp only [absE, absL, absF, reduceCtorEq, ↓reduceIte, Nat.reduceEqDiff, Nat.reduceAdd, Nat.reduceLT, Nat.reduceMul, Nat.reduceSub, Nat.reduceLeDiff, Int.reduceLT, Int.reduceLE, Int.reduceEq, Option.isSome_some, implies_true, false_implies, Prod.mk.injEq, ne_eq, not_false_eq_true, not_true_eq_false, ge_iff_le, gt_iff_lt, Int.toNat_natCast, Int.reduceToNat, Int.cast_ofNat_Int, Int.natCast_nonneg, hn, Try.results72]
    exact fin_false (by simp [hn])

end Go.Proofs.Ytoccbgffekhcaaa
