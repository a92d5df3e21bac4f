/-
Contracts of functions of the given program, by the abstract walk.
-/
import Derived.Test.YtoccbgffekhcaaaAbsY
import Derived.Test.YtoccbgffekhcaaaDo
import Derived.Test.YtoccbgffekhcaaaDc
namespace Go.Proofs.Ytoccbgffekhcaaa
open Go Go.Abs
set_option linter.unusedVariables false
set_option linter.unusedSectionVars false
set_option linter.unusedSimpArgs false
set_option maxRecDepth 100000
def assoc3 (t : List Int) (x y z : Nat) : Bool := decide (cl t (cl t x y) z = cl t x (cl t y z))
theorem assoc3_true {t : List Int} {x y z : Nat} (h : cl t (cl t x y) z = cl t x (cl t y z)) : assoc3 t x y z = true := decide_eq_true h
theorem assoc3_false {t : List Int} {x y z : Nat} (h : ¬cl t (cl t x y) z = cl t x (cl t y z)) : assoc3 t x y z = false := decide_eq_false h
def nucG (side : Int) (t : List Int) (a x y : Nat) : Bool := if side = 0 then assoc3 t a x y else if side = 1 then assoc3 t x a y else assoc3 t x y a
noncomputable def nucB (side : Int) (N : Nat) (t : List Int) (a : Nat) : Bool := pairsB N (nucG side t a)
theorem setM_list {p : Nat → Bool} {N : Nat} (hN : N ≤ 10) : memL (setM p N).testBit 10 = memL p N := by
  rw [memL_more (n := N) hN fun i hi => by rw [setM_bit, decide_eq_false (by omega), Bool.false_and]]
  exact memL_congr fun i hi => by rw [setM_bit, decide_eq_true hi, Bool.true_and]
theorem setM_small {p : Nat → Bool} {N : Nat} (hN : N ≤ 10) : setM p N < 2 ^ 62 := by
  have h := setM_lt (p := p) (k := N)
  have h2 : (2 : Nat) ^ N ≤ 2 ^ 10 := Nat.pow_le_pow_right (by decide) (by omega)
  omega
/-- What a list of elements looks like when it is handed back. -/
def listV (l : List Int) : AV := .tup [.ref (.sl 1 0 0 0 l.length 1), .i .i64 0]
def listN (l : List Int) : List Blk := [.lv true [(0, .ints .i64 l.length l)]]
theorem loopSet_yes (n : Int) (t : List Int) (f : FuncId) (s : Nat) (ht : Bytes 100 t) (h : loopB n t = true) (hs : s < 2 ^ 62)
    (hf : ACalls Try.prog f [.agg (sqS n t)] [] (fun v ms ns => v = .i .i64 s ∧ ms = [] ∧ ns = [])) :
    ACalls Try.prog 67 [.agg (sqS n t), .ref (.fn f [])] [] (fun v ms ns => v = listV (memL s.testBit 10) ∧ ms = [] ∧ ns = listN (memL s.testBit 10)) := by
  refine acalls_of_body mix Try.func67 rfl fok67 (Nat.le_of_ble_eq_true rfl) ?_
  unfold abody
  simp only [absE, absL, absF, reduceCtorEq, ↓reduceIte, Nat.reduceEqDiff, Nat.reduceAdd, Nat.reduceLT, Nat.reduceMul, Nat.reduceSub, Nat.reduceLeDiff, Int.reduceLT, Int.reduceLE, Int.reduceEq, Option.isSome_some, implies_true, false_implies, Prod.mk.injEq, ne_eq, not_false_eq_true, not_true_eq_false, ge_iff_le, gt_iff_lt, Int.toNat_natCast, Int.reduceToNat, Int.cast_ofNat_Int, Int.natCast_nonneg, Try.f67]
  refine CallsVia.none (isLoop_ok n t ht) ?_
  rintro _ _ _ ⟨rfl, rfl, rfl⟩
  simp only [absE, absL, absF, reduceCtorEq, ↓reduceIte, Nat.reduceEqDiff, Nat.reduceAdd, Nat.reduceLT, Nat.reduceMul, Nat.reduceSub, Nat.reduceLeDiff, Int.reduceLT, Int.reduceLE, Int.reduceEq, Option.isSome_some, implies_true, false_implies, Prod.mk.injEq, ne_eq, not_false_eq_true, not_true_eq_false, ge_iff_le, gt_iff_lt, Int.toNat_natCast, Int.reduceToNat, Int.cast_ofNat_Int, Int.natCast_nonneg, h]
  refine CallsVia.none (hf) ?_
  rintro _ _ _ ⟨rfl, rfl, rfl⟩
  simp only [absE, absL, absF, reduceCtorEq, ↓reduceIte, Nat.reduceEqDiff, Nat.reduceAdd, Nat.reduceLT, Nat.reduceMul, Nat.reduceSub, Nat.reduceLeDiff, Int.reduceLT, Int.reduceLE, Int.reduceEq, Option.isSome_some, implies_true, false_implies, Prod.mk.injEq, ne_eq, not_false_eq_true, not_true_eq_false, ge_iff_le, gt_iff_lt, Int.toNat_natCast, Int.reduceToNat, Int.cast_ofNat_Int, Int.natCast_nonneg]
  refine CallsVia.none (setList_ok s hs) ?_
  rintro _ _ _ ⟨rfl, rfl, rfl⟩
  simp only [absE, absL, absF, reduceCtorEq, ↓reduceIte, Nat.reduceEqDiff, Nat.reduceAdd, Nat.reduceLT, Nat.reduceMul, Nat.reduceSub, Nat.reduceLeDiff, Int.reduceLT, Int.reduceLE, Int.reduceEq, Option.isSome_some, implies_true, false_implies, Prod.mk.injEq, ne_eq, not_false_eq_true, not_true_eq_false, ge_iff_le, gt_iff_lt, Int.toNat_natCast, Int.reduceToNat, Int.cast_ofNat_Int, Int.natCast_nonneg, Try.results67]
  exact ⟨[(10, 0)], by simp, by simp, by simp [renV, renVs, renAt, renFin, idx, listV], by simp, by simp [renBlk, renSegs, renSg, Mem.get, assoc, listN]⟩
theorem loopSet_no (n : Int) (t : List Int) (f : FuncId) (ht : Bytes 100 t) (h : loopB n t = false) :
    ACalls Try.prog 67 [.agg (sqS n t), .ref (.fn f [])] [] (fun v ms ns => v = .tup [.ref .nils, .i .i64 1] ∧ ms = [] ∧ ns = []) := by
  refine acalls_of_body mix Try.func67 rfl fok67 (Nat.le_of_ble_eq_true rfl) ?_
  unfold abody
  simp only [absE, absL, absF, reduceCtorEq, ↓reduceIte, Nat.reduceEqDiff, Nat.reduceAdd, Nat.reduceLT, Nat.reduceMul, Nat.reduceSub, Nat.reduceLeDiff, Int.reduceLT, Int.reduceLE, Int.reduceEq, Option.isSome_some, implies_true, false_implies, Prod.mk.injEq, ne_eq, not_false_eq_true, not_true_eq_false, ge_iff_le, gt_iff_lt, Int.toNat_natCast, Int.reduceToNat, Int.cast_ofNat_Int, Int.natCast_nonneg, Try.f67]
  refine CallsVia.none (isLoop_ok n t ht) ?_
  rintro _ _ _ ⟨rfl, rfl, rfl⟩
  simp only [absE, absL, absF, reduceCtorEq, ↓reduceIte, Nat.reduceEqDiff, Nat.reduceAdd, Nat.reduceLT, Nat.reduceMul, Nat.reduceSub, Nat.reduceLeDiff, Int.reduceLT, Int.reduceLE, Int.reduceEq, Option.isSome_some, implies_true, false_implies, Prod.mk.injEq, ne_eq, not_false_eq_true, not_true_eq_false, ge_iff_le, gt_iff_lt, Int.toNat_natCast, Int.reduceToNat, Int.cast_ofNat_Int, Int.natCast_nonneg, h, Try.results67]
  exact ⟨[], by simp, by simp, by simp [renV, renVs, renAt]⟩

theorem nucB_iff {side : Int} {N : Nat} {t : List Int} {a : Nat} : nucB side N t a = true ↔ ∀ x, x < N → ∀ y, y < N → nucG side t a x y = true := pairsB_iff
theorem nucList_len {n : Int} {t : List Int} (h : loopB n t = true) {p : Nat → Bool} : (memL p n.toNat).length < 2 ^ 40 := by
  simp only [loopB, Bool.and_eq_true] at h
  have := (sqB_iff.1 h.1).2.1
  have := memL_len (p := p) (k := n.toNat)
  omega

end Go.Proofs.Ytoccbgffekhcaaa
