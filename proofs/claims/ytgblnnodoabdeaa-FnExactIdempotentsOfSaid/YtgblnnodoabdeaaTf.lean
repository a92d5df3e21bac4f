/-
Contracts of functions of the given program, by the abstract walk.
-/
import Derived.Test.YtgblnnodoabdeaaAbsY
import Derived.Test.YtgblnnodoabdeaaTe
import Derived.Test.YtgblnnodoabdeaaLd
namespace Go.Proofs.Ytgblnnodoabdeaa
open Go Go.Abs
set_option linter.unusedVariables false
set_option linter.unusedSectionVars false
set_option linter.unusedSimpArgs false
set_option maxRecDepth 100000
/-! IdempotentsOf: the closure -/
def iMs (N : Nat) (t : List Int) (P i : Nat) (L : LLs) : List Blk := .lv true [(0, .ints .i64 N (digL P N i))] :: .lv true (sqS N t) :: .lv true [(0, .ints .i64 1 [(P : Int)])] :: .lv true [(0, .cells 1 [.sl 0 4 0 0 L.length 1])] :: ob 0 5 L :: inn L
def iMs' (N : Nat) (t : List Int) (P i : Nat) (L : LLs) : List Blk := .lv true [(0, .ints .i64 N (digL P N i))] :: .lv true (sqS N t) :: .lv true [(0, .ints .i64 1 [(P : Int)])] :: .lv true [(0, .cells 1 [.sl 1 0 0 0 (L.length + 1) 1])] :: .dead :: inn L
theorem idm1_ok (N : Nat) (t : List Int) (P i : Nat) (L : LLs) (ht : Bytes 100 t) (hs : SqP N t) (hp : PrP P) (hP : 2 ≤ P) (hL : L.length ≤ 20000) :
    ACalls Try.prog 60 [.ref (.sl 0 0 0 0 N 1), .ref (.ptr 0 1 0 0), .ref (.ptr 0 2 0 0), .ref (.ptr 0 3 0 0)] (iMs N t P i L)
      (fun v ms ns => v = .tup [] ∧ ((idmB N t P i = true ∧ ms = iMs' N t P i L ∧ ns = [.lv true [(0, .cells (L.length + 1) (outs 0 5 L ++ [.sl 0 0 0 0 N 1]))]]) ∨ (idmB N t P i = false ∧ ms = iMs N t P i L ∧ ns = []))) := by
  have hN := hs.le
  have hT := timesS_ok N t P (digL P N i) ht hs hp (digL_rng (by omega)) digL_len
  have hS := equalL_ok (tmT N t P (digL P N i) (digL P N i) N) (digL P N i) (by rw [tmT_len]; omega) (by rw [digL_len]; omega)
  rw [tmT_len, digL_len] at hS
  have mL : L.length * 1 = L.length := Nat.mul_one _
  have hinn : ∀ keep, (inn L).map (renBlk (renFin keep)) = inn L := fun _ => inn_ren
  have hob : ∀ keep, renBlk (renFin keep) (ob 0 5 L) = ob 0 5 L := fun _ => ob_ren fun i _ => renFin_zero _
  have hou : ∀ keep, (outs 0 5 L).map (renAt (renFin keep)) = outs 0 5 L := fun _ => outs_ren fun i _ => renFin_zero _
  unfold iMs
  refine acalls_of_body mix Try.func60 rfl fok60 (Nat.le_of_ble_eq_true rfl) ?_
  unfold abody
  simp only [absE, absL, absF, reduceCtorEq, ↓reduceIte, Nat.reduceEqDiff, Nat.reduceAdd, Nat.reduceLT, Nat.reduceMul, Nat.reduceSub, Nat.reduceLeDiff, Int.reduceLT, Int.reduceLE, Int.reduceEq, Option.isSome_some, implies_true, false_implies, Prod.mk.injEq, ne_eq, not_false_eq_true, not_true_eq_false, ge_iff_le, gt_iff_lt, Int.toNat_natCast, Int.reduceToNat, Int.cast_ofNat_Int, Int.natCast_nonneg, List.getD_cons_zero, List.getD_cons_succ, Try.f60]
  refine CallsVia.args [(0, 0)] hT (by simp) (by simp [Mem.get]) rfl rfl ?_
  rintro _ _ _ ⟨rfl, rfl, rfl⟩
  simp only [absE, absL, absF, reduceCtorEq, ↓reduceIte, Nat.reduceEqDiff, Nat.reduceAdd, Nat.reduceLT, Nat.reduceMul, Nat.reduceSub, Nat.reduceLeDiff, Int.reduceLT, Int.reduceLE, Int.reduceEq, Option.isSome_some, implies_true, false_implies, Prod.mk.injEq, ne_eq, not_false_eq_true, not_true_eq_false, ge_iff_le, gt_iff_lt, Int.toNat_natCast, Int.reduceToNat, Int.cast_ofNat_Int, Int.natCast_nonneg, List.getD_cons_zero, List.getD_cons_succ]
  refine CallsVia.args [(5, 0), (0, 0)] hS (by simp) (by simp [Mem.get, assoc]) rfl rfl ?_
  rintro _ _ _ ⟨rfl, rfl, rfl⟩
  rw [show decide (tmT N t P (digL P N i) (digL P N i) N = digL P N i) = idmB N t P i from rfl]
  cases hb : idmB N t P i
  · simp only [absE, absL, absF, reduceCtorEq, ↓reduceIte, Nat.reduceEqDiff, Nat.reduceAdd, Nat.reduceLT, Nat.reduceMul, Nat.reduceSub, Nat.reduceLeDiff, Int.reduceLT, Int.reduceLE, Int.reduceEq, Option.isSome_some, implies_true, false_implies, Prod.mk.injEq, ne_eq, not_false_eq_true, not_true_eq_false, ge_iff_le, gt_iff_lt, Int.toNat_natCast, Int.reduceToNat, Int.cast_ofNat_Int, Int.natCast_nonneg, List.getD_cons_zero, List.getD_cons_succ, Try.results60]
    exact ⟨[], by simp, by simp, by simp [renV, renVs], .inr ⟨rfl, by simp only [List.map_cons, hinn, hob]; simp [renBlk, renSegs, renSg, renAt, renFin], by simp⟩⟩
  · simp only [absE, absL, absF, reduceCtorEq, ↓reduceIte, Nat.reduceEqDiff, Nat.reduceAdd, Nat.reduceLT, Nat.reduceMul, Nat.reduceSub, Nat.reduceLeDiff, Int.reduceLT, Int.reduceLE, Int.reduceEq, Option.isSome_some, implies_true, false_implies, Prod.mk.injEq, ne_eq, not_false_eq_true, not_true_eq_false, ge_iff_le, gt_iff_lt, Int.toNat_natCast, Int.reduceToNat, Int.cast_ofNat_Int, Int.natCast_nonneg, List.getD_cons_zero, List.getD_cons_succ, mL, ob, Try.results60]
    repeat first | refine And.intro (by decide +kernel) ?_ | refine And.intro (by omega) ?_
    exact ⟨[(11, 0)], by simp, by simp, by simp [renV, renVs], .inl ⟨rfl, by simp only [List.map_cons, hinn, iMs']; simp [renBlk, renSegs, renSg, renAt, renFin, idx], by simp [Mem.get, assoc, renBlk, renSegs, renSg, hou, renAt, renFin]⟩⟩

end Go.Proofs.Ytgblnnodoabdeaa
