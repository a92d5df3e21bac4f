/-
Contracts of functions of the given program, by the abstract walk.
-/
import Derived.Test.YtcaadjjgggjefaaAbsY
import Derived.Test.YtcaadjjgggjefaaJb
namespace Go.Proofs.Ytcaadjjgggjefaa
open Go Go.Abs
set_option linter.unusedVariables false
set_option linter.unusedSectionVars false
set_option linter.unusedSimpArgs false
set_option maxRecDepth 100000
theorem eqLists_nil : ACalls Try.prog 32 [.ref .nils, .ref .nils] [] (fun v ms ns => v = .b true ∧ ms = [] ∧ ns = []) := by
  refine acalls_of_body mix Try.func32 rfl fok32 (Nat.le_of_ble_eq_true rfl) ?_
  unfold abody
  simp only [absE, absL, absF, reduceCtorEq, ↓reduceIte, Nat.reduceEqDiff, Nat.reduceAdd, Nat.reduceLT, Nat.reduceMul, Nat.reduceSub, Nat.reduceLeDiff, Int.reduceLT, Int.reduceLE, Int.reduceEq, Option.isSome_some, implies_true, false_implies, Prod.mk.injEq, ne_eq, not_false_eq_true, not_true_eq_false, ge_iff_le, gt_iff_lt, Int.toNat_natCast, Int.reduceToNat, Int.cast_ofNat_Int, Int.natCast_nonneg, Try.f32]
  refine awpLoop.intro (fun i : Nat => [(0, .ref .nils), (1, .ref .nils), (5, .i .i64 i)]) (fun i => ⟨[], [], 8⟩) (fun i => i = 0) (fun i => 0) 0 rfl ⟨[], rfl, ?_, ?_⟩ ?_
  · simp [wkEnv, lk, renV, renAt, renTo]
  · simp [wkMem, wkLoc, Mem.get, assoc, renBlk, renSegs, renSg, renTo]
  · rintro i rfl
    simp only [absE, absL, absF, reduceCtorEq, ↓reduceIte, Nat.reduceEqDiff, Nat.reduceAdd, Nat.reduceLT, Nat.reduceMul, Nat.reduceSub, Nat.reduceLeDiff, Int.reduceLT, Int.reduceLE, Int.reduceEq, Option.isSome_some, implies_true, false_implies, Prod.mk.injEq, ne_eq, not_false_eq_true, not_true_eq_false, ge_iff_le, gt_iff_lt, Int.toNat_natCast, Int.reduceToNat, Int.cast_ofNat_Int, Int.natCast_nonneg, Int.lt_irrefl, Try.results32]
    exact fin_true rfl
theorem markLists_nil (m : Nat) : ACalls Try.prog 33 [.ref .nils, .i .i64 m] [] (fun v ms ns => v = .i .i64 m ∧ ms = [] ∧ ns = []) := by
  refine acalls_of_body mix Try.func33 rfl fok33 (Nat.le_of_ble_eq_true rfl) ?_
  unfold abody
  simp only [absE, absL, absF, reduceCtorEq, ↓reduceIte, Nat.reduceEqDiff, Nat.reduceAdd, Nat.reduceLT, Nat.reduceMul, Nat.reduceSub, Nat.reduceLeDiff, Int.reduceLT, Int.reduceLE, Int.reduceEq, Option.isSome_some, implies_true, false_implies, Prod.mk.injEq, ne_eq, not_false_eq_true, not_true_eq_false, ge_iff_le, gt_iff_lt, Int.toNat_natCast, Int.reduceToNat, Int.cast_ofNat_Int, Int.natCast_nonneg, Try.f33]
  refine awpLoop.intro (fun i : Nat => [(0, .ref .nils), (1, .i .i64 m), (5, .i .i64 i)]) (fun i => ⟨[], [], 3⟩) (fun i => i = 0) (fun i => 0) 0 rfl ⟨[], rfl, ?_, ?_⟩ ?_
  · simp [wkEnv, lk, renV, renAt, renTo]
  · simp [wkMem, wkLoc, Mem.get, assoc, renBlk, renSegs, renSg, renTo]
  · rintro i rfl
    simp only [absE, absL, absF, reduceCtorEq, ↓reduceIte, Nat.reduceEqDiff, Nat.reduceAdd, Nat.reduceLT, Nat.reduceMul, Nat.reduceSub, Nat.reduceLeDiff, Int.reduceLT, Int.reduceLE, Int.reduceEq, Option.isSome_some, implies_true, false_implies, Prod.mk.injEq, ne_eq, not_false_eq_true, not_true_eq_false, ge_iff_le, gt_iff_lt, Int.toNat_natCast, Int.reduceToNat, Int.cast_ofNat_Int, Int.natCast_nonneg, Int.lt_irrefl, Try.results33]
    exact ⟨[], by simp, by simp, by simp [renV, renVs, renSegs, renSg]⟩
theorem heldLists_nil (m : Nat) : ACalls Try.prog 34 [.ref .nils, .i .i64 m] [] (fun v ms ns => v = .i .i64 m ∧ ms = [] ∧ ns = []) := by
  refine acalls_of_body mix Try.func34 rfl fok34 (Nat.le_of_ble_eq_true rfl) ?_
  unfold abody
  simp only [absE, absL, absF, reduceCtorEq, ↓reduceIte, Nat.reduceEqDiff, Nat.reduceAdd, Nat.reduceLT, Nat.reduceMul, Nat.reduceSub, Nat.reduceLeDiff, Int.reduceLT, Int.reduceLE, Int.reduceEq, Option.isSome_some, implies_true, false_implies, Prod.mk.injEq, ne_eq, not_false_eq_true, not_true_eq_false, ge_iff_le, gt_iff_lt, Int.toNat_natCast, Int.reduceToNat, Int.cast_ofNat_Int, Int.natCast_nonneg, Try.f34]
  refine awpLoop.intro (fun i : Nat => [(0, .ref .nils), (1, .i .i64 m), (5, .i .i64 i)]) (fun i => ⟨[], [], 3⟩) (fun i => i = 0) (fun i => 0) 0 rfl ⟨[], rfl, ?_, ?_⟩ ?_
  · simp [wkEnv, lk, renV, renAt, renTo]
  · simp [wkMem, wkLoc, Mem.get, assoc, renBlk, renSegs, renSg, renTo]
  · rintro i rfl
    simp only [absE, absL, absF, reduceCtorEq, ↓reduceIte, Nat.reduceEqDiff, Nat.reduceAdd, Nat.reduceLT, Nat.reduceMul, Nat.reduceSub, Nat.reduceLeDiff, Int.reduceLT, Int.reduceLE, Int.reduceEq, Option.isSome_some, implies_true, false_implies, Prod.mk.injEq, ne_eq, not_false_eq_true, not_true_eq_false, ge_iff_le, gt_iff_lt, Int.toNat_natCast, Int.reduceToNat, Int.cast_ofNat_Int, Int.natCast_nonneg, Int.lt_irrefl, Try.results34]
    exact ⟨[], by simp, by simp, by simp [renV, renVs, renSegs, renSg]⟩
/-- Two lists of lists. -/
def ms2 (LL : LLs) : List Blk := ob 0 2 LL :: ob 0 (2 + LL.length) LL :: (inn LL ++ inn LL)
theorem ob_zero {σ : Ren} (hs : ∀ k, σ 0 k = some (0, k)) {k : Nat} {LL : LLs} : renBlk σ (ob 0 k LL) = ob 0 k LL := ob_ren fun i _ => by rw [hs]
theorem ms2_ren {σ : Ren} (hs : ∀ k, σ 0 k = some (0, k)) {LL : LLs} : (ms2 LL).map (renBlk σ) = ms2 LL := by
  simp only [ms2, List.map_cons, List.map_append, ob_zero hs, inn_ren]
theorem ms2_a {LL : LLs} {i : Nat} (h : i < LL.length) : (ms2 LL).getD (2 + i) .dead = ib (at_ LL i) := by
  rw [ms2, show 2 + i = i + 1 + 1 by omega, List.getD_cons_succ, List.getD_cons_succ, List.getD_eq_getElem?_getD, List.getElem?_append_left (by rw [inn_len]; exact h)]
  rw [← List.getD_eq_getElem?_getD, inn_get h]
theorem ms2_b {LL : LLs} {i : Nat} (h : i < LL.length) : (ms2 LL).getD (2 + LL.length + i) .dead = ib (at_ LL i) := by
  rw [ms2, show 2 + LL.length + i = LL.length + i + 1 + 1 by omega, List.getD_cons_succ, List.getD_cons_succ, List.getD_eq_getElem?_getD, List.getElem?_append_right (by rw [inn_len]; omega)]
  rw [inn_len, Nat.add_sub_cancel_left, ← List.getD_eq_getElem?_getD, inn_get h]
theorem put_ib {m : Mem} {j : Nat} {B : Blk} (h : m.get 0 j = B) : m.upd [((0, j), B)] = m := put_same h
theorem eqLists_ok (LL : LLs) (hl : ∀ i, i < LL.length → (at_ LL i).length < 2 ^ 40) (hm : LL.length < 2 ^ 40) :
    ACalls Try.prog 32 [.ref (.sl 0 0 0 0 LL.length 1), .ref (.sl 0 1 0 0 LL.length 1)] (ms2 LL) (fun v ms ns => v = .b true ∧ ms = ms2 LL ∧ ns = []) := by
  have g0 : (ms2 LL).getD 0 .dead = .lv true [(0, .cells LL.length (outs 0 2 LL))] := rfl
  have g1 : (ms2 LL).getD 1 .dead = .lv true [(0, .cells LL.length (outs 0 (2 + LL.length) LL))] := rfl
  refine acalls_of_body mix Try.func32 rfl fok32 (Nat.le_of_ble_eq_true rfl) ?_
  unfold abody
  simp only [absE, absL, absF, reduceCtorEq, ↓reduceIte, Nat.reduceEqDiff, Nat.reduceAdd, Nat.reduceLT, Nat.reduceMul, Nat.reduceSub, Nat.reduceLeDiff, Int.reduceLT, Int.reduceLE, Int.reduceEq, Option.isSome_some, implies_true, false_implies, Prod.mk.injEq, ne_eq, not_false_eq_true, not_true_eq_false, ge_iff_le, gt_iff_lt, Int.toNat_natCast, Int.reduceToNat, Int.cast_ofNat_Int, Int.natCast_nonneg, Try.f32]
  refine awpLoop.intro (fun i : Nat => [(0, .ref (.sl 0 0 0 0 LL.length 1)), (1, .ref (.sl 0 1 0 0 LL.length 1)), (5, .i .i64 i)]) (fun i => ⟨ms2 LL, [], 8⟩)
    (fun i => i ≤ LL.length) (fun i => LL.length - i) 0 (by omega) ⟨[], rfl, ?_, ?_⟩ ?_
  · simp [wkEnv, lk, renV, renAt, renTo]
  · exact congrArg (fun x => Mem.mk x [] 8) (ms2_ren renTo_zero).symm
  · intro i hi
    by_cases h : (i : Int) < LL.length
    · have w := wrap_i64s (show i < 2 ^ 62 by omega)
      have hin : i < LL.length := by omega
      have v1 : 0 + i * 1 < LL.length := by omega
      have e1 : (outs 0 2 LL).getD (0 + i * 1) .top = .sl 0 (2 + i) 0 0 (at_ LL i).length 1 := by rw [Nat.zero_add, Nat.mul_one]; exact outs_get hin
      have e2 : (outs 0 (2 + LL.length) LL).getD (0 + i * 1) .top = .sl 0 (2 + LL.length + i) 0 0 (at_ LL i).length 1 := by rw [Nat.zero_add, Nat.mul_one]; exact outs_get hin
      have q1 := ms2_a hin
      have q2 := ms2_b hin
      have hne : ¬ LL = [] := by rintro rfl; simp at hin
      simp only [absE, absL, absF, reduceCtorEq, ↓reduceIte, Nat.reduceEqDiff, Nat.reduceAdd, Nat.reduceLT, Nat.reduceMul, Nat.reduceSub, Nat.reduceLeDiff, Int.reduceLT, Int.reduceLE, Int.reduceEq, Option.isSome_some, implies_true, false_implies, Prod.mk.injEq, ne_eq, not_false_eq_true, not_true_eq_false, ge_iff_le, gt_iff_lt, Int.toNat_natCast, Int.reduceToNat, Int.cast_ofNat_Int, Int.natCast_nonneg, h, v1, e1, e2, g0, g1]
      refine CallsX.args [(0, 2 + i), (0, 2 + LL.length + i)] (eqInts_ok (at_ LL i).length (at_ LL i) rfl (hl i hin)) (by simp [hne]) ?_ ?_ ?_ ?_
      · intro p hp
        simp at hp
        rcases hp with rfl | rfl
        · show (ms2 LL).getD _ .dead ≠ .dead; rw [q1]; simp [ib]
        · show (ms2 LL).getD _ .dead ≠ .dead; rw [q2]; simp [ib]
      · simp [renVs, renV, renAt, renIn, idx, hne]
      · show [renBlk _ ((ms2 LL).getD (2 + i) .dead), renBlk _ ((ms2 LL).getD (2 + LL.length + i) .dead)] = _
        rw [q1, q2]; rfl
      · have u : ∀ n, Mem.upd ⟨ms2 LL, [], n⟩ [((0, 2 + i), ib (at_ LL i)), ((0, 2 + LL.length + i), ib (at_ LL i))] = ⟨ms2 LL, [], n⟩ := fun n => by
          show ((Mem.mk (ms2 LL) [] n).put (0, 2 + i) (ib (at_ LL i))).put (0, 2 + LL.length + i) (ib (at_ LL i)) = _
          rw [put_same (m := ⟨ms2 LL, [], n⟩) q1, put_same (m := ⟨ms2 LL, [], n⟩) q2]
        simp only [ib] at u
        simp only [zipUps, newUps, List.append_nil, renBlk, renSegs, renSg, u]
        simp only [absE, absL, absF, reduceCtorEq, ↓reduceIte, Nat.reduceEqDiff, Nat.reduceAdd, Nat.reduceLT, Nat.reduceMul, Nat.reduceSub, Nat.reduceLeDiff, Int.reduceLT, Int.reduceLE, Int.reduceEq, Option.isSome_some, implies_true, false_implies, Prod.mk.injEq, ne_eq, not_false_eq_true, not_true_eq_false, ge_iff_le, gt_iff_lt, Int.toNat_natCast, Int.reduceToNat, Int.cast_ofNat_Int, Int.natCast_nonneg]
        refine ⟨by simp [chk, disj]; omega, ?_⟩
        refine LoopNext.intro (i + 1) (by omega) (by omega) ⟨[], rfl, ?_, ?_⟩
        · simp [wkEnv, lk, renV, renAt, renTo, w]
        · exact congrArg (fun x => Mem.mk x [] 8) (ms2_ren renTo_zero).symm
    · obtain rfl : i = LL.length := by omega
      simp only [absE, absL, absF, reduceCtorEq, ↓reduceIte, Nat.reduceEqDiff, Nat.reduceAdd, Nat.reduceLT, Nat.reduceMul, Nat.reduceSub, Nat.reduceLeDiff, Int.reduceLT, Int.reduceLE, Int.reduceEq, Option.isSome_some, implies_true, false_implies, Prod.mk.injEq, ne_eq, not_false_eq_true, not_true_eq_false, ge_iff_le, gt_iff_lt, Int.toNat_natCast, Int.reduceToNat, Int.cast_ofNat_Int, Int.natCast_nonneg, h, Try.results32]
      exact ⟨[], by simp, by simp, by simp [renV], ms2_ren renFin_zero, by simp⟩

end Go.Proofs.Ytcaadjjgggjefaa
