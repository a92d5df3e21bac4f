/-
Contracts of functions of the given program, by the abstract walk.
-/
import Derived.Test.YtcaadjjgggjefaaAbsY
import Derived.Test.YtcaadjjgggjefaaJc
namespace Go.Proofs.Ytcaadjjgggjefaa
open Go Go.Abs
set_option linter.unusedVariables false
set_option linter.unusedSectionVars false
set_option linter.unusedSimpArgs false
set_option maxRecDepth 100000
def preLen (LL : LLs) : Nat → Nat
  | 0 => 0
  | i + 1 => preLen LL i + (at_ LL i).length
theorem preLen_le {LL : LLs} {i j : Nat} (h : i ≤ j) : preLen LL i ≤ preLen LL j := by
  induction j with
  | zero => rw [show i = 0 by omega]; exact Nat.le_refl _
  | succ j ih =>
    by_cases e : i = j + 1
    · rw [e]; exact Nat.le_refl _
    · have := ih (by omega); rw [preLen]; omega
theorem preLen_at {LL : LLs} {i : Nat} (h : i < LL.length) : preLen LL i + (at_ LL i).length ≤ preLen LL LL.length := by
  have := preLen_le (LL := LL) (show i + 1 ≤ LL.length by omega); rwa [preLen] at this
/-- The marks m, m + 1, .. in lists as long as those of LL. -/
def mkLL (m : Nat) (LL : LLs) : LLs := (List.range LL.length).map fun i => marksL (m + preLen LL i) (at_ LL i).length
theorem mkLL_len {m : Nat} {LL : LLs} : (mkLL m LL).length = LL.length := by simp [mkLL]
theorem mkLL_at {m i : Nat} {LL : LLs} (h : i < LL.length) : at_ (mkLL m LL) i = marksL (m + preLen LL i) (at_ LL i).length := by
  rw [at_lt (by rw [mkLL_len]; exact h)]; simp [mkLL]
def mixL (A B : LLs) (i : Nat) : LLs := (List.range B.length).map fun j => if j < i then at_ A j else at_ B j
theorem mixL_len {A B : LLs} {i : Nat} : (mixL A B i).length = B.length := by simp [mixL]
theorem mixL_at {A B : LLs} {i j : Nat} (h : j < B.length) : at_ (mixL A B i) j = if j < i then at_ A j else at_ B j := by
  rw [at_lt (by rw [mixL_len]; exact h)]; simp [mixL]
theorem mixL_zero {A B : LLs} : mixL A B 0 = B := lls_ext mixL_len fun i hi => by rw [mixL_at (by rwa [mixL_len] at hi), if_neg (by omega)]
theorem mixL_all {A B : LLs} (h : A.length = B.length) : mixL A B B.length = A := lls_ext (by rw [mixL_len, h]) fun i hi => by rw [mixL_len] at hi; rw [mixL_at hi, if_pos hi]
theorem mixL_set {A B : LLs} {i : Nat} (h : i < B.length) : (mixL A B i).set i (at_ A i) = mixL A B (i + 1) := lls_ext (by simp [mixL_len]) fun j hj => by
  rw [List.length_set, mixL_len] at hj
  rw [at_set (by rw [mixL_len]; exact h), mixL_at hj, mixL_at hj]
  by_cases e : i = j
  · subst e; rw [if_pos rfl, if_pos (by omega)]
  · rw [if_neg e]
    by_cases e2 : j < i
    · rw [if_pos e2, if_pos (by omega)]
    · rw [if_neg e2, if_neg (by omega)]
/-- One list of lists. -/
def ms1 (LL : LLs) : List Blk := ob 0 1 LL :: inn LL
theorem ms1_ren {σ : Ren} (hs : ∀ k, σ 0 k = some (0, k)) {LL : LLs} : (ms1 LL).map (renBlk σ) = ms1 LL := by
  simp only [ms1, List.map_cons, ob_zero hs, inn_ren]
theorem ms1_at {LL : LLs} {i : Nat} (h : i < LL.length) : (ms1 LL).getD (1 + i) .dead = ib (at_ LL i) := by
  rw [ms1, show 1 + i = i + 1 by omega, List.getD_cons_succ, inn_get h]
theorem ms1_set {LL : LLs} {i : Nat} {xs : List Int} (h : i < LL.length) (hx : xs.length = (at_ LL i).length) : (ms1 LL).set (1 + i) (ib xs) = ms1 (LL.set i xs) := by
  have e : ob 0 1 LL = ob 0 1 (LL.set i xs) := by
    unfold ob
    rw [List.length_set, outs_same (LL' := LL.set i xs) (by simp) fun j hj => by rw [at_set h]; split <;> simp_all]
  rw [ms1, show 1 + i = i + 1 by omega, List.set_cons_succ, inn_set h, e]; rfl
theorem ms1_0 {LL : LLs} : (ms1 LL).getD 0 .dead = .lv true [(0, .cells LL.length (outs 0 1 LL))] := rfl
theorem heldLists_ok (LL : LLs) (m : Nat) (hm : m + preLen LL LL.length < 2 ^ 40) (hl : LL.length < 2 ^ 40) :
    ACalls Try.prog 34 [.ref (.sl 0 0 0 0 LL.length 1), .i .i64 m] (ms1 (mkLL m LL)) (fun v ms ns => v = .i .i64 ((m + preLen LL LL.length : Nat) : Int) ∧ ms = ms1 (mkLL m LL) ∧ ns = []) := by
  have g0 := ms1_0 (LL := mkLL m LL)
  refine acalls_of_body mix Try.func34 rfl fok34 (Nat.le_of_ble_eq_true rfl) ?_
  unfold abody
  simp only [absE, absL, absF, reduceCtorEq, ↓reduceIte, Nat.reduceEqDiff, Nat.reduceAdd, Nat.reduceLT, Nat.reduceMul, Nat.reduceSub, Nat.reduceLeDiff, Int.reduceLT, Int.reduceLE, Int.reduceEq, Option.isSome_some, implies_true, false_implies, Prod.mk.injEq, ne_eq, not_false_eq_true, not_true_eq_false, ge_iff_le, gt_iff_lt, Int.toNat_natCast, Int.reduceToNat, Int.cast_ofNat_Int, Int.natCast_nonneg, Try.f34]
  refine awpLoop.intro (fun i : Nat => [(0, .ref (.sl 0 0 0 0 LL.length 1)), (1, .i .i64 (m + preLen LL i : Nat)), (5, .i .i64 i)]) (fun i => ⟨ms1 (mkLL m LL), [], 3⟩)
    (fun i => i ≤ LL.length) (fun i => LL.length - i) 0 (by omega) ⟨[], rfl, ?_, ?_⟩ ?_
  · simp [wkEnv, lk, renV, renAt, renTo, preLen]
  · exact congrArg (fun x => Mem.mk x [] 3) (ms1_ren renTo_zero).symm
  · intro i hi
    by_cases h : (i : Int) < LL.length
    · have w := wrap_i64s (show i < 2 ^ 62 by omega)
      have hin : i < LL.length := by omega
      have v1 : 0 + i * 1 < (mkLL m LL).length := by rw [mkLL_len]; omega
      have hp := preLen_at hin
      have e0 : (at_ (mkLL m LL) i).length = (at_ LL i).length := by rw [mkLL_at hin, marksL_len]
      have e1 : (outs 0 1 (mkLL m LL)).getD (0 + i * 1) .top = .sl 0 (1 + i) 0 0 (at_ LL i).length 1 := by rw [Nat.zero_add, Nat.mul_one, outs_get (by rw [mkLL_len]; exact hin), e0]
      have q1 := ms1_at (LL := mkLL m LL) (i := i) (by rw [mkLL_len]; exact hin)
      have hne : ¬ ((m + preLen LL (i + 1) : Nat) : Int) < 0 := by omega
      have he : m + preLen LL i + (at_ LL i).length = m + preLen LL (i + 1) := by rw [preLen]; omega
      simp only [absE, absL, absF, reduceCtorEq, ↓reduceIte, Nat.reduceEqDiff, Nat.reduceAdd, Nat.reduceLT, Nat.reduceMul, Nat.reduceSub, Nat.reduceLeDiff, Int.reduceLT, Int.reduceLE, Int.reduceEq, Option.isSome_some, implies_true, false_implies, Prod.mk.injEq, ne_eq, not_false_eq_true, not_true_eq_false, ge_iff_le, gt_iff_lt, Int.toNat_natCast, Int.reduceToNat, Int.cast_ofNat_Int, Int.natCast_nonneg, h, v1, e1, g0]
      refine CallsVia.args [(0, 1 + i)] (heldInts_ok (at_ LL i).length (m + preLen LL i) (by omega) (by omega)) (by simp) ?_ ?_ ?_ ?_
      · intro p hp
        simp at hp
        rcases hp with rfl
        show (ms1 _).getD _ .dead ≠ .dead; rw [q1]; simp [ib]
      · simp [renVs, renV, renAt, renIn, idx]
      · show [renBlk _ ((ms1 (mkLL m LL)).getD (1 + i) .dead)] = _
        rw [q1, mkLL_at hin, ib, marksL_len]; rfl
      · rintro _ _ _ ⟨rfl, rfl, rfl⟩
        have u : ∀ n, Mem.upd ⟨ms1 (mkLL m LL), [], n⟩ [((0, 1 + i), .lv true [(0, .ints .i64 (at_ LL i).length (marksL (m + preLen LL i) (at_ LL i).length))])] = ⟨ms1 (mkLL m LL), [], n⟩ := fun n => by
          refine put_same (m := ⟨ms1 (mkLL m LL), [], n⟩) ?_
          show (ms1 (mkLL m LL)).getD (1 + i) .dead = _
          rw [q1, mkLL_at hin, ib, marksL_len]
        simp only [zipUps, newUps, List.append_nil, renBlk, renSegs, renSg, u]
        simp only [absE, absL, absF, reduceCtorEq, ↓reduceIte, Nat.reduceEqDiff, Nat.reduceAdd, Nat.reduceLT, Nat.reduceMul, Nat.reduceSub, Nat.reduceLeDiff, Int.reduceLT, Int.reduceLE, Int.reduceEq, Option.isSome_some, implies_true, false_implies, Prod.mk.injEq, ne_eq, not_false_eq_true, not_true_eq_false, ge_iff_le, gt_iff_lt, Int.toNat_natCast, Int.reduceToNat, Int.cast_ofNat_Int, Int.natCast_nonneg, he, hne]
        refine LoopNext.intro (i + 1) (by omega) (by omega) ⟨[], rfl, ?_, ?_⟩
        · simp [wkEnv, lk, renV, renAt, renTo, w]
        · exact congrArg (fun x => Mem.mk x [] 3) (ms1_ren renTo_zero).symm
    · obtain rfl : i = LL.length := by omega
      simp only [absE, absL, absF, reduceCtorEq, ↓reduceIte, Nat.reduceEqDiff, Nat.reduceAdd, Nat.reduceLT, Nat.reduceMul, Nat.reduceSub, Nat.reduceLeDiff, Int.reduceLT, Int.reduceLE, Int.reduceEq, Option.isSome_some, implies_true, false_implies, Prod.mk.injEq, ne_eq, not_false_eq_true, not_true_eq_false, ge_iff_le, gt_iff_lt, Int.toNat_natCast, Int.reduceToNat, Int.cast_ofNat_Int, Int.natCast_nonneg, h, Try.results34]
      exact ⟨[], by simp, by simp, by simp [renV], ms1_ren renFin_zero, by simp⟩
theorem markLists_ok (LL : LLs) (m : Nat) (hm : m + preLen LL LL.length < 2 ^ 40) (hl : LL.length < 2 ^ 40) :
    ACalls Try.prog 33 [.ref (.sl 0 0 0 0 LL.length 1), .i .i64 m] (ms1 LL) (fun v ms ns => v = .i .i64 ((m + preLen LL LL.length : Nat) : Int) ∧ ms = ms1 (mkLL m LL) ∧ ns = []) := by
  have g0 := fun i => ms1_0 (LL := mixL (mkLL m LL) LL i)
  refine acalls_of_body mix Try.func33 rfl fok33 (Nat.le_of_ble_eq_true rfl) ?_
  unfold abody
  simp only [absE, absL, absF, reduceCtorEq, ↓reduceIte, Nat.reduceEqDiff, Nat.reduceAdd, Nat.reduceLT, Nat.reduceMul, Nat.reduceSub, Nat.reduceLeDiff, Int.reduceLT, Int.reduceLE, Int.reduceEq, Option.isSome_some, implies_true, false_implies, Prod.mk.injEq, ne_eq, not_false_eq_true, not_true_eq_false, ge_iff_le, gt_iff_lt, Int.toNat_natCast, Int.reduceToNat, Int.cast_ofNat_Int, Int.natCast_nonneg, Try.f33]
  refine awpLoop.intro (fun i : Nat => [(0, .ref (.sl 0 0 0 0 LL.length 1)), (1, .i .i64 (m + preLen LL i : Nat)), (5, .i .i64 i)]) (fun i => ⟨ms1 (mixL (mkLL m LL) LL i), [], 3⟩)
    (fun i => i ≤ LL.length) (fun i => LL.length - i) 0 (by omega) ⟨[], rfl, ?_, ?_⟩ ?_
  · simp [wkEnv, lk, renV, renAt, renTo, preLen]
  · rw [mixL_zero]; exact congrArg (fun x => Mem.mk x [] 3) (ms1_ren renTo_zero).symm
  · intro i hi
    by_cases h : (i : Int) < LL.length
    · have w := wrap_i64s (show i < 2 ^ 62 by omega)
      have hin : i < LL.length := by omega
      have v1 : 0 + i * 1 < (mixL (mkLL m LL) LL i).length := by rw [mixL_len]; omega
      have hp := preLen_at hin
      have a0 : at_ (mixL (mkLL m LL) LL i) i = at_ LL i := by rw [mixL_at hin, if_neg (by omega)]
      have e1 : (outs 0 1 (mixL (mkLL m LL) LL i)).getD (0 + i * 1) .top = .sl 0 (1 + i) 0 0 (at_ LL i).length 1 := by rw [Nat.zero_add, Nat.mul_one, outs_get (by rw [mixL_len]; exact hin), a0]
      have q1 := ms1_at (LL := mixL (mkLL m LL) LL i) (i := i) (by rw [mixL_len]; exact hin)
      have he : m + preLen LL i + (at_ LL i).length = m + preLen LL (i + 1) := by rw [preLen]; omega
      rw [a0] at q1
      simp only [absE, absL, absF, reduceCtorEq, ↓reduceIte, Nat.reduceEqDiff, Nat.reduceAdd, Nat.reduceLT, Nat.reduceMul, Nat.reduceSub, Nat.reduceLeDiff, Int.reduceLT, Int.reduceLE, Int.reduceEq, Option.isSome_some, implies_true, false_implies, Prod.mk.injEq, ne_eq, not_false_eq_true, not_true_eq_false, ge_iff_le, gt_iff_lt, Int.toNat_natCast, Int.reduceToNat, Int.cast_ofNat_Int, Int.natCast_nonneg, h, v1, e1, g0]
      refine CallsVia.args [(0, 1 + i)] (markInts_ok (at_ LL i).length (m + preLen LL i) (at_ LL i) rfl (by omega) (by omega)) (by simp) ?_ ?_ ?_ ?_
      · intro p hp
        simp at hp
        rcases hp with rfl
        show (ms1 _).getD _ .dead ≠ .dead; rw [q1]; simp [ib]
      · simp [renVs, renV, renAt, renIn, idx]
      · show [renBlk _ ((ms1 (mixL (mkLL m LL) LL i)).getD (1 + i) .dead)] = _
        rw [q1]; rfl
      · rintro _ _ _ ⟨rfl, rfl, rfl⟩
        have e2 : (ms1 (mixL (mkLL m LL) LL i)).set (1 + i) (.lv true [(0, .ints .i64 (at_ LL i).length (marksL (m + preLen LL i) (at_ LL i).length))]) = ms1 (mixL (mkLL m LL) LL (i + 1)) := by
          rw [← mixL_set hin, ← ms1_set (by rw [mixL_len]; exact hin) (by rw [a0, mkLL_at hin, marksL_len]), mkLL_at hin, ib, marksL_len]
        have u : ∀ n, Mem.upd ⟨ms1 (mixL (mkLL m LL) LL i), [], n⟩ [((0, 1 + i), .lv true [(0, .ints .i64 (at_ LL i).length (marksL (m + preLen LL i) (at_ LL i).length))])] = ⟨ms1 (mixL (mkLL m LL) LL (i + 1)), [], n⟩ := fun n => by
          rw [← e2]; rfl
        simp only [zipUps, newUps, List.append_nil, renBlk, renSegs, renSg, u]
        simp only [absE, absL, absF, reduceCtorEq, ↓reduceIte, Nat.reduceEqDiff, Nat.reduceAdd, Nat.reduceLT, Nat.reduceMul, Nat.reduceSub, Nat.reduceLeDiff, Int.reduceLT, Int.reduceLE, Int.reduceEq, Option.isSome_some, implies_true, false_implies, Prod.mk.injEq, ne_eq, not_false_eq_true, not_true_eq_false, ge_iff_le, gt_iff_lt, Int.toNat_natCast, Int.reduceToNat, Int.cast_ofNat_Int, Int.natCast_nonneg, he]
        refine LoopNext.intro (i + 1) (by omega) (by omega) ⟨[], rfl, ?_, ?_⟩
        · simp [wkEnv, lk, renV, renAt, renTo, w]
        · exact congrArg (fun x => Mem.mk x [] 3) (ms1_ren renTo_zero).symm
    · obtain rfl : i = LL.length := by omega
      simp only [absE, absL, absF, reduceCtorEq, ↓reduceIte, Nat.reduceEqDiff, Nat.reduceAdd, Nat.reduceLT, Nat.reduceMul, Nat.reduceSub, Nat.reduceLeDiff, Int.reduceLT, Int.reduceLE, Int.reduceEq, Option.isSome_some, implies_true, false_implies, Prod.mk.injEq, ne_eq, not_false_eq_true, not_true_eq_false, ge_iff_le, gt_iff_lt, Int.toNat_natCast, Int.reduceToNat, Int.cast_ofNat_Int, Int.natCast_nonneg, h, Try.results33]
      refine ⟨[], by simp, by simp, by simp [renV], ?_, by simp⟩
      rw [mixL_all mkLL_len]; exact ms1_ren renFin_zero

end Go.Proofs.Ytcaadjjgggjefaa
