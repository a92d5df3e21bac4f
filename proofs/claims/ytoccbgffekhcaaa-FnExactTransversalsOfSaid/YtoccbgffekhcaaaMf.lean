/-
Contracts of functions of the given program, by the abstract walk.
-/
import Derived.Test.YtoccbgffekhcaaaAbsY
import Derived.Test.YtoccbgffekhcaaaMe
namespace Go.Proofs.Ytoccbgffekhcaaa
open Go Go.Abs
set_option linter.unusedVariables false
set_option linter.unusedSectionVars false
set_option linter.unusedSimpArgs false
set_option maxRecDepth 100000
def p00 : List Int := List.replicate 10 0
def b00 : List Bool := List.replicate 10 false
def trL (N : Nat) (t : List Int) (most : Nat) : List (List Int) := srA N (cl t) (ltB most) N p00 b00 b00 []
theorem p00_ok {N : Nat} : PlOk N p00 := ⟨by simp [p00], fun z => by unfold p00; rw [getD_rep0]; omega⟩
theorem b00_ok : BitL 0 b00 := ⟨by decide, by simp [b00], fun z hz => by
  rw [Nat.zero_testBit]
  exact ((by decide : ∀ z, z < 10 → b00.getD z false = false) z hz).symm⟩
theorem nilPl {N : Nat} : AllPl N [] := fun _ h => absurd h (by simp)
theorem transversals_ok (N : Nat) (t : List Int) (most : Nat) (ht : Bytes 100 t) (hs : SqP N t) (hm : most ≤ 400) (h0 : 0 < most) :
    ACalls Try.prog 102 [.agg (sqS N t), .ref (.fn 103 [(0, 0, 0, 0), (0, 1, 0, 0)])] [ceB (.sl 0 2 0 0 0 10), moB most, plB []]
      (fun v ms ns => (ms = [ceB (.sl 0 2 0 0 0 10), moB most, plB []] ∧ ns = [] ∧ trL N t most = []) ∨ (ms = [ceB (.sl 1 0 0 0 (trL N t most).length 10), moB most, .dead] ∧ ns = [plB (trL N t most)])) := by
  have hN := hs.le
  have hf := fill_ok N t most ht hs hm N (Nat.le_refl N) p00 b00 b00 0 0 [] p00_ok (fun z _ => by unfold p00; rw [getD_rep0]) b00_ok b00_ok h0 nilPl
  rw [Nat.sub_self] at hf
  change ACalls _ _ _ _ (fun v ms ns => FRes N t p00 most [] (trL N t most) v ms ns) at hf
  have hpl : plB [] = .lv true [(0, .ints .u8 0 [])] := rfl
  unfold ceB moB
  rw [hpl]
  refine acalls_of_body mix Try.func102 rfl fok102 (Nat.le_of_ble_eq_true rfl) ?_
  unfold abody
  simp only [absE, absL, absF, reduceCtorEq, ↓reduceIte, Nat.reduceEqDiff, Nat.reduceAdd, Nat.reduceLT, Nat.reduceMul, Nat.reduceSub, Nat.reduceLeDiff, Int.reduceLT, Int.reduceLE, Int.reduceEq, Option.isSome_some, implies_true, false_implies, Prod.mk.injEq, ne_eq, not_false_eq_true, not_true_eq_false, ge_iff_le, gt_iff_lt, Int.toNat_natCast, Int.reduceToNat, Int.cast_ofNat_Int, Int.natCast_nonneg, Try.f102]
  refine CallsVia.args [(1, 0), (2, 0), (4, 0), (6, 0), (0, 0), (0, 1), (0, 2)] hf (by simp) (by simp [Mem.get, assoc]) rfl rfl ?_
  rintro v ms ns ⟨p', hp', _, rfl, ⟨hsame, rfl, rfl⟩ | ⟨rfl, rfl⟩⟩
  · simp only [absE, absL, absF, reduceCtorEq, ↓reduceIte, Nat.reduceEqDiff, Nat.reduceAdd, Nat.reduceLT, Nat.reduceMul, Nat.reduceSub, Nat.reduceLeDiff, Int.reduceLT, Int.reduceLE, Int.reduceEq, Option.isSome_some, implies_true, false_implies, Prod.mk.injEq, ne_eq, not_false_eq_true, not_true_eq_false, ge_iff_le, gt_iff_lt, Int.toNat_natCast, Int.reduceToNat, Int.cast_ofNat_Int, Int.natCast_nonneg, fArgs, ceB, moB, plB, Try.results102]
    exact ⟨[], by simp, by simp, .inl ⟨by simp [renBlk, renSegs, renSg, renAt, renOut, renCaps, renFin, idx], by simp, hsame⟩⟩
  · simp only [absE, absL, absF, reduceCtorEq, ↓reduceIte, Nat.reduceEqDiff, Nat.reduceAdd, Nat.reduceLT, Nat.reduceMul, Nat.reduceSub, Nat.reduceLeDiff, Int.reduceLT, Int.reduceLE, Int.reduceEq, Option.isSome_some, implies_true, false_implies, Prod.mk.injEq, ne_eq, not_false_eq_true, not_true_eq_false, ge_iff_le, gt_iff_lt, Int.toNat_natCast, Int.reduceToNat, Int.cast_ofNat_Int, Int.natCast_nonneg, fArgs, ceB, moB, plB, Try.results102]
    exact ⟨[(10, 0)], by simp, by simp, .inr ⟨by simp [renBlk, renSegs, renSg, renAt, renOut, renCaps, renFin, idx], by simp [plB, renBlk, renSegs, renSg, Mem.get, assoc]⟩⟩
noncomputable def trcode (n : Int) (t : List Int) (k : Int) : Int := if sqB n t then (if 1 ≤ k ∧ k ≤ 400 then 0 else 2) else 1
noncomputable def trR (n : Int) (t : List Int) (k : Int) : List (List Int) := trL n.toNat t k.toNat
theorem trcode_zero {n : Int} {t : List Int} {k : Int} (h : trcode n t k = 0) : SqP n t ∧ 1 ≤ k ∧ k ≤ 400 := by
  unfold trcode at h
  split at h
  · rename_i h1
    split at h
    · rename_i h2; exact ⟨sqB_iff.1 h1, h2⟩
    · omega
  · omega
theorem implTr_no (n : Int) (t : List Int) (k : Int) (ht : Bytes 100 t) (h : trcode n t k ≠ 0) : ACalls Try.prog 49 [.agg (sqS n t), .i .i64 k] [] (fun v ms ns => v = .tup [.ref .nils, .i .i64 (trcode n t k)] ∧ ms = [] ∧ ns = []) := by
  refine acalls_of_body mix Try.func49 rfl fok49 (Nat.le_of_ble_eq_true rfl) ?_
  unfold abody
  simp only [absE, absL, absF, reduceCtorEq, ↓reduceIte, Nat.reduceEqDiff, Nat.reduceAdd, Nat.reduceLT, Nat.reduceMul, Nat.reduceSub, Nat.reduceLeDiff, Int.reduceLT, Int.reduceLE, Int.reduceEq, Option.isSome_some, implies_true, false_implies, Prod.mk.injEq, ne_eq, not_false_eq_true, not_true_eq_false, ge_iff_le, gt_iff_lt, Int.toNat_natCast, Int.reduceToNat, Int.cast_ofNat_Int, Int.natCast_nonneg, Try.f49]
  refine CallsVia.none (isSquare_ok n t ht) ?_
  rintro _ _ _ ⟨rfl, rfl, rfl⟩
  cases h1 : sqB n t
  · simp only [absE, absL, absF, reduceCtorEq, ↓reduceIte, Nat.reduceEqDiff, Nat.reduceAdd, Nat.reduceLT, Nat.reduceMul, Nat.reduceSub, Nat.reduceLeDiff, Int.reduceLT, Int.reduceLE, Int.reduceEq, Option.isSome_some, implies_true, false_implies, Prod.mk.injEq, ne_eq, not_false_eq_true, not_true_eq_false, ge_iff_le, gt_iff_lt, Int.toNat_natCast, Int.reduceToNat, Int.cast_ofNat_Int, Int.natCast_nonneg, Try.results49]
    exact ⟨[], by simp, by simp, by simp [renV, renVs, renSegs, renSg, trcode, h1, renAt]⟩
  · simp only [absE, absL, absF, reduceCtorEq, ↓reduceIte, Nat.reduceEqDiff, Nat.reduceAdd, Nat.reduceLT, Nat.reduceMul, Nat.reduceSub, Nat.reduceLeDiff, Int.reduceLT, Int.reduceLE, Int.reduceEq, Option.isSome_some, implies_true, false_implies, Prod.mk.injEq, ne_eq, not_false_eq_true, not_true_eq_false, ge_iff_le, gt_iff_lt, Int.toNat_natCast, Int.reduceToNat, Int.cast_ofNat_Int, Int.natCast_nonneg]
    refine CallsVia.none (within_ok k 1 400) ?_
    rintro _ _ _ ⟨rfl, rfl, rfl⟩
    by_cases h2 : 1 ≤ k ∧ k ≤ 400
    · exact absurd (by simp [trcode, h1, h2]) h
    · simp only [absE, absL, absF, reduceCtorEq, ↓reduceIte, Nat.reduceEqDiff, Nat.reduceAdd, Nat.reduceLT, Nat.reduceMul, Nat.reduceSub, Nat.reduceLeDiff, Int.reduceLT, Int.reduceLE, Int.reduceEq, Option.isSome_some, implies_true, false_implies, Prod.mk.injEq, ne_eq, not_false_eq_true, not_true_eq_false, ge_iff_le, gt_iff_lt, Int.toNat_natCast, Int.reduceToNat, Int.cast_ofNat_Int, Int.natCast_nonneg, h2, decide_false, Try.results49]
      exact ⟨[], by simp, by simp, by simp [renV, renVs, renSegs, renSg, trcode, h1, h2, renAt]⟩
theorem implTr_yes (n : Int) (t : List Int) (k : Int) (ht : Bytes 100 t) (h : trcode n t k = 0) : ACalls Try.prog 49 [.agg (sqS n t), .i .i64 k] [] (fun v ms ns => v = .tup [.ref (.sl 1 0 0 0 (trR n t k).length 10), .i .i64 0] ∧ ms = [] ∧ ns = [plB (trR n t k)]) := by
  obtain ⟨hs, h2⟩ := trcode_zero h
  have h1 : sqB n t = true := sqB_iff.2 hs
  obtain ⟨N, rfl⟩ : ∃ N : Nat, n = N := ⟨n.toNat, by have := hs.1; omega⟩
  obtain ⟨K, rfl⟩ : ∃ K : Nat, k = K := ⟨k.toNat, by omega⟩
  have htr : trR N t K = trL N t K := rfl
  rw [htr]
  refine acalls_of_body mix Try.func49 rfl fok49 (Nat.le_of_ble_eq_true rfl) ?_
  unfold abody
  simp only [absE, absL, absF, reduceCtorEq, ↓reduceIte, Nat.reduceEqDiff, Nat.reduceAdd, Nat.reduceLT, Nat.reduceMul, Nat.reduceSub, Nat.reduceLeDiff, Int.reduceLT, Int.reduceLE, Int.reduceEq, Option.isSome_some, implies_true, false_implies, Prod.mk.injEq, ne_eq, not_false_eq_true, not_true_eq_false, ge_iff_le, gt_iff_lt, Int.toNat_natCast, Int.reduceToNat, Int.cast_ofNat_Int, Int.natCast_nonneg, Try.f49]
  refine CallsVia.none (isSquare_ok N t ht) ?_
  rintro _ _ _ ⟨rfl, rfl, rfl⟩
  simp only [absE, absL, absF, reduceCtorEq, ↓reduceIte, Nat.reduceEqDiff, Nat.reduceAdd, Nat.reduceLT, Nat.reduceMul, Nat.reduceSub, Nat.reduceLeDiff, Int.reduceLT, Int.reduceLE, Int.reduceEq, Option.isSome_some, implies_true, false_implies, Prod.mk.injEq, ne_eq, not_false_eq_true, not_true_eq_false, ge_iff_le, gt_iff_lt, Int.toNat_natCast, Int.reduceToNat, Int.cast_ofNat_Int, Int.natCast_nonneg, h1]
  refine CallsVia.none (within_ok K 1 400) ?_
  rintro _ _ _ ⟨rfl, rfl, rfl⟩
  simp only [absE, absL, absF, reduceCtorEq, ↓reduceIte, Nat.reduceEqDiff, Nat.reduceAdd, Nat.reduceLT, Nat.reduceMul, Nat.reduceSub, Nat.reduceLeDiff, Int.reduceLT, Int.reduceLE, Int.reduceEq, Option.isSome_some, implies_true, false_implies, Prod.mk.injEq, ne_eq, not_false_eq_true, not_true_eq_false, ge_iff_le, gt_iff_lt, Int.toNat_natCast, Int.reduceToNat, Int.cast_ofNat_Int, Int.natCast_nonneg, h2, and_self, decide_true]
  refine CallsVia.args [(14, 0), (2, 0), (13, 0)] (transversals_ok N t K ht hs (by omega) (by omega)) (by simp) (by simp [Mem.get, assoc]) rfl rfl ?_
  rintro _ _ _ (⟨rfl, rfl, hnil⟩ | ⟨rfl, rfl⟩)
  · simp only [absE, absL, absF, reduceCtorEq, ↓reduceIte, Nat.reduceEqDiff, Nat.reduceAdd, Nat.reduceLT, Nat.reduceMul, Nat.reduceSub, Nat.reduceLeDiff, Int.reduceLT, Int.reduceLE, Int.reduceEq, Option.isSome_some, implies_true, false_implies, Prod.mk.injEq, ne_eq, not_false_eq_true, not_true_eq_false, ge_iff_le, gt_iff_lt, Int.toNat_natCast, Int.reduceToNat, Int.cast_ofNat_Int, Int.natCast_nonneg, ceB, moB, plB, hnil, Try.results49]
    exact ⟨[(13, 0)], by simp, by simp, by simp [renV, renVs, renAt, renFin, idx, hnil], by simp, by simp [renBlk, renSegs, renSg, Mem.get, assoc, plB, hnil]⟩
  · simp only [absE, absL, absF, reduceCtorEq, ↓reduceIte, Nat.reduceEqDiff, Nat.reduceAdd, Nat.reduceLT, Nat.reduceMul, Nat.reduceSub, Nat.reduceLeDiff, Int.reduceLT, Int.reduceLE, Int.reduceEq, Option.isSome_some, implies_true, false_implies, Prod.mk.injEq, ne_eq, not_false_eq_true, not_true_eq_false, ge_iff_le, gt_iff_lt, Int.toNat_natCast, Int.reduceToNat, Int.cast_ofNat_Int, Int.natCast_nonneg, ceB, moB, plB, Try.results49]
    exact ⟨[(18, 0)], by simp, by simp, by simp [renV, renVs, renAt, renFin, idx], by simp, by simp [renBlk, renSegs, renSg, Mem.get, assoc, plB]⟩
theorem l09Transversals_ok (N : Nat) (t : List Int) (most : Nat) (ht : Bytes 100 t) (hs : SqP N t) (hm : most ≤ 400) :
    ACalls Try.prog 100 [.agg (sqS N t), .i .i64 most] [] (fun v ms ns => SRes0 (trL N t most) v ms ns) := by
  have hf := across0_ok N t most ht hs hm N (Nat.le_refl N) p00 b00 b00 p00_ok (by simp [b00]) (by simp [b00])
  rw [Nat.sub_self] at hf
  change ACalls _ _ _ _ (fun v ms ns => SRes0 (trL N t most) v ms ns) at hf
  refine acalls_of_body mix Try.func100 rfl fok100 (Nat.le_of_ble_eq_true rfl) ?_
  unfold abody
  simp only [absE, absL, absF, reduceCtorEq, ↓reduceIte, Nat.reduceEqDiff, Nat.reduceAdd, Nat.reduceLT, Nat.reduceMul, Nat.reduceSub, Nat.reduceLeDiff, Int.reduceLT, Int.reduceLE, Int.reduceEq, Option.isSome_some, implies_true, false_implies, Prod.mk.injEq, ne_eq, not_false_eq_true, not_true_eq_false, ge_iff_le, gt_iff_lt, Int.toNat_natCast, Int.reduceToNat, Int.cast_ofNat_Int, Int.natCast_nonneg, Try.f100]
  refine CallsVia.none hf ?_
  rintro _ _ _ (⟨hnil, rfl, rfl, rfl⟩ | ⟨rfl, rfl, rfl⟩)
  · simp only [absE, absL, absF, reduceCtorEq, ↓reduceIte, Nat.reduceEqDiff, Nat.reduceAdd, Nat.reduceLT, Nat.reduceMul, Nat.reduceSub, Nat.reduceLeDiff, Int.reduceLT, Int.reduceLE, Int.reduceEq, Option.isSome_some, implies_true, false_implies, Prod.mk.injEq, ne_eq, not_false_eq_true, not_true_eq_false, ge_iff_le, gt_iff_lt, Int.toNat_natCast, Int.reduceToNat, Int.cast_ofNat_Int, Int.natCast_nonneg, Try.results100]
    exact ⟨[], by simp, by simp, .inl ⟨hnil, by simp [renV, renAt], by simp, by simp⟩⟩
  · simp only [absE, absL, absF, reduceCtorEq, ↓reduceIte, Nat.reduceEqDiff, Nat.reduceAdd, Nat.reduceLT, Nat.reduceMul, Nat.reduceSub, Nat.reduceLeDiff, Int.reduceLT, Int.reduceLE, Int.reduceEq, Option.isSome_some, implies_true, false_implies, Prod.mk.injEq, ne_eq, not_false_eq_true, not_true_eq_false, ge_iff_le, gt_iff_lt, Int.toNat_natCast, Int.reduceToNat, Int.cast_ofNat_Int, Int.natCast_nonneg, plB, Try.results100]
    exact ⟨[(8, 0)], by simp, by simp, .inr ⟨by simp [renV, renVs, renAt, renFin, idx], by simp, by simp [renBlk, renSegs, renSg, Mem.get, assoc, plB]⟩⟩
theorem specTr_no (n : Int) (t : List Int) (k : Int) (ht : Bytes 100 t) (h : trcode n t k ≠ 0) : ACalls Try.prog 48 [.agg (sqS n t), .i .i64 k] [] (fun v ms ns => v = .tup [.ref .nils, .i .i64 (trcode n t k)] ∧ ms = [] ∧ ns = []) := by
  refine acalls_of_body mix Try.func48 rfl fok48 (Nat.le_of_ble_eq_true rfl) ?_
  unfold abody
  simp only [absE, absL, absF, reduceCtorEq, ↓reduceIte, Nat.reduceEqDiff, Nat.reduceAdd, Nat.reduceLT, Nat.reduceMul, Nat.reduceSub, Nat.reduceLeDiff, Int.reduceLT, Int.reduceLE, Int.reduceEq, Option.isSome_some, implies_true, false_implies, Prod.mk.injEq, ne_eq, not_false_eq_true, not_true_eq_false, ge_iff_le, gt_iff_lt, Int.toNat_natCast, Int.reduceToNat, Int.cast_ofNat_Int, Int.natCast_nonneg, Try.f48]
  refine CallsVia.none (l01Is_ok n t ht) ?_
  rintro _ _ _ ⟨rfl, rfl, rfl⟩
  cases h1 : sqB n t
  · simp only [absE, absL, absF, reduceCtorEq, ↓reduceIte, Nat.reduceEqDiff, Nat.reduceAdd, Nat.reduceLT, Nat.reduceMul, Nat.reduceSub, Nat.reduceLeDiff, Int.reduceLT, Int.reduceLE, Int.reduceEq, Option.isSome_some, implies_true, false_implies, Prod.mk.injEq, ne_eq, not_false_eq_true, not_true_eq_false, ge_iff_le, gt_iff_lt, Int.toNat_natCast, Int.reduceToNat, Int.cast_ofNat_Int, Int.natCast_nonneg, Try.results48]
    exact ⟨[], by simp, by simp, by simp [renV, renVs, renSegs, renSg, trcode, h1, renAt]⟩
  · simp only [absE, absL, absF, reduceCtorEq, ↓reduceIte, Nat.reduceEqDiff, Nat.reduceAdd, Nat.reduceLT, Nat.reduceMul, Nat.reduceSub, Nat.reduceLeDiff, Int.reduceLT, Int.reduceLE, Int.reduceEq, Option.isSome_some, implies_true, false_implies, Prod.mk.injEq, ne_eq, not_false_eq_true, not_true_eq_false, ge_iff_le, gt_iff_lt, Int.toNat_natCast, Int.reduceToNat, Int.cast_ofNat_Int, Int.natCast_nonneg]
    refine CallsVia.none (l01In_ok k 1 400) ?_
    rintro _ _ _ ⟨rfl, rfl, rfl⟩
    by_cases h2 : 1 ≤ k ∧ k ≤ 400
    · exact absurd (by simp [trcode, h1, h2]) h
    · simp only [absE, absL, absF, reduceCtorEq, ↓reduceIte, Nat.reduceEqDiff, Nat.reduceAdd, Nat.reduceLT, Nat.reduceMul, Nat.reduceSub, Nat.reduceLeDiff, Int.reduceLT, Int.reduceLE, Int.reduceEq, Option.isSome_some, implies_true, false_implies, Prod.mk.injEq, ne_eq, not_false_eq_true, not_true_eq_false, ge_iff_le, gt_iff_lt, Int.toNat_natCast, Int.reduceToNat, Int.cast_ofNat_Int, Int.natCast_nonneg, h2, decide_false, Try.results48]
      exact ⟨[], by simp, by simp, by simp [renV, renVs, renSegs, renSg, trcode, h1, h2, renAt]⟩
def STup (L : List (List Int)) (v : AV) (ms ns : List Blk) : Prop :=
  (L = [] ∧ v = .tup [.ref .nils, .i .i64 0] ∧ ms = [] ∧ ns = []) ∨ (v = .tup [.ref (.sl 1 0 0 0 L.length 10), .i .i64 0] ∧ ms = [] ∧ ns = [plB L])
theorem specTr_yes (n : Int) (t : List Int) (k : Int) (ht : Bytes 100 t) (h : trcode n t k = 0) : ACalls Try.prog 48 [.agg (sqS n t), .i .i64 k] [] (fun v ms ns => STup (trR n t k) v ms ns) := by
  obtain ⟨hs, h2⟩ := trcode_zero h
  have h1 : sqB n t = true := sqB_iff.2 hs
  obtain ⟨N, rfl⟩ : ∃ N : Nat, n = N := ⟨n.toNat, by have := hs.1; omega⟩
  obtain ⟨K, rfl⟩ : ∃ K : Nat, k = K := ⟨k.toNat, by omega⟩
  have htr : trR N t K = trL N t K := rfl
  rw [htr]
  refine acalls_of_body mix Try.func48 rfl fok48 (Nat.le_of_ble_eq_true rfl) ?_
  unfold abody
  simp only [absE, absL, absF, reduceCtorEq, ↓reduceIte, Nat.reduceEqDiff, Nat.reduceAdd, Nat.reduceLT, Nat.reduceMul, Nat.reduceSub, Nat.reduceLeDiff, Int.reduceLT, Int.reduceLE, Int.reduceEq, Option.isSome_some, implies_true, false_implies, Prod.mk.injEq, ne_eq, not_false_eq_true, not_true_eq_false, ge_iff_le, gt_iff_lt, Int.toNat_natCast, Int.reduceToNat, Int.cast_ofNat_Int, Int.natCast_nonneg, Try.f48]
  refine CallsVia.none (l01Is_ok N t ht) ?_
  rintro _ _ _ ⟨rfl, rfl, rfl⟩
  simp only [absE, absL, absF, reduceCtorEq, ↓reduceIte, Nat.reduceEqDiff, Nat.reduceAdd, Nat.reduceLT, Nat.reduceMul, Nat.reduceSub, Nat.reduceLeDiff, Int.reduceLT, Int.reduceLE, Int.reduceEq, Option.isSome_some, implies_true, false_implies, Prod.mk.injEq, ne_eq, not_false_eq_true, not_true_eq_false, ge_iff_le, gt_iff_lt, Int.toNat_natCast, Int.reduceToNat, Int.cast_ofNat_Int, Int.natCast_nonneg, h1]
  refine CallsVia.none (l01In_ok K 1 400) ?_
  rintro _ _ _ ⟨rfl, rfl, rfl⟩
  simp only [absE, absL, absF, reduceCtorEq, ↓reduceIte, Nat.reduceEqDiff, Nat.reduceAdd, Nat.reduceLT, Nat.reduceMul, Nat.reduceSub, Nat.reduceLeDiff, Int.reduceLT, Int.reduceLE, Int.reduceEq, Option.isSome_some, implies_true, false_implies, Prod.mk.injEq, ne_eq, not_false_eq_true, not_true_eq_false, ge_iff_le, gt_iff_lt, Int.toNat_natCast, Int.reduceToNat, Int.cast_ofNat_Int, Int.natCast_nonneg, h2, and_self, decide_true]
  refine CallsVia.none (l09Transversals_ok N t K ht hs (by omega)) ?_
  rintro _ _ _ (⟨hnil, rfl, rfl, rfl⟩ | ⟨rfl, rfl, rfl⟩)
  · simp only [absE, absL, absF, reduceCtorEq, ↓reduceIte, Nat.reduceEqDiff, Nat.reduceAdd, Nat.reduceLT, Nat.reduceMul, Nat.reduceSub, Nat.reduceLeDiff, Int.reduceLT, Int.reduceLE, Int.reduceEq, Option.isSome_some, implies_true, false_implies, Prod.mk.injEq, ne_eq, not_false_eq_true, not_true_eq_false, ge_iff_le, gt_iff_lt, Int.toNat_natCast, Int.reduceToNat, Int.cast_ofNat_Int, Int.natCast_nonneg, Try.results48]
    exact ⟨[], by simp, by simp, .inl ⟨hnil, by simp [renV, renVs, renAt], by simp, by simp⟩⟩
  · simp only [absE, absL, absF, reduceCtorEq, ↓reduceIte, Nat.reduceEqDiff, Nat.reduceAdd, Nat.reduceLT, Nat.reduceMul, Nat.reduceSub, Nat.reduceLeDiff, Int.reduceLT, Int.reduceLE, Int.reduceEq, Option.isSome_some, implies_true, false_implies, Prod.mk.injEq, ne_eq, not_false_eq_true, not_true_eq_false, ge_iff_le, gt_iff_lt, Int.toNat_natCast, Int.reduceToNat, Int.cast_ofNat_Int, Int.natCast_nonneg, plB, Try.results48]
    exact ⟨[(14, 0)], by simp, by simp, .inr ⟨by simp [renV, renVs, renAt, renFin, idx], by simp, by simp [renBlk, renSegs, renSg, Mem.get, assoc, plB]⟩⟩
theorem trR_facts {n : Int} {t : List Int} {k : Int} (h : trcode n t k = 0) : (trR n t k).length < 2 ^ 40 ∧ Maps (trR n t k) := by
  obtain ⟨hs, h2⟩ := trcode_zero h
  have hN : n.toNat ≤ 10 := by have := hs.2.1; omega
  refine ⟨?_, (srA_all hN (Nat.le_refl _) p00_ok nilPl).maps⟩
  have := srA_lim (N := n.toNat) (most := k.toNat) (g := cl t) (k := n.toNat) (p := p00) (u := b00) (m := b00) (L := []) (by simp; omega)
  unfold trR trL ltB
  omega

end Go.Proofs.Ytoccbgffekhcaaa
