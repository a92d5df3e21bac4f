/-
Contracts of functions of the given program, by the abstract walk.
-/
import Derived.Test.YtkmdhcdfbdjdaaaAbsY
import Derived.Test.YtkmdhcdfbdjdaaaQb
import Derived.Test.YtkmdhcdfbdjdaaaQc
namespace Go.Proofs.Ytkmdhcdfbdjdaaa
open Go Go.Abs
set_option linter.unusedVariables false
set_option linter.unusedSectionVars false
set_option linter.unusedSimpArgs false
set_option maxRecDepth 100000
/-! NormalOrthomorphisms -/
def p0o : List Int := List.replicate 10 0
def b1o : List Bool := (List.replicate 10 false).set 0 true
def norL (N : Nat) (t : List Int) : List (List Int) := srA N (gO N t) noL (N - 1) p0o b1o b1o []
theorem p0o_ok {N : Nat} : PlOk N p0o := ⟨by simp [p0o], fun z => by unfold p0o; rw [getD_rep0]; omega⟩
theorem b1o_ok : BitL 1 b1o := ⟨by decide, by simp [b1o], by decide⟩
theorem nilPo {N : Nat} : AllPl N [] := fun _ h => absurd h (by simp)
noncomputable def norR (n : Int) (t : List Int) : List (List Int) := norL n.toNat t
theorem gcode_sq {n : Int} {t : List Int} (h : gcode n t = 0) : SqP n t := (gcode_zero h).1
theorem pow_b {k : Nat} (h : k ≤ 10) : 0 + 10 ^ k ≤ 10 ^ 10 := by
  rw [Nat.zero_add]; exact Nat.pow_le_pow_right (by decide) h
theorem implNo_no (n : Int) (t : List Int) (ht : Bytes 100 t) (h : gcode n t ≠ 0) : ACalls Try.prog 17 [.agg (sqS n t)] [] (fun v ms ns => v = .tup [.ref .nils, .i .i64 (gcode n t)] ∧ ms = [] ∧ ns = []) := by
  refine acalls_of_body mix Try.func17 rfl fok17 (Nat.le_of_ble_eq_true rfl) ?_
  unfold abody
  simp only [absE, absL, absF, reduceCtorEq, ↓reduceIte, Nat.reduceEqDiff, Nat.reduceAdd, Nat.reduceLT, Nat.reduceMul, Nat.reduceSub, Nat.reduceLeDiff, Int.reduceLT, Int.reduceLE, Int.reduceEq, Option.isSome_some, implies_true, false_implies, Prod.mk.injEq, ne_eq, not_false_eq_true, not_true_eq_false, ge_iff_le, gt_iff_lt, Int.toNat_natCast, Int.reduceToNat, Int.cast_ofNat_Int, Int.natCast_nonneg, Try.f17]
  refine CallsVia.none (groupCodeOf_ok n t ht) ?_
  rintro _ _ _ ⟨rfl, rfl, rfl⟩
  simp only [absE, absL, absF, reduceCtorEq, ↓reduceIte, Nat.reduceEqDiff, Nat.reduceAdd, Nat.reduceLT, Nat.reduceMul, Nat.reduceSub, Nat.reduceLeDiff, Int.reduceLT, Int.reduceLE, Int.reduceEq, Option.isSome_some, implies_true, false_implies, Prod.mk.injEq, ne_eq, not_false_eq_true, not_true_eq_false, ge_iff_le, gt_iff_lt, Int.toNat_natCast, Int.reduceToNat, Int.cast_ofNat_Int, Int.natCast_nonneg, h, Try.results17]
  exact ⟨[], by simp, by simp, by simp [renV, renVs, renSegs, renSg, renAt]⟩
theorem implNo_yes (n : Int) (t : List Int) (ht : Bytes 100 t) (h : gcode n t = 0) : ACalls Try.prog 17 [.agg (sqS n t)] [] (fun v ms ns => v = .tup [.ref (.sl 1 0 0 0 (norR n t).length 10), .i .i64 0] ∧ ms = [] ∧ ns = [plB (norR n t)]) := by
  have hs := gcode_sq h
  obtain ⟨N, rfl⟩ : ∃ N : Nat, n = N := ⟨n.toNat, by have := hs.1; omega⟩
  have hN := hs.le
  have hpos := hs.pos
  have hf := fillo_ok N t ht hs (N - 1) (by omega) p0o p0o b1o b1o 1 1 [] p0o_ok ⟨by simp [p0o], fun j hj => rfl⟩ b1o_ok b1o_ok (pow_b (by omega)) nilPo
  rw [show N - (N - 1) = 1 by omega] at hf
  have htr : norR N t = norL N t := rfl
  rw [htr]
  change ACalls _ _ _ _ (fun v ms ns => FO N 1 t p0o [] (norL N t) v ms ns) at hf
  refine acalls_of_body mix Try.func17 rfl fok17 (Nat.le_of_ble_eq_true rfl) ?_
  unfold abody
  simp only [absE, absL, absF, reduceCtorEq, ↓reduceIte, Nat.reduceEqDiff, Nat.reduceAdd, Nat.reduceLT, Nat.reduceMul, Nat.reduceSub, Nat.reduceLeDiff, Int.reduceLT, Int.reduceLE, Int.reduceEq, Option.isSome_some, implies_true, false_implies, Prod.mk.injEq, ne_eq, not_false_eq_true, not_true_eq_false, ge_iff_le, gt_iff_lt, Int.toNat_natCast, Int.reduceToNat, Int.cast_ofNat_Int, Int.natCast_nonneg, Try.f17]
  refine CallsVia.none (groupCodeOf_ok N t ht) ?_
  rintro _ _ _ ⟨rfl, rfl, rfl⟩
  simp only [absE, absL, absF, reduceCtorEq, ↓reduceIte, Nat.reduceEqDiff, Nat.reduceAdd, Nat.reduceLT, Nat.reduceMul, Nat.reduceSub, Nat.reduceLeDiff, Int.reduceLT, Int.reduceLE, Int.reduceEq, Option.isSome_some, implies_true, false_implies, Prod.mk.injEq, ne_eq, not_false_eq_true, not_true_eq_false, ge_iff_le, gt_iff_lt, Int.toNat_natCast, Int.reduceToNat, Int.cast_ofNat_Int, Int.natCast_nonneg, h]
  repeat first | refine And.intro (by decide +kernel) ?_ | refine And.intro (by omega) ?_
  simp only [absE, absL, absF, reduceCtorEq, ↓reduceIte, Nat.reduceEqDiff, Nat.reduceAdd, Nat.reduceLT, Nat.reduceMul, Nat.reduceSub, Nat.reduceLeDiff, Int.reduceLT, Int.reduceLE, Int.reduceEq, Option.isSome_some, implies_true, false_implies, Prod.mk.injEq, ne_eq, not_false_eq_true, not_true_eq_false, ge_iff_le, gt_iff_lt, Int.toNat_natCast, Int.reduceToNat, Int.cast_ofNat_Int, Int.natCast_nonneg]
  refine CallsVia.args [(1, 0), (11, 0), (12, 0), (15, 0), (9, 0)] hf (by simp) (by simp [Mem.get, assoc]) rfl rfl ?_
  rintro v ms ns ⟨q, hq, rfl, ⟨hsame, rfl, rfl⟩ | ⟨rfl, rfl⟩⟩
  · simp only [absE, absL, absF, reduceCtorEq, ↓reduceIte, Nat.reduceEqDiff, Nat.reduceAdd, Nat.reduceLT, Nat.reduceMul, Nat.reduceSub, Nat.reduceLeDiff, Int.reduceLT, Int.reduceLE, Int.reduceEq, Option.isSome_some, implies_true, false_implies, Prod.mk.injEq, ne_eq, not_false_eq_true, not_true_eq_false, ge_iff_le, gt_iff_lt, Int.toNat_natCast, Int.reduceToNat, Int.cast_ofNat_Int, Int.natCast_nonneg, fA, ceB, plB, Try.results17]
    exact ⟨[(9, 0)], by simp, by simp, by simp [renV, renVs, renAt, renOut, renFin, idx, hsame], by simp, by simp [renBlk, renSegs, renSg, Mem.get, assoc, plB, hsame]⟩
  · simp only [absE, absL, absF, reduceCtorEq, ↓reduceIte, Nat.reduceEqDiff, Nat.reduceAdd, Nat.reduceLT, Nat.reduceMul, Nat.reduceSub, Nat.reduceLeDiff, Int.reduceLT, Int.reduceLE, Int.reduceEq, Option.isSome_some, implies_true, false_implies, Prod.mk.injEq, ne_eq, not_false_eq_true, not_true_eq_false, ge_iff_le, gt_iff_lt, Int.toNat_natCast, Int.reduceToNat, Int.cast_ofNat_Int, Int.natCast_nonneg, fA, ceB, plB, Try.results17]
    exact ⟨[(19, 0)], by simp, by simp, by simp [renV, renVs, renAt, renOut, renFin, idx], by simp, by simp [renBlk, renSegs, renSg, Mem.get, assoc, plB]⟩
theorem l08All_ok (N : Nat) (t : List Int) (ht : Bytes 100 t) (hs : SqP N t) :
    ACalls Try.prog 55 [.agg (sqS N t)] [] (fun v ms ns => SRes0 (norL N t) v ms ns) := by
  have hN := hs.le
  have hpos := hs.pos
  have hf := search0_ok N t ht hs (N - 1) (by omega) p0o b1o b1o p0o_ok (by simp [b1o]) (by simp [b1o])
  rw [show N - (N - 1) = 1 by omega] at hf
  change ACalls _ _ _ _ (fun v ms ns => SRes0 (norL N t) v ms ns) at hf
  refine acalls_of_body mix Try.func55 rfl fok55 (Nat.le_of_ble_eq_true rfl) ?_
  unfold abody
  simp only [absE, absL, absF, reduceCtorEq, ↓reduceIte, Nat.reduceEqDiff, Nat.reduceAdd, Nat.reduceLT, Nat.reduceMul, Nat.reduceSub, Nat.reduceLeDiff, Int.reduceLT, Int.reduceLE, Int.reduceEq, Option.isSome_some, implies_true, false_implies, Prod.mk.injEq, ne_eq, not_false_eq_true, not_true_eq_false, ge_iff_le, gt_iff_lt, Int.toNat_natCast, Int.reduceToNat, Int.cast_ofNat_Int, Int.natCast_nonneg, Try.f55]
  repeat first | refine And.intro (by decide +kernel) ?_ | refine And.intro (by omega) ?_
  simp only [absE, absL, absF, reduceCtorEq, ↓reduceIte, Nat.reduceEqDiff, Nat.reduceAdd, Nat.reduceLT, Nat.reduceMul, Nat.reduceSub, Nat.reduceLeDiff, Int.reduceLT, Int.reduceLE, Int.reduceEq, Option.isSome_some, implies_true, false_implies, Prod.mk.injEq, ne_eq, not_false_eq_true, not_true_eq_false, ge_iff_le, gt_iff_lt, Int.toNat_natCast, Int.reduceToNat, Int.cast_ofNat_Int, Int.natCast_nonneg]
  refine CallsVia.none hf ?_
  rintro _ _ _ (⟨hnil, rfl, rfl, rfl⟩ | ⟨rfl, rfl, rfl⟩)
  · simp only [absE, absL, absF, reduceCtorEq, ↓reduceIte, Nat.reduceEqDiff, Nat.reduceAdd, Nat.reduceLT, Nat.reduceMul, Nat.reduceSub, Nat.reduceLeDiff, Int.reduceLT, Int.reduceLE, Int.reduceEq, Option.isSome_some, implies_true, false_implies, Prod.mk.injEq, ne_eq, not_false_eq_true, not_true_eq_false, ge_iff_le, gt_iff_lt, Int.toNat_natCast, Int.reduceToNat, Int.cast_ofNat_Int, Int.natCast_nonneg, Try.results55]
    exact ⟨[], by simp, by simp, .inl ⟨hnil, by simp [renV, renAt], by simp, by simp⟩⟩
  · simp only [absE, absL, absF, reduceCtorEq, ↓reduceIte, Nat.reduceEqDiff, Nat.reduceAdd, Nat.reduceLT, Nat.reduceMul, Nat.reduceSub, Nat.reduceLeDiff, Int.reduceLT, Int.reduceLE, Int.reduceEq, Option.isSome_some, implies_true, false_implies, Prod.mk.injEq, ne_eq, not_false_eq_true, not_true_eq_false, ge_iff_le, gt_iff_lt, Int.toNat_natCast, Int.reduceToNat, Int.cast_ofNat_Int, Int.natCast_nonneg, plB, Try.results55]
    exact ⟨[(10, 0)], by simp, by simp, .inr ⟨by simp [renV, renVs, renAt, renFin, idx], by simp, by simp [renBlk, renSegs, renSg, Mem.get, assoc, plB]⟩⟩
theorem specNo_no (n : Int) (t : List Int) (ht : Bytes 100 t) (h : gcode n t ≠ 0) : ACalls Try.prog 15 [.agg (sqS n t)] [] (fun v ms ns => v = .tup [.ref .nils, .i .i64 (gcode n t)] ∧ ms = [] ∧ ns = []) := by
  refine acalls_of_body mix Try.func15 rfl fok15 (Nat.le_of_ble_eq_true rfl) ?_
  unfold abody
  simp only [absE, absL, absF, reduceCtorEq, ↓reduceIte, Nat.reduceEqDiff, Nat.reduceAdd, Nat.reduceLT, Nat.reduceMul, Nat.reduceSub, Nat.reduceLeDiff, Int.reduceLT, Int.reduceLE, Int.reduceEq, Option.isSome_some, implies_true, false_implies, Prod.mk.injEq, ne_eq, not_false_eq_true, not_true_eq_false, ge_iff_le, gt_iff_lt, Int.toNat_natCast, Int.reduceToNat, Int.cast_ofNat_Int, Int.natCast_nonneg, Try.f15]
  refine CallsVia.none (l08Group_ok n t ht) ?_
  rintro _ _ _ ⟨rfl, rfl, rfl⟩
  simp only [absE, absL, absF, reduceCtorEq, ↓reduceIte, Nat.reduceEqDiff, Nat.reduceAdd, Nat.reduceLT, Nat.reduceMul, Nat.reduceSub, Nat.reduceLeDiff, Int.reduceLT, Int.reduceLE, Int.reduceEq, Option.isSome_some, implies_true, false_implies, Prod.mk.injEq, ne_eq, not_false_eq_true, not_true_eq_false, ge_iff_le, gt_iff_lt, Int.toNat_natCast, Int.reduceToNat, Int.cast_ofNat_Int, Int.natCast_nonneg, h, Try.results15]
  exact ⟨[], by simp, by simp, by simp [renV, renVs, renSegs, renSg, renAt]⟩
def STuo (L : List (List Int)) (v : AV) (ms ns : List Blk) : Prop :=
  (L = [] ∧ v = .tup [.ref .nils, .i .i64 0] ∧ ms = [] ∧ ns = []) ∨ (v = .tup [.ref (.sl 1 0 0 0 L.length 10), .i .i64 0] ∧ ms = [] ∧ ns = [plB L])
theorem specNo_yes (n : Int) (t : List Int) (ht : Bytes 100 t) (h : gcode n t = 0) : ACalls Try.prog 15 [.agg (sqS n t)] [] (fun v ms ns => STuo (norR n t) v ms ns) := by
  have hs := gcode_sq h
  obtain ⟨N, rfl⟩ : ∃ N : Nat, n = N := ⟨n.toNat, by have := hs.1; omega⟩
  have htr : norR N t = norL N t := rfl
  rw [htr]
  refine acalls_of_body mix Try.func15 rfl fok15 (Nat.le_of_ble_eq_true rfl) ?_
  unfold abody
  simp only [absE, absL, absF, reduceCtorEq, ↓reduceIte, Nat.reduceEqDiff, Nat.reduceAdd, Nat.reduceLT, Nat.reduceMul, Nat.reduceSub, Nat.reduceLeDiff, Int.reduceLT, Int.reduceLE, Int.reduceEq, Option.isSome_some, implies_true, false_implies, Prod.mk.injEq, ne_eq, not_false_eq_true, not_true_eq_false, ge_iff_le, gt_iff_lt, Int.toNat_natCast, Int.reduceToNat, Int.cast_ofNat_Int, Int.natCast_nonneg, Try.f15]
  refine CallsVia.none (l08Group_ok N t ht) ?_
  rintro _ _ _ ⟨rfl, rfl, rfl⟩
  simp only [absE, absL, absF, reduceCtorEq, ↓reduceIte, Nat.reduceEqDiff, Nat.reduceAdd, Nat.reduceLT, Nat.reduceMul, Nat.reduceSub, Nat.reduceLeDiff, Int.reduceLT, Int.reduceLE, Int.reduceEq, Option.isSome_some, implies_true, false_implies, Prod.mk.injEq, ne_eq, not_false_eq_true, not_true_eq_false, ge_iff_le, gt_iff_lt, Int.toNat_natCast, Int.reduceToNat, Int.cast_ofNat_Int, Int.natCast_nonneg, h]
  refine CallsVia.none (l08All_ok N t ht hs) ?_
  rintro _ _ _ (⟨hnil, rfl, rfl, rfl⟩ | ⟨rfl, rfl, rfl⟩)
  · simp only [absE, absL, absF, reduceCtorEq, ↓reduceIte, Nat.reduceEqDiff, Nat.reduceAdd, Nat.reduceLT, Nat.reduceMul, Nat.reduceSub, Nat.reduceLeDiff, Int.reduceLT, Int.reduceLE, Int.reduceEq, Option.isSome_some, implies_true, false_implies, Prod.mk.injEq, ne_eq, not_false_eq_true, not_true_eq_false, ge_iff_le, gt_iff_lt, Int.toNat_natCast, Int.reduceToNat, Int.cast_ofNat_Int, Int.natCast_nonneg, Try.results15]
    exact ⟨[], by simp, by simp, .inl ⟨hnil, by simp [renV, renVs, renAt], by simp, by simp⟩⟩
  · simp only [absE, absL, absF, reduceCtorEq, ↓reduceIte, Nat.reduceEqDiff, Nat.reduceAdd, Nat.reduceLT, Nat.reduceMul, Nat.reduceSub, Nat.reduceLeDiff, Int.reduceLT, Int.reduceLE, Int.reduceEq, Option.isSome_some, implies_true, false_implies, Prod.mk.injEq, ne_eq, not_false_eq_true, not_true_eq_false, ge_iff_le, gt_iff_lt, Int.toNat_natCast, Int.reduceToNat, Int.cast_ofNat_Int, Int.natCast_nonneg, plB, Try.results15]
    exact ⟨[(10, 0)], by simp, by simp, .inr ⟨by simp [renV, renVs, renAt, renFin, idx], by simp, by simp [renBlk, renSegs, renSg, Mem.get, assoc, plB]⟩⟩
theorem norR_facts {n : Int} {t : List Int} (h : gcode n t = 0) : (norR n t).length < 2 ^ 40 ∧ Maps (norR n t) := by
  have hs := gcode_sq h
  have hN : n.toNat ≤ 10 := by have := hs.2.1; omega
  refine ⟨?_, (srA_all hN (by omega) p0o_ok nilPo).maps⟩
  have h1 := srA_len (N := n.toNat) (g := gO n.toNat t) (lim := noL) hN (k := n.toNat - 1) (p := p0o) (u := b1o) (m := b1o) (L := [])
  have h2 := pow_b (k := n.toNat - 1) (by omega)
  unfold norR norL
  simp only [List.length_nil] at h1
  omega

end Go.Proofs.Ytkmdhcdfbdjdaaa
