/-
Contracts of functions of the given program, by the abstract walk.
-/
import Derived.Test.YtnophcdinideaaaAbsW
import Derived.Test.YtnophcdinideaaaHc
import Derived.Test.YtnophcdinideaaaGb
import Derived.Test.YtnophcdinideaaaDp
namespace Go.Proofs.Ytnophcdinideaaa
open Go Go.Abs
set_option linter.unusedVariables false
set_option linter.unusedSectionVars false
set_option linter.unusedSimpArgs false
set_option maxRecDepth 100000
open Classical in
noncomputable def subB (N : Nat) (t : List Int) (xs : List Int) (k : Nat) : Bool := decide (∀ z, Gen N t (inL xs k) z → inL xs k z)
theorem subB_iff {N : Nat} {t : List Int} {xs : List Int} {k : Nat} : subB N t xs k = true ↔ ∀ z, Gen N t (inL xs k) z → inL xs k z := by unfold subB; exact @decide_eq_true_iff _ (_)
theorem ListP.inL_lt {N : Nat} {xs : List Int} {k z : Nat} (h : ListP N xs 0 k) (hz : inL xs k z) : z < N := by
  obtain ⟨j, hj, rfl⟩ := hz; exact (h.el_eq hj).2
theorem lcd1_zero {n : Int} {t : List Int} {xs : List Int} {k : Nat} (h : lcd1 n t xs k = 0) : loopB n t = true ∧ ListP n.toNat xs 0 k := by
  unfold lcd1 at h
  split at h
  · rename_i h1
    split at h
    · rename_i h2; exact ⟨h1, listB_iff.1 h2⟩
    · omega
  · omega
theorem isSubloop_ok (N : Nat) (t : List Int) (xs : List Int) (k : Nat) (ht : Bytes 100 t) (hs : SqP N t) (h : ListP N xs 0 k) :
    ACalls Try.prog 73 [.agg (sqS N t), .i .i64 (setN xs k : Nat)] [] (fun v ms ns => v = .b (subB N t xs k) ∧ ms = [] ∧ ns = []) := by
  have hN := hs.le
  refine acalls_of_body mix Try.func73 rfl fok73 (Nat.le_of_ble_eq_true rfl) ?_
  unfold abody
  simp only [absE, absL, absF, reduceCtorEq, ↓reduceIte, Nat.reduceEqDiff, Nat.reduceAdd, Nat.reduceLT, Nat.reduceMul, Nat.reduceSub, Nat.reduceLeDiff, Int.reduceLT, Int.reduceLE, Int.reduceEq, Option.isSome_some, implies_true, false_implies, Prod.mk.injEq, ne_eq, not_false_eq_true, not_true_eq_false, ge_iff_le, gt_iff_lt, Int.toNat_natCast, Int.reduceToNat, Int.cast_ofNat_Int, Int.natCast_nonneg, Try.f73]
  refine CallsVia.none (generated_ok N t (setN xs k) (inL xs k) ht hs (setN_lt fun j hj => (h.el_eq hj).2) fun z => setN_bit) ?_
  rintro _ _ _ ⟨rfl, rfl, rfl⟩
  simp only [absE, absL, absF, reduceCtorEq, ↓reduceIte, Nat.reduceEqDiff, Nat.reduceAdd, Nat.reduceLT, Nat.reduceMul, Nat.reduceSub, Nat.reduceLeDiff, Int.reduceLT, Int.reduceLE, Int.reduceEq, Option.isSome_some, implies_true, false_implies, Prod.mk.injEq, ne_eq, not_false_eq_true, not_true_eq_false, ge_iff_le, gt_iff_lt, Int.toNat_natCast, Int.reduceToNat, Int.cast_ofNat_Int, Int.natCast_nonneg, Try.results73]
  have e : decide (((setM (genB N t (inL xs k)) N : Nat) : Int) = ((setN xs k : Nat) : Int)) = subB N t xs k := by
    rw [Bool.eq_iff_iff, decide_eq_true_iff, subB_iff]
    constructor
    · intro he z hz
      have he' : setM (genB N t (inL xs k)) N = setN xs k := by omega
      rw [← setN_bit, ← he', setM_bit, genB_iff.2 hz, decide_eq_true (hz.lt hs fun w hw => h.inL_lt hw)]; rfl
    · intro hz
      have : setN xs k = setM (genB N t (inL xs k)) N := setM_eq' (fun i hi => h.inL_lt (setN_bit.1 hi)) fun i hi => by
        rw [Bool.eq_iff_iff, setN_bit, genB_iff]
        exact ⟨fun hh => .base hh, hz i⟩
      rw [this]
  exact ⟨[], by simp, by simp, by simp [renV, renVs, renSegs, renSg, e]⟩
theorem l05Sub_ok (N : Nat) (t : List Int) (xs : List Int) (k : Nat) (ht : Bytes 100 t) (hs : SqP N t) (hk : k ≤ 2 ^ 20) (h : ListP N xs 0 k) :
    ACalls Try.prog 71 [.agg (sqS N t), .ref (.sl 0 0 0 0 k 1)] [.lv true [(0, .ints .i64 k xs)]] (fun v ms ns => v = .b (subB N t xs k) ∧ ms = [.lv true [(0, .ints .i64 k xs)]] ∧ ns = []) := by
  have hN := hs.le
  have h10 : ∀ j, j < k → el xs j < 10 := fun j hj => by have := (h.el_eq hj).2; omega
  refine acalls_of_body mix Try.func71 rfl fok71 (Nat.le_of_ble_eq_true rfl) ?_
  unfold abody
  simp only [absE, absL, absF, reduceCtorEq, ↓reduceIte, Nat.reduceEqDiff, Nat.reduceAdd, Nat.reduceLT, Nat.reduceMul, Nat.reduceSub, Nat.reduceLeDiff, Int.reduceLT, Int.reduceLE, Int.reduceEq, Option.isSome_some, implies_true, false_implies, Prod.mk.injEq, ne_eq, not_false_eq_true, not_true_eq_false, ge_iff_le, gt_iff_lt, Int.toNat_natCast, Int.reduceToNat, Int.cast_ofNat_Int, Int.natCast_nonneg, Try.f71]
  refine CallsVia.args [(0, 0)] (l05Set_ok N xs k hN hk h) (by simp) (by simp [Mem.get]) rfl rfl ?_
  rintro _ _ _ ⟨rfl, rfl, rfl⟩
  simp only [absE, absL, absF, reduceCtorEq, ↓reduceIte, Nat.reduceEqDiff, Nat.reduceAdd, Nat.reduceLT, Nat.reduceMul, Nat.reduceSub, Nat.reduceLeDiff, Int.reduceLT, Int.reduceLE, Int.reduceEq, Option.isSome_some, implies_true, false_implies, Prod.mk.injEq, ne_eq, not_false_eq_true, not_true_eq_false, ge_iff_le, gt_iff_lt, Int.toNat_natCast, Int.reduceToNat, Int.cast_ofNat_Int, Int.natCast_nonneg]
  refine CallsX.none (l05Close_ok N t (mkB xs k) (inL xs k) ht hs mkB_len (fun z => mkB_get h10) (fun z hz => h.inL_lt hz)) ?_
  simp only [absE, absL, absF, reduceCtorEq, ↓reduceIte, Nat.reduceEqDiff, Nat.reduceAdd, Nat.reduceLT, Nat.reduceMul, Nat.reduceSub, Nat.reduceLeDiff, Int.reduceLT, Int.reduceLE, Int.reduceEq, Option.isSome_some, implies_true, false_implies, Prod.mk.injEq, ne_eq, not_false_eq_true, not_true_eq_false, ge_iff_le, gt_iff_lt, Int.toNat_natCast, Int.reduceToNat, Int.cast_ofNat_Int, Int.natCast_nonneg, eqSegs_bb, Try.results71]
  have e : decide (genL N t (inL xs k) = mkB xs k) = subB N t xs k := by
    rw [Bool.eq_iff_iff, decide_eq_true_iff, subB_iff]
    constructor
    · intro he z hz
      have hz' := hz.lt hs fun w hw => h.inL_lt hw
      rw [← mkB_get h10, ← he, genL_get (by omega)]; exact genB_iff.2 hz
    · intro hz
      refine boolsExt (by simp [genL, mkB_len]) fun i hi => ?_
      have hi : i < 10 := by simpa [genL] using hi
      rw [genL_get hi, Bool.eq_iff_iff, genB_iff, mkB_get h10]
      exact ⟨hz i, fun hh => .base hh⟩
  exact ⟨[], by simp, by simp, by simp [renV, renVs, renSegs, renSg, e, renBlk]⟩
noncomputable def subAV (n : Int) (t : List Int) (xs : List Int) (k : Nat) : AV := if lcd1 n t xs k = 0 then .tup [.b (subB n.toNat t xs k), .i .i64 0] else .tup [.b false, .i .i64 (lcd1 n t xs k)]
theorem sub_form (n : Int) (t : List Int) (xs : List Int) (k : Nat) (ht : Bytes 100 t) : ∃ b e, subAV n t xs k = .tup [.b b, .i .i64 e] := by
  unfold subAV; split <;> exact ⟨_, _, rfl⟩
theorem loopB_nat {n : Int} {t : List Int} (h : loopB n t = true) : ∃ N : Nat, n = N ∧ SqP N t := by
  have hs : SqP n t := by simp only [loopB, Bool.and_eq_true] at h; exact sqB_iff.1 h.1
  refine ⟨n.toNat, by have := hs.1; omega, ?_⟩
  rw [show ((n.toNat : Nat) : Int) = n by have := hs.1; omega]; exact hs
theorem specSub_ok (n : Int) (t : List Int) (xs : List Int) (k : Nat) (ht : Bytes 100 t) (hx : xs.length = k) (hk : k ≤ 2 ^ 20) :
    ACalls Try.prog 35 [.agg (sqS n t), .ref (.sl 0 0 0 0 k 1)] [.lv true [(0, .ints .i64 k xs)]] (fun v ms ns => v = subAV n t xs k ∧ ms = [.lv true [(0, .ints .i64 k xs)]] ∧ ns = []) := by
  unfold subAV
  refine acalls_of_body mix Try.func35 rfl fok35 (Nat.le_of_ble_eq_true rfl) ?_
  unfold abody
  simp only [absE, absL, absF, reduceCtorEq, ↓reduceIte, Nat.reduceEqDiff, Nat.reduceAdd, Nat.reduceLT, Nat.reduceMul, Nat.reduceSub, Nat.reduceLeDiff, Int.reduceLT, Int.reduceLE, Int.reduceEq, Option.isSome_some, implies_true, false_implies, Prod.mk.injEq, ne_eq, not_false_eq_true, not_true_eq_false, ge_iff_le, gt_iff_lt, Int.toNat_natCast, Int.reduceToNat, Int.cast_ofNat_Int, Int.natCast_nonneg, Try.f35]
  refine CallsVia.args [(0, 0)] (l05Both_ok n t xs k ht hx hk) (by simp) (by simp [Mem.get, assoc]) rfl rfl ?_
  rintro _ _ _ ⟨rfl, rfl, rfl⟩
  by_cases h : lcd1 n t xs k = 0
  · obtain ⟨h1, h2⟩ := lcd1_zero h
    obtain ⟨N, rfl, hs⟩ := loopB_nat h1
    simp only [absE, absL, absF, reduceCtorEq, ↓reduceIte, Nat.reduceEqDiff, Nat.reduceAdd, Nat.reduceLT, Nat.reduceMul, Nat.reduceSub, Nat.reduceLeDiff, Int.reduceLT, Int.reduceLE, Int.reduceEq, Option.isSome_some, implies_true, false_implies, Prod.mk.injEq, ne_eq, not_false_eq_true, not_true_eq_false, ge_iff_le, gt_iff_lt, Int.toNat_natCast, Int.reduceToNat, Int.cast_ofNat_Int, Int.natCast_nonneg, h]
    refine CallsVia.args [(0, 0)] (l05Sub_ok N t xs k ht hs hk h2) (by simp) (by simp [Mem.get]) rfl rfl ?_
    rintro _ _ _ ⟨rfl, rfl, rfl⟩
    simp only [absE, absL, absF, reduceCtorEq, ↓reduceIte, Nat.reduceEqDiff, Nat.reduceAdd, Nat.reduceLT, Nat.reduceMul, Nat.reduceSub, Nat.reduceLeDiff, Int.reduceLT, Int.reduceLE, Int.reduceEq, Option.isSome_some, implies_true, false_implies, Prod.mk.injEq, ne_eq, not_false_eq_true, not_true_eq_false, ge_iff_le, gt_iff_lt, Int.toNat_natCast, Int.reduceToNat, Int.cast_ofNat_Int, Int.natCast_nonneg, Try.results35]
    exact ⟨[], by simp, by simp, by simp [renV, renVs, renSegs, renSg, h, renBlk]⟩
  · simp only [absE, absL, absF, reduceCtorEq, ↓reduceIte, Nat.reduceEqDiff, Nat.reduceAdd, Nat.reduceLT, Nat.reduceMul, Nat.reduceSub, Nat.reduceLeDiff, Int.reduceLT, Int.reduceLE, Int.reduceEq, Option.isSome_some, implies_true, false_implies, Prod.mk.injEq, ne_eq, not_false_eq_true, not_true_eq_false, ge_iff_le, gt_iff_lt, Int.toNat_natCast, Int.reduceToNat, Int.cast_ofNat_Int, Int.natCast_nonneg, h, Try.results35]
    exact ⟨[], by simp, by simp, by simp [renV, renVs, renSegs, renSg, h, renBlk]⟩
theorem implSub_ok (n : Int) (t : List Int) (xs : List Int) (k : Nat) (ht : Bytes 100 t) (hx : xs.length = k) (hk : k ≤ 2 ^ 20) :
    ACalls Try.prog 36 [.agg (sqS n t), .ref (.sl 0 0 0 0 k 1)] [.lv true [(0, .ints .i64 k xs)]] (fun v ms ns => v = subAV n t xs k ∧ ms = [.lv true [(0, .ints .i64 k xs)]] ∧ ns = []) := by
  unfold subAV
  refine acalls_of_body mix Try.func36 rfl fok36 (Nat.le_of_ble_eq_true rfl) ?_
  unfold abody
  simp only [absE, absL, absF, reduceCtorEq, ↓reduceIte, Nat.reduceEqDiff, Nat.reduceAdd, Nat.reduceLT, Nat.reduceMul, Nat.reduceSub, Nat.reduceLeDiff, Int.reduceLT, Int.reduceLE, Int.reduceEq, Option.isSome_some, implies_true, false_implies, Prod.mk.injEq, ne_eq, not_false_eq_true, not_true_eq_false, ge_iff_le, gt_iff_lt, Int.toNat_natCast, Int.reduceToNat, Int.cast_ofNat_Int, Int.natCast_nonneg, Try.f36]
  refine CallsVia.args [(0, 0)] (listCode_ok n t xs k ht hx hk) (by simp) (by simp [Mem.get, assoc]) rfl rfl ?_
  rintro _ _ _ ⟨rfl, rfl, rfl⟩
  by_cases h : lcd1 n t xs k = 0
  · obtain ⟨h1, h2⟩ := lcd1_zero h
    obtain ⟨N, rfl, hs⟩ := loopB_nat h1
    simp only [absE, absL, absF, reduceCtorEq, ↓reduceIte, Nat.reduceEqDiff, Nat.reduceAdd, Nat.reduceLT, Nat.reduceMul, Nat.reduceSub, Nat.reduceLeDiff, Int.reduceLT, Int.reduceLE, Int.reduceEq, Option.isSome_some, implies_true, false_implies, Prod.mk.injEq, ne_eq, not_false_eq_true, not_true_eq_false, ge_iff_le, gt_iff_lt, Int.toNat_natCast, Int.reduceToNat, Int.cast_ofNat_Int, Int.natCast_nonneg, h]
    refine CallsX.args [(0, 0)] (setOf_ok N xs k hs.le hk h2) (by simp) (by simp [Mem.get]) rfl rfl ?_
    simp only [absE, absL, absF, reduceCtorEq, ↓reduceIte, Nat.reduceEqDiff, Nat.reduceAdd, Nat.reduceLT, Nat.reduceMul, Nat.reduceSub, Nat.reduceLeDiff, Int.reduceLT, Int.reduceLE, Int.reduceEq, Option.isSome_some, implies_true, false_implies, Prod.mk.injEq, ne_eq, not_false_eq_true, not_true_eq_false, ge_iff_le, gt_iff_lt, Int.toNat_natCast, Int.reduceToNat, Int.cast_ofNat_Int, Int.natCast_nonneg]
    refine CallsX.none (isSubloop_ok N t xs k ht hs h2) ?_
    simp only [absE, absL, absF, reduceCtorEq, ↓reduceIte, Nat.reduceEqDiff, Nat.reduceAdd, Nat.reduceLT, Nat.reduceMul, Nat.reduceSub, Nat.reduceLeDiff, Int.reduceLT, Int.reduceLE, Int.reduceEq, Option.isSome_some, implies_true, false_implies, Prod.mk.injEq, ne_eq, not_false_eq_true, not_true_eq_false, ge_iff_le, gt_iff_lt, Int.toNat_natCast, Int.reduceToNat, Int.cast_ofNat_Int, Int.natCast_nonneg, Try.results36]
    exact ⟨[], by simp, by simp, by simp [renV, renVs, renSegs, renSg, h, renBlk]⟩
  · simp only [absE, absL, absF, reduceCtorEq, ↓reduceIte, Nat.reduceEqDiff, Nat.reduceAdd, Nat.reduceLT, Nat.reduceMul, Nat.reduceSub, Nat.reduceLeDiff, Int.reduceLT, Int.reduceLE, Int.reduceEq, Option.isSome_some, implies_true, false_implies, Prod.mk.injEq, ne_eq, not_false_eq_true, not_true_eq_false, ge_iff_le, gt_iff_lt, Int.toNat_natCast, Int.reduceToNat, Int.cast_ofNat_Int, Int.natCast_nonneg, h, Try.results36]
    exact ⟨[], by simp, by simp, by simp [renV, renVs, renSegs, renSg, h, renBlk]⟩
noncomputable def sgL (n : Int) (t : List Int) (xs : List Int) (k : Nat) : List Int := memL (genB n.toNat t (inL xs k)) n.toNat
theorem specSg_yes (n : Int) (t : List Int) (xs : List Int) (k : Nat) (ht : Bytes 100 t) (hx : xs.length = k) (hk : k ≤ 2 ^ 20) (h : decide (lcd1 n t xs k = 0) = true) :
    ACalls Try.prog 37 [.agg (sqS n t), .ref (.sl 0 0 0 0 k 1)] [.lv true [(0, .ints .i64 k xs)]] (fun v ms ns => v = .tup [.ref (.sl 1 0 0 0 (sgL n t xs k).length 1), .i .i64 0] ∧ ms = [.lv true [(0, .ints .i64 k xs)]] ∧ ns = [.lv true [(0, .ints .i64 (sgL n t xs k).length (sgL n t xs k))]]) := by
  have h := of_decide_eq_true h
  obtain ⟨h1, h2⟩ := lcd1_zero h
  obtain ⟨N, rfl, hs⟩ := loopB_nat h1
  have hN := hs.le
  have h10 : ∀ j, j < k → el xs j < 10 := fun j hj => by have := (h2.el_eq hj).2; omega
  have e : memL (fun z => (genL N t (inL xs k)).getD z false) 10 = sgL N t xs k := by
    unfold sgL
    rw [Int.toNat_natCast, memL_congr (q := genB N t (inL xs k)) fun i hi => genL_get hi]
    exact memL_more hN fun i hi => by
      cases hg : genB N t (inL xs k) i
      · rfl
      · have := (genB_iff.1 hg).lt hs fun w hw => h2.inL_lt hw
        omega
  have hT := l05Told_ok (genL N t (inL xs k)) (by simp [genL])
  rw [e] at hT
  refine acalls_of_body mix Try.func37 rfl fok37 (Nat.le_of_ble_eq_true rfl) ?_
  unfold abody
  simp only [absE, absL, absF, reduceCtorEq, ↓reduceIte, Nat.reduceEqDiff, Nat.reduceAdd, Nat.reduceLT, Nat.reduceMul, Nat.reduceSub, Nat.reduceLeDiff, Int.reduceLT, Int.reduceLE, Int.reduceEq, Option.isSome_some, implies_true, false_implies, Prod.mk.injEq, ne_eq, not_false_eq_true, not_true_eq_false, ge_iff_le, gt_iff_lt, Int.toNat_natCast, Int.reduceToNat, Int.cast_ofNat_Int, Int.natCast_nonneg, Try.f37]
  refine CallsVia.args [(0, 0)] (l05Both_ok N t xs k ht hx hk) (by simp) (by simp [Mem.get, assoc]) rfl rfl ?_
  rintro _ _ _ ⟨rfl, rfl, rfl⟩
  simp only [absE, absL, absF, reduceCtorEq, ↓reduceIte, Nat.reduceEqDiff, Nat.reduceAdd, Nat.reduceLT, Nat.reduceMul, Nat.reduceSub, Nat.reduceLeDiff, Int.reduceLT, Int.reduceLE, Int.reduceEq, Option.isSome_some, implies_true, false_implies, Prod.mk.injEq, ne_eq, not_false_eq_true, not_true_eq_false, ge_iff_le, gt_iff_lt, Int.toNat_natCast, Int.reduceToNat, Int.cast_ofNat_Int, Int.natCast_nonneg, h]
  refine CallsX.args [(0, 0)] (l05Set_ok N xs k hN hk h2) (by simp) (by simp [Mem.get]) rfl rfl ?_
  simp only [absE, absL, absF, reduceCtorEq, ↓reduceIte, Nat.reduceEqDiff, Nat.reduceAdd, Nat.reduceLT, Nat.reduceMul, Nat.reduceSub, Nat.reduceLeDiff, Int.reduceLT, Int.reduceLE, Int.reduceEq, Option.isSome_some, implies_true, false_implies, Prod.mk.injEq, ne_eq, not_false_eq_true, not_true_eq_false, ge_iff_le, gt_iff_lt, Int.toNat_natCast, Int.reduceToNat, Int.cast_ofNat_Int, Int.natCast_nonneg]
  refine CallsX.none (l05Close_ok N t (mkB xs k) (inL xs k) ht hs mkB_len (fun z => mkB_get h10) (fun z hz => h2.inL_lt hz)) ?_
  simp only [absE, absL, absF, reduceCtorEq, ↓reduceIte, Nat.reduceEqDiff, Nat.reduceAdd, Nat.reduceLT, Nat.reduceMul, Nat.reduceSub, Nat.reduceLeDiff, Int.reduceLT, Int.reduceLE, Int.reduceEq, Option.isSome_some, implies_true, false_implies, Prod.mk.injEq, ne_eq, not_false_eq_true, not_true_eq_false, ge_iff_le, gt_iff_lt, Int.toNat_natCast, Int.reduceToNat, Int.cast_ofNat_Int, Int.natCast_nonneg]
  refine CallsX.none hT ?_
  simp only [absE, absL, absF, reduceCtorEq, ↓reduceIte, Nat.reduceEqDiff, Nat.reduceAdd, Nat.reduceLT, Nat.reduceMul, Nat.reduceSub, Nat.reduceLeDiff, Int.reduceLT, Int.reduceLE, Int.reduceEq, Option.isSome_some, implies_true, false_implies, Prod.mk.injEq, ne_eq, not_false_eq_true, not_true_eq_false, ge_iff_le, gt_iff_lt, Int.toNat_natCast, Int.reduceToNat, Int.cast_ofNat_Int, Int.natCast_nonneg, Try.results37]
  refine ⟨by decide +kernel, ?_⟩
  exact ⟨[(14, 0)], by simp, by simp, by simp [renV, renVs, renAt, renFin, idx], by simp [renBlk, renSegs, renSg], by simp [renBlk, renSegs, renSg, Mem.get, assoc]⟩
theorem implSg_yes (n : Int) (t : List Int) (xs : List Int) (k : Nat) (ht : Bytes 100 t) (hx : xs.length = k) (hk : k ≤ 2 ^ 20) (h : decide (lcd1 n t xs k = 0) = true) :
    ACalls Try.prog 38 [.agg (sqS n t), .ref (.sl 0 0 0 0 k 1)] [.lv true [(0, .ints .i64 k xs)]] (fun v ms ns => v = .tup [.ref (.sl 1 0 0 0 (sgL n t xs k).length 1), .i .i64 0] ∧ ms = [.lv true [(0, .ints .i64 k xs)]] ∧ ns = [.lv true [(0, .ints .i64 (sgL n t xs k).length (sgL n t xs k))]]) := by
  have h := of_decide_eq_true h
  obtain ⟨h1, h2⟩ := lcd1_zero h
  obtain ⟨N, rfl, hs⟩ := loopB_nat h1
  have hN := hs.le
  have e : memL (setM (genB N t (inL xs k)) N).testBit 10 = sgL N t xs k := by unfold sgL; rw [Int.toNat_natCast]; exact setM_list hN
  have hT := setList_ok (setM (genB N t (inL xs k)) N) (setM_small hN)
  rw [e] at hT
  refine acalls_of_body mix Try.func38 rfl fok38 (Nat.le_of_ble_eq_true rfl) ?_
  unfold abody
  simp only [absE, absL, absF, reduceCtorEq, ↓reduceIte, Nat.reduceEqDiff, Nat.reduceAdd, Nat.reduceLT, Nat.reduceMul, Nat.reduceSub, Nat.reduceLeDiff, Int.reduceLT, Int.reduceLE, Int.reduceEq, Option.isSome_some, implies_true, false_implies, Prod.mk.injEq, ne_eq, not_false_eq_true, not_true_eq_false, ge_iff_le, gt_iff_lt, Int.toNat_natCast, Int.reduceToNat, Int.cast_ofNat_Int, Int.natCast_nonneg, Try.f38]
  refine CallsVia.args [(0, 0)] (listCode_ok N t xs k ht hx hk) (by simp) (by simp [Mem.get, assoc]) rfl rfl ?_
  rintro _ _ _ ⟨rfl, rfl, rfl⟩
  simp only [absE, absL, absF, reduceCtorEq, ↓reduceIte, Nat.reduceEqDiff, Nat.reduceAdd, Nat.reduceLT, Nat.reduceMul, Nat.reduceSub, Nat.reduceLeDiff, Int.reduceLT, Int.reduceLE, Int.reduceEq, Option.isSome_some, implies_true, false_implies, Prod.mk.injEq, ne_eq, not_false_eq_true, not_true_eq_false, ge_iff_le, gt_iff_lt, Int.toNat_natCast, Int.reduceToNat, Int.cast_ofNat_Int, Int.natCast_nonneg, h]
  refine CallsX.args [(0, 0)] (setOf_ok N xs k hs.le hk h2) (by simp) (by simp [Mem.get]) rfl rfl ?_
  simp only [absE, absL, absF, reduceCtorEq, ↓reduceIte, Nat.reduceEqDiff, Nat.reduceAdd, Nat.reduceLT, Nat.reduceMul, Nat.reduceSub, Nat.reduceLeDiff, Int.reduceLT, Int.reduceLE, Int.reduceEq, Option.isSome_some, implies_true, false_implies, Prod.mk.injEq, ne_eq, not_false_eq_true, not_true_eq_false, ge_iff_le, gt_iff_lt, Int.toNat_natCast, Int.reduceToNat, Int.cast_ofNat_Int, Int.natCast_nonneg]
  refine CallsX.none (generated_ok N t (setN xs k) (inL xs k) ht hs (setN_lt fun j hj => (h2.el_eq hj).2) fun z => setN_bit) ?_
  simp only [absE, absL, absF, reduceCtorEq, ↓reduceIte, Nat.reduceEqDiff, Nat.reduceAdd, Nat.reduceLT, Nat.reduceMul, Nat.reduceSub, Nat.reduceLeDiff, Int.reduceLT, Int.reduceLE, Int.reduceEq, Option.isSome_some, implies_true, false_implies, Prod.mk.injEq, ne_eq, not_false_eq_true, not_true_eq_false, ge_iff_le, gt_iff_lt, Int.toNat_natCast, Int.reduceToNat, Int.cast_ofNat_Int, Int.natCast_nonneg]
  refine CallsX.none hT ?_
  simp only [absE, absL, absF, reduceCtorEq, ↓reduceIte, Nat.reduceEqDiff, Nat.reduceAdd, Nat.reduceLT, Nat.reduceMul, Nat.reduceSub, Nat.reduceLeDiff, Int.reduceLT, Int.reduceLE, Int.reduceEq, Option.isSome_some, implies_true, false_implies, Prod.mk.injEq, ne_eq, not_false_eq_true, not_true_eq_false, ge_iff_le, gt_iff_lt, Int.toNat_natCast, Int.reduceToNat, Int.cast_ofNat_Int, Int.natCast_nonneg, Try.results38]
  refine ⟨by decide +kernel, ?_⟩
  exact ⟨[(14, 0)], by simp, by simp, by simp [renV, renVs, renAt, renFin, idx], by simp [renBlk, renSegs, renSg], by simp [renBlk, renSegs, renSg, Mem.get, assoc]⟩
theorem implSg_no (n : Int) (t : List Int) (xs : List Int) (k : Nat) (ht : Bytes 100 t) (hx : xs.length = k) (hk : k ≤ 2 ^ 20) (h : decide (lcd1 n t xs k = 0) = false) :
    ACalls Try.prog 38 [.agg (sqS n t), .ref (.sl 0 0 0 0 k 1)] [.lv true [(0, .ints .i64 k xs)]] (fun v ms ns => v = .tup [.ref .nils, .i .i64 (lcd1 n t xs k)] ∧ ms = [.lv true [(0, .ints .i64 k xs)]] ∧ ns = []) := by
  have h := of_decide_eq_false h
  refine acalls_of_body mix Try.func38 rfl fok38 (Nat.le_of_ble_eq_true rfl) ?_
  unfold abody
  simp only [absE, absL, absF, reduceCtorEq, ↓reduceIte, Nat.reduceEqDiff, Nat.reduceAdd, Nat.reduceLT, Nat.reduceMul, Nat.reduceSub, Nat.reduceLeDiff, Int.reduceLT, Int.reduceLE, Int.reduceEq, Option.isSome_some, implies_true, false_implies, Prod.mk.injEq, ne_eq, not_false_eq_true, not_true_eq_false, ge_iff_le, gt_iff_lt, Int.toNat_natCast, Int.reduceToNat, Int.cast_ofNat_Int, Int.natCast_nonneg, Try.f38]
  refine CallsVia.args [(0, 0)] (listCode_ok n t xs k ht hx hk) (by simp) (by simp [Mem.get, assoc]) rfl rfl ?_
  rintro _ _ _ ⟨rfl, rfl, rfl⟩
  simp only [absE, absL, absF, reduceCtorEq, ↓reduceIte, Nat.reduceEqDiff, Nat.reduceAdd, Nat.reduceLT, Nat.reduceMul, Nat.reduceSub, Nat.reduceLeDiff, Int.reduceLT, Int.reduceLE, Int.reduceEq, Option.isSome_some, implies_true, false_implies, Prod.mk.injEq, ne_eq, not_false_eq_true, not_true_eq_false, ge_iff_le, gt_iff_lt, Int.toNat_natCast, Int.reduceToNat, Int.cast_ofNat_Int, Int.natCast_nonneg, h, Try.results38]
  exact ⟨[], by simp, by simp, by simp [renV, renVs, renAt, renBlk, renSegs, renSg]⟩
theorem specSg_no (n : Int) (t : List Int) (xs : List Int) (k : Nat) (ht : Bytes 100 t) (hx : xs.length = k) (hk : k ≤ 2 ^ 20) (h : decide (lcd1 n t xs k = 0) = false) :
    ACalls Try.prog 37 [.agg (sqS n t), .ref (.sl 0 0 0 0 k 1)] [.lv true [(0, .ints .i64 k xs)]] (fun v ms ns => v = .tup [.ref .nils, .i .i64 (lcd1 n t xs k)] ∧ ms = [.lv true [(0, .ints .i64 k xs)]] ∧ ns = []) := by
  have h := of_decide_eq_false h
  refine acalls_of_body mix Try.func37 rfl fok37 (Nat.le_of_ble_eq_true rfl) ?_
  unfold abody
  simp only [absE, absL, absF, reduceCtorEq, ↓reduceIte, Nat.reduceEqDiff, Nat.reduceAdd, Nat.reduceLT, Nat.reduceMul, Nat.reduceSub, Nat.reduceLeDiff, Int.reduceLT, Int.reduceLE, Int.reduceEq, Option.isSome_some, implies_true, false_implies, Prod.mk.injEq, ne_eq, not_false_eq_true, not_true_eq_false, ge_iff_le, gt_iff_lt, Int.toNat_natCast, Int.reduceToNat, Int.cast_ofNat_Int, Int.natCast_nonneg, Try.f37]
  refine CallsVia.args [(0, 0)] (l05Both_ok n t xs k ht hx hk) (by simp) (by simp [Mem.get, assoc]) rfl rfl ?_
  rintro _ _ _ ⟨rfl, rfl, rfl⟩
  simp only [absE, absL, absF, reduceCtorEq, ↓reduceIte, Nat.reduceEqDiff, Nat.reduceAdd, Nat.reduceLT, Nat.reduceMul, Nat.reduceSub, Nat.reduceLeDiff, Int.reduceLT, Int.reduceLE, Int.reduceEq, Option.isSome_some, implies_true, false_implies, Prod.mk.injEq, ne_eq, not_false_eq_true, not_true_eq_false, ge_iff_le, gt_iff_lt, Int.toNat_natCast, Int.reduceToNat, Int.cast_ofNat_Int, Int.natCast_nonneg, h, Try.results37]
  exact ⟨[], by simp, by simp, by simp [renV, renVs, renAt, renBlk, renSegs, renSg]⟩
theorem sgL_len {n : Int} {t : List Int} {xs : List Int} {k : Nat} (h : decide (lcd1 n t xs k = 0) = true) : (sgL n t xs k).length < 2 ^ 40 := by
  have := loopB_le (lcd1_zero (of_decide_eq_true h)).1
  have := memL_len (p := genB n.toNat t (inL xs k)) (k := n.toNat)
  unfold sgL; omega

end Go.Proofs.Ytnophcdinideaaa
