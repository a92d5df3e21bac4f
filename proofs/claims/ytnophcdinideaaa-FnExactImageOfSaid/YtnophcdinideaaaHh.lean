/-
Contracts of functions of the given program, by the abstract walk.
-/
import Derived.Test.YtnophcdinideaaaAbsW
import Derived.Test.YtnophcdinideaaaHg
namespace Go.Proofs.Ytnophcdinideaaa
open Go Go.Abs
set_option linter.unusedVariables false
set_option linter.unusedSectionVars false
set_option linter.unusedSimpArgs false
set_option maxRecDepth 100000
open Classical in
noncomputable def inLB (xs : List Int) (k y : Nat) : Bool := decide (inL xs k y)
theorem inLB_true {xs : List Int} {k y : Nat} (h : inL xs k y) : inLB xs k y = true := by unfold inLB; exact @decide_eq_true _ (_) h
theorem inLB_false {xs : List Int} {k y : Nat} (h : ¬inL xs k y) : inLB xs k y = false := by unfold inLB; exact @decide_eq_false _ (_) h
theorem inLB_iff {xs : List Int} {k y : Nat} : inLB xs k y = true ↔ inL xs k y := by unfold inLB; exact @decide_eq_true_iff _ (_)
def kerP (xs : List Int) (x : Nat) : Bool := decide (el xs x = 0)
noncomputable def kerL (n : Int) (xs : List Int) : List Int := memL (kerP xs) n.toNat
noncomputable def imL (n' : Int) (xs : List Int) (k : Nat) : List Int := memL (inLB xs k) n'.toNat
theorem l01Has_ok (M : Nat) (xs : List Int) (k y : Nat) (hk : k ≤ 2 ^ 20) (hI : ImgP M xs k) :
    ACalls Try.prog 84 [.ref (.sl 0 0 0 0 k 1), .i .i64 y] [.lv true [(0, .ints .i64 k xs)]] (fun v ms ns => v = .b (inLB xs k y) ∧ ms = [.lv true [(0, .ints .i64 k xs)]] ∧ ns = []) := by
  refine acalls_of_body mix Try.func84 rfl fok84 (Nat.le_of_ble_eq_true rfl) ?_
  unfold abody
  simp only [absE, absL, absF, reduceCtorEq, ↓reduceIte, Nat.reduceEqDiff, Nat.reduceAdd, Nat.reduceLT, Nat.reduceMul, Nat.reduceSub, Nat.reduceLeDiff, Int.reduceLT, Int.reduceLE, Int.reduceEq, Option.isSome_some, implies_true, false_implies, Prod.mk.injEq, ne_eq, not_false_eq_true, not_true_eq_false, ge_iff_le, gt_iff_lt, Int.toNat_natCast, Int.reduceToNat, Int.cast_ofNat_Int, Int.natCast_nonneg, Try.f84]
  refine awpLoop.intro (fun i : Nat => [(0, .ref (.sl 0 0 0 0 k 1)), (1, .i .i64 y), (5, .i .i64 i)]) (fun i => ⟨[.lv true [(0, .ints .i64 k xs)]], [], 3⟩) (fun i => i ≤ k ∧ ¬inL xs i y) (fun i => k - i) 0 ⟨by omega, by simp [inL]⟩ ⟨[], rfl, ?_, ?_⟩ ?_
  · simp [wkEnv, lk, renV, renAt, renTo]
  · simp [wkMem, wkLoc, Mem.get, assoc, renBlk, renSegs, renSg, renTo]
  · rintro i ⟨hi, hq⟩
    by_cases h : (i : Int) < k
    · have w := wrap_i64s (show i < 2 ^ 62 by omega)
      have v1 : 0 + i * 1 < k := by omega
      obtain ⟨e0, l0⟩ := hI.el_eq (show i < k by omega)
      by_cases he : el xs i = y
      · have g : ((el xs i : Nat) : Int) = y := by omega
        simp only [absE, absL, absF, reduceCtorEq, ↓reduceIte, Nat.reduceEqDiff, Nat.reduceAdd, Nat.reduceLT, Nat.reduceMul, Nat.reduceSub, Nat.reduceLeDiff, Int.reduceLT, Int.reduceLE, Int.reduceEq, Option.isSome_some, implies_true, false_implies, Prod.mk.injEq, ne_eq, not_false_eq_true, not_true_eq_false, ge_iff_le, gt_iff_lt, Int.toNat_natCast, Int.reduceToNat, Int.cast_ofNat_Int, Int.natCast_nonneg, h, v1, e0, g, Try.results84]
        have hf : inLB xs k y = true := inLB_true ⟨i, by omega, he⟩
        exact ⟨[], by simp, by simp, by simp [renV, renVs, renSegs, renSg, renBlk, hf]⟩
      · have g : ¬((el xs i : Nat) : Int) = y := by omega
        simp only [absE, absL, absF, reduceCtorEq, ↓reduceIte, Nat.reduceEqDiff, Nat.reduceAdd, Nat.reduceLT, Nat.reduceMul, Nat.reduceSub, Nat.reduceLeDiff, Int.reduceLT, Int.reduceLE, Int.reduceEq, Option.isSome_some, implies_true, false_implies, Prod.mk.injEq, ne_eq, not_false_eq_true, not_true_eq_false, ge_iff_le, gt_iff_lt, Int.toNat_natCast, Int.reduceToNat, Int.cast_ofNat_Int, Int.natCast_nonneg, h, v1, e0, g]
        refine LoopNext.intro (i + 1) ⟨by omega, fun hu => (inL_step.1 hu).elim hq he⟩ (by omega) ⟨[], rfl, ?_, ?_⟩
        · simp [wkEnv, lk, renV, renAt, renTo, w]
        · simp [wkMem, wkLoc, Mem.get, assoc, renBlk, renSegs, renSg, renTo, w]
    · obtain rfl : i = k := by omega
      simp only [absE, absL, absF, reduceCtorEq, ↓reduceIte, Nat.reduceEqDiff, Nat.reduceAdd, Nat.reduceLT, Nat.reduceMul, Nat.reduceSub, Nat.reduceLeDiff, Int.reduceLT, Int.reduceLE, Int.reduceEq, Option.isSome_some, implies_true, false_implies, Prod.mk.injEq, ne_eq, not_false_eq_true, not_true_eq_false, ge_iff_le, gt_iff_lt, Int.toNat_natCast, Int.reduceToNat, Int.cast_ofNat_Int, Int.natCast_nonneg, h, Try.results84]
      have hf : inLB xs i y = false := inLB_false hq
      exact ⟨[], by simp, by simp, by simp [renV, renVs, renSegs, renSg, renBlk, hf]⟩
theorem setOfG_ok (M : Nat) (xs : List Int) (k : Nat) (hN : M ≤ 10) (hk : k ≤ 2 ^ 20) (h : ImgP M xs k) :
    ACalls Try.prog 74 [.ref (.sl 0 0 0 0 k 1)] [.lv true [(0, .ints .i64 k xs)]] (fun v ms ns => v = .i .i64 (setN xs k) ∧ ms = [.lv true [(0, .ints .i64 k xs)]] ∧ ns = []) := by
  have hN2 : (2 : Nat) ^ M ≤ 2 ^ 10 := Nat.pow_le_pow_right (by decide) hN
  refine acalls_of_body mix Try.func74 rfl fok74 (Nat.le_of_ble_eq_true rfl) ?_
  unfold abody
  simp only [absE, absL, absF, reduceCtorEq, ↓reduceIte, Nat.reduceEqDiff, Nat.reduceAdd, Nat.reduceLT, Nat.reduceMul, Nat.reduceSub, Nat.reduceLeDiff, Int.reduceLT, Int.reduceLE, Int.reduceEq, Option.isSome_some, implies_true, false_implies, Prod.mk.injEq, ne_eq, not_false_eq_true, not_true_eq_false, ge_iff_le, gt_iff_lt, Int.toNat_natCast, Int.reduceToNat, Int.cast_ofNat_Int, Int.natCast_nonneg, Try.f74]
  refine awpLoop.intro (fun i : Nat => [(0, .ref (.sl 0 0 0 0 k 1)), (3, .i .i64 (setN xs i : Nat)), (6, .ref (.sl 0 0 0 0 k 1)), (7, .i .i64 k), (8, .i .i64 i)]) (fun i => ⟨[.lv true [(0, .ints .i64 k xs)]], [], 6⟩) (fun i => i ≤ k) (fun i => k - i) 0 (by omega) ⟨[], rfl, ?_, ?_⟩ ?_
  · simp [wkEnv, lk, renV, renAt, renTo, setN]
  · simp [wkMem, wkLoc, Mem.get, assoc, renBlk, renSegs, renSg, renTo, setN]
  · intro i hi
    by_cases h' : (i : Int) < k
    · have w := wrap_i64s (show i < 2 ^ 62 by omega)
      have v1 : 0 + i * 1 < k := by omega
      obtain ⟨e0, l0⟩ := h.el_eq (show i < k by omega)
      have hl1 := setN_lt (xs := xs) (N := M) (i := i) fun j hj => (h.el_eq (show j < k by omega)).2
      have hl2 : (2 : Nat) ^ el xs i ≤ 2 ^ 10 := Nat.pow_le_pow_right (by decide) (by omega)
      have s1 := wrap_shl (c := el xs i) (by omega)
      have o1 := wrap_or (a := setN xs i) (b := 2 ^ el xs i) (by omega) (by omega)
      simp only [absE, absL, absF, reduceCtorEq, ↓reduceIte, Nat.reduceEqDiff, Nat.reduceAdd, Nat.reduceLT, Nat.reduceMul, Nat.reduceSub, Nat.reduceLeDiff, Int.reduceLT, Int.reduceLE, Int.reduceEq, Option.isSome_some, implies_true, false_implies, Prod.mk.injEq, ne_eq, not_false_eq_true, not_true_eq_false, ge_iff_le, gt_iff_lt, Int.toNat_natCast, Int.reduceToNat, Int.cast_ofNat_Int, Int.natCast_nonneg, h', v1, e0, s1, o1]
      refine LoopNext.intro (i + 1) (by omega) (by omega) ⟨[], rfl, ?_, ?_⟩
      · simp [wkEnv, lk, renV, renAt, renTo, w, setN]
      · simp [wkMem, wkLoc, Mem.get, assoc, renBlk, renSegs, renSg, renTo, w, setN]
    · obtain rfl : i = k := by omega
      simp only [absE, absL, absF, reduceCtorEq, ↓reduceIte, Nat.reduceEqDiff, Nat.reduceAdd, Nat.reduceLT, Nat.reduceMul, Nat.reduceSub, Nat.reduceLeDiff, Int.reduceLT, Int.reduceLE, Int.reduceEq, Option.isSome_some, implies_true, false_implies, Prod.mk.injEq, ne_eq, not_false_eq_true, not_true_eq_false, ge_iff_le, gt_iff_lt, Int.toNat_natCast, Int.reduceToNat, Int.cast_ofNat_Int, Int.natCast_nonneg, h', Try.results74]
      exact ⟨[], by simp, by simp, by simp [renV, renVs, renSegs, renSg, renBlk]⟩
theorem kernel1_ok (N : Nat) (M : Nat) (xs : List Int) (k : Nat) (hN : N ≤ 10) (hk : k = N) (hI : ImgP M xs k) (x : Nat) (hxN : x < N) :
    ACalls Try.prog 83 [.i .u8 x, .ref (.ptr 0 0 0 0)] [.lv true [(0, .cells 1 [.sl 0 1 0 0 k 1])], .lv true [(0, .ints .i64 k xs)]]
      (fun v ms ns => v = .b (kerP xs x) ∧ ms = [.lv true [(0, .cells 1 [.sl 0 1 0 0 k 1])], .lv true [(0, .ints .i64 k xs)]] ∧ ns = []) := by
  obtain ⟨a1, a2⟩ := hI.el_eq (show x < k by omega)
  have l1 : (x : Int) < k := by omega
  have v1 : 0 + x * 1 < k := by omega
  refine acalls_of_body mix Try.func83 rfl fok83 (Nat.le_of_ble_eq_true rfl) ?_
  unfold abody
  by_cases hc : el xs x = 0
  · have g : ((el xs x : Nat) : Int) = 0 := by omega
    simp only [absE, absL, absF, reduceCtorEq, ↓reduceIte, Nat.reduceEqDiff, Nat.reduceAdd, Nat.reduceLT, Nat.reduceMul, Nat.reduceSub, Nat.reduceLeDiff, Int.reduceLT, Int.reduceLE, Int.reduceEq, Option.isSome_some, implies_true, false_implies, Prod.mk.injEq, ne_eq, not_false_eq_true, not_true_eq_false, ge_iff_le, gt_iff_lt, Int.toNat_natCast, Int.reduceToNat, Int.cast_ofNat_Int, Int.natCast_nonneg, l1, v1, a1, g, Try.f83, Try.results83]
    exact ⟨[], by simp, by simp, by simp [renV, renVs, renSegs, renSg, renBlk, renAt, renTo, renFin, idx, kerP, hc]⟩
  · have g : ¬((el xs x : Nat) : Int) = 0 := by omega
    simp only [absE, absL, absF, reduceCtorEq, ↓reduceIte, Nat.reduceEqDiff, Nat.reduceAdd, Nat.reduceLT, Nat.reduceMul, Nat.reduceSub, Nat.reduceLeDiff, Int.reduceLT, Int.reduceLE, Int.reduceEq, Option.isSome_some, implies_true, false_implies, Prod.mk.injEq, ne_eq, not_false_eq_true, not_true_eq_false, ge_iff_le, gt_iff_lt, Int.toNat_natCast, Int.reduceToNat, Int.cast_ofNat_Int, Int.natCast_nonneg, l1, v1, a1, g, Try.f83, Try.results83]
    exact ⟨[], by simp, by simp, by simp [renV, renVs, renSegs, renSg, renBlk, renAt, renTo, renFin, idx, kerP, hc]⟩
theorem implKer_no (n : Int) (t : List Int) (n' : Int) (t' : List Int) (xs : List Int) (k : Nat) (ht : Bytes 100 t) (ht' : Bytes 100 t') (hx : xs.length = k) (hk : k ≤ 2 ^ 20) (h : decide (hcd n t n' t' xs k = 0) = false) :
    ACalls Try.prog 40 [.agg (sqS n t), .agg (sqS n' t'), .ref (.sl 0 0 0 0 k 1)] [.lv true [(0, .ints .i64 k xs)]] (fun v ms ns => v = .tup [.ref .nils, .i .i64 (hcd n t n' t' xs k)] ∧ ms = [.lv true [(0, .ints .i64 k xs)]] ∧ ns = []) := by
  have h := of_decide_eq_false h
  refine acalls_of_body mix Try.func40 rfl fok40 (Nat.le_of_ble_eq_true rfl) ?_
  unfold abody
  simp only [absE, absL, absF, reduceCtorEq, ↓reduceIte, Nat.reduceEqDiff, Nat.reduceAdd, Nat.reduceLT, Nat.reduceMul, Nat.reduceSub, Nat.reduceLeDiff, Int.reduceLT, Int.reduceLE, Int.reduceEq, Option.isSome_some, implies_true, false_implies, Prod.mk.injEq, ne_eq, not_false_eq_true, not_true_eq_false, ge_iff_le, gt_iff_lt, Int.toNat_natCast, Int.reduceToNat, Int.cast_ofNat_Int, Int.natCast_nonneg, Try.f40]
  refine CallsVia.args [(0, 0)] (homomorphismCode_ok n n' t t' xs k ht ht' hx hk) (by simp) (by simp [Mem.get, assoc]) rfl rfl ?_
  rintro _ _ _ ⟨rfl, rfl, rfl⟩
  simp only [absE, absL, absF, reduceCtorEq, ↓reduceIte, Nat.reduceEqDiff, Nat.reduceAdd, Nat.reduceLT, Nat.reduceMul, Nat.reduceSub, Nat.reduceLeDiff, Int.reduceLT, Int.reduceLE, Int.reduceEq, Option.isSome_some, implies_true, false_implies, Prod.mk.injEq, ne_eq, not_false_eq_true, not_true_eq_false, ge_iff_le, gt_iff_lt, Int.toNat_natCast, Int.reduceToNat, Int.cast_ofNat_Int, Int.natCast_nonneg, h, Try.results40]
  exact ⟨[], by simp, by simp, by simp [renV, renVs, renAt, renBlk, renSegs, renSg]⟩
theorem specKer_no (n : Int) (t : List Int) (n' : Int) (t' : List Int) (xs : List Int) (k : Nat) (ht : Bytes 100 t) (ht' : Bytes 100 t') (hx : xs.length = k) (hk : k ≤ 2 ^ 20) (h : decide (hcd n t n' t' xs k = 0) = false) :
    ACalls Try.prog 39 [.agg (sqS n t), .agg (sqS n' t'), .ref (.sl 0 0 0 0 k 1)] [.lv true [(0, .ints .i64 k xs)]] (fun v ms ns => v = .tup [.ref .nils, .i .i64 (hcd n t n' t' xs k)] ∧ ms = [.lv true [(0, .ints .i64 k xs)]] ∧ ns = []) := by
  have h := of_decide_eq_false h
  refine acalls_of_body mix Try.func39 rfl fok39 (Nat.le_of_ble_eq_true rfl) ?_
  unfold abody
  simp only [absE, absL, absF, reduceCtorEq, ↓reduceIte, Nat.reduceEqDiff, Nat.reduceAdd, Nat.reduceLT, Nat.reduceMul, Nat.reduceSub, Nat.reduceLeDiff, Int.reduceLT, Int.reduceLE, Int.reduceEq, Option.isSome_some, implies_true, false_implies, Prod.mk.injEq, ne_eq, not_false_eq_true, not_true_eq_false, ge_iff_le, gt_iff_lt, Int.toNat_natCast, Int.reduceToNat, Int.cast_ofNat_Int, Int.natCast_nonneg, Try.f39]
  refine CallsVia.args [(0, 0)] (l06Hom_ok n n' t t' xs k ht ht' hx hk) (by simp) (by simp [Mem.get, assoc]) rfl rfl ?_
  rintro _ _ _ ⟨rfl, rfl, rfl⟩
  simp only [absE, absL, absF, reduceCtorEq, ↓reduceIte, Nat.reduceEqDiff, Nat.reduceAdd, Nat.reduceLT, Nat.reduceMul, Nat.reduceSub, Nat.reduceLeDiff, Int.reduceLT, Int.reduceLE, Int.reduceEq, Option.isSome_some, implies_true, false_implies, Prod.mk.injEq, ne_eq, not_false_eq_true, not_true_eq_false, ge_iff_le, gt_iff_lt, Int.toNat_natCast, Int.reduceToNat, Int.cast_ofNat_Int, Int.natCast_nonneg, h, Try.results39]
  exact ⟨[], by simp, by simp, by simp [renV, renVs, renAt, renBlk, renSegs, renSg]⟩
theorem implIm_no (n : Int) (t : List Int) (n' : Int) (t' : List Int) (xs : List Int) (k : Nat) (ht : Bytes 100 t) (ht' : Bytes 100 t') (hx : xs.length = k) (hk : k ≤ 2 ^ 20) (h : decide (hcd n t n' t' xs k = 0) = false) :
    ACalls Try.prog 42 [.agg (sqS n t), .agg (sqS n' t'), .ref (.sl 0 0 0 0 k 1)] [.lv true [(0, .ints .i64 k xs)]] (fun v ms ns => v = .tup [.ref .nils, .i .i64 (hcd n t n' t' xs k)] ∧ ms = [.lv true [(0, .ints .i64 k xs)]] ∧ ns = []) := by
  have h := of_decide_eq_false h
  refine acalls_of_body mix Try.func42 rfl fok42 (Nat.le_of_ble_eq_true rfl) ?_
  unfold abody
  simp only [absE, absL, absF, reduceCtorEq, ↓reduceIte, Nat.reduceEqDiff, Nat.reduceAdd, Nat.reduceLT, Nat.reduceMul, Nat.reduceSub, Nat.reduceLeDiff, Int.reduceLT, Int.reduceLE, Int.reduceEq, Option.isSome_some, implies_true, false_implies, Prod.mk.injEq, ne_eq, not_false_eq_true, not_true_eq_false, ge_iff_le, gt_iff_lt, Int.toNat_natCast, Int.reduceToNat, Int.cast_ofNat_Int, Int.natCast_nonneg, Try.f42]
  refine CallsVia.args [(0, 0)] (homomorphismCode_ok n n' t t' xs k ht ht' hx hk) (by simp) (by simp [Mem.get, assoc]) rfl rfl ?_
  rintro _ _ _ ⟨rfl, rfl, rfl⟩
  simp only [absE, absL, absF, reduceCtorEq, ↓reduceIte, Nat.reduceEqDiff, Nat.reduceAdd, Nat.reduceLT, Nat.reduceMul, Nat.reduceSub, Nat.reduceLeDiff, Int.reduceLT, Int.reduceLE, Int.reduceEq, Option.isSome_some, implies_true, false_implies, Prod.mk.injEq, ne_eq, not_false_eq_true, not_true_eq_false, ge_iff_le, gt_iff_lt, Int.toNat_natCast, Int.reduceToNat, Int.cast_ofNat_Int, Int.natCast_nonneg, h, Try.results42]
  exact ⟨[], by simp, by simp, by simp [renV, renVs, renAt, renBlk, renSegs, renSg]⟩
theorem specIm_no (n : Int) (t : List Int) (n' : Int) (t' : List Int) (xs : List Int) (k : Nat) (ht : Bytes 100 t) (ht' : Bytes 100 t') (hx : xs.length = k) (hk : k ≤ 2 ^ 20) (h : decide (hcd n t n' t' xs k = 0) = false) :
    ACalls Try.prog 41 [.agg (sqS n t), .agg (sqS n' t'), .ref (.sl 0 0 0 0 k 1)] [.lv true [(0, .ints .i64 k xs)]] (fun v ms ns => v = .tup [.ref .nils, .i .i64 (hcd n t n' t' xs k)] ∧ ms = [.lv true [(0, .ints .i64 k xs)]] ∧ ns = []) := by
  have h := of_decide_eq_false h
  refine acalls_of_body mix Try.func41 rfl fok41 (Nat.le_of_ble_eq_true rfl) ?_
  unfold abody
  simp only [absE, absL, absF, reduceCtorEq, ↓reduceIte, Nat.reduceEqDiff, Nat.reduceAdd, Nat.reduceLT, Nat.reduceMul, Nat.reduceSub, Nat.reduceLeDiff, Int.reduceLT, Int.reduceLE, Int.reduceEq, Option.isSome_some, implies_true, false_implies, Prod.mk.injEq, ne_eq, not_false_eq_true, not_true_eq_false, ge_iff_le, gt_iff_lt, Int.toNat_natCast, Int.reduceToNat, Int.cast_ofNat_Int, Int.natCast_nonneg, Try.f41]
  refine CallsVia.args [(0, 0)] (l06Hom_ok n n' t t' xs k ht ht' hx hk) (by simp) (by simp [Mem.get, assoc]) rfl rfl ?_
  rintro _ _ _ ⟨rfl, rfl, rfl⟩
  simp only [absE, absL, absF, reduceCtorEq, ↓reduceIte, Nat.reduceEqDiff, Nat.reduceAdd, Nat.reduceLT, Nat.reduceMul, Nat.reduceSub, Nat.reduceLeDiff, Int.reduceLT, Int.reduceLE, Int.reduceEq, Option.isSome_some, implies_true, false_implies, Prod.mk.injEq, ne_eq, not_false_eq_true, not_true_eq_false, ge_iff_le, gt_iff_lt, Int.toNat_natCast, Int.reduceToNat, Int.cast_ofNat_Int, Int.natCast_nonneg, h, Try.results41]
  exact ⟨[], by simp, by simp, by simp [renV, renVs, renAt, renBlk, renSegs, renSg]⟩
theorem implKer_yes (n : Int) (t : List Int) (n' : Int) (t' : List Int) (xs : List Int) (k : Nat) (ht : Bytes 100 t) (ht' : Bytes 100 t') (hx : xs.length = k) (hk : k ≤ 2 ^ 20) (h : decide (hcd n t n' t' xs k = 0) = true) :
    ACalls Try.prog 40 [.agg (sqS n t), .agg (sqS n' t'), .ref (.sl 0 0 0 0 k 1)] [.lv true [(0, .ints .i64 k xs)]] (fun v ms ns => v = .tup [.ref (.sl 1 0 0 0 (kerL n xs).length 1), .i .i64 0] ∧ ms = [.lv true [(0, .ints .i64 k xs)]] ∧ ns = [.lv true [(0, .ints .i64 (kerL n xs).length (kerL n xs))]]) := by
  have h := of_decide_eq_true h
  obtain ⟨h1, h2, hI, hkN, -⟩ := hcd_zero h
  obtain ⟨N, rfl, hs⟩ := loopB_nat h1
  obtain ⟨M, rfl, hs'⟩ := loopB_nat h2
  rw [Int.toNat_natCast] at hI hkN
  have hN := hs.le
  have e : memL (setM (kerP xs) N).testBit 10 = kerL N xs := by unfold kerL; rw [Int.toNat_natCast]; exact setM_list hN
  have hT := setList_ok (setM (kerP xs) N) (setM_small hN)
  rw [e] at hT
  refine acalls_of_body mix Try.func40 rfl fok40 (Nat.le_of_ble_eq_true rfl) ?_
  unfold abody
  simp only [absE, absL, absF, reduceCtorEq, ↓reduceIte, Nat.reduceEqDiff, Nat.reduceAdd, Nat.reduceLT, Nat.reduceMul, Nat.reduceSub, Nat.reduceLeDiff, Int.reduceLT, Int.reduceLE, Int.reduceEq, Option.isSome_some, implies_true, false_implies, Prod.mk.injEq, ne_eq, not_false_eq_true, not_true_eq_false, ge_iff_le, gt_iff_lt, Int.toNat_natCast, Int.reduceToNat, Int.cast_ofNat_Int, Int.natCast_nonneg, Try.f40]
  refine CallsVia.args [(0, 0)] (homomorphismCode_ok N M t t' xs k ht ht' hx hk) (by simp) (by simp [Mem.get, assoc]) rfl rfl ?_
  rintro _ _ _ ⟨rfl, rfl, rfl⟩
  simp only [absE, absL, absF, reduceCtorEq, ↓reduceIte, Nat.reduceEqDiff, Nat.reduceAdd, Nat.reduceLT, Nat.reduceMul, Nat.reduceSub, Nat.reduceLeDiff, Int.reduceLT, Int.reduceLE, Int.reduceEq, Option.isSome_some, implies_true, false_implies, Prod.mk.injEq, ne_eq, not_false_eq_true, not_true_eq_false, ge_iff_le, gt_iff_lt, Int.toNat_natCast, Int.reduceToNat, Int.cast_ofNat_Int, Int.natCast_nonneg, h]
  refine CallsVia.args [(3, 0), (0, 0)] (thoseC_ok N t hN 83 (kerP xs) k xs (fun z hz => kernel1_ok N M xs k hN hkN hI z hz)) (by simp) (by simp [Mem.get, assoc]) rfl rfl ?_
  rintro _ _ _ ⟨rfl, rfl, rfl⟩
  simp only [absE, absL, absF, reduceCtorEq, ↓reduceIte, Nat.reduceEqDiff, Nat.reduceAdd, Nat.reduceLT, Nat.reduceMul, Nat.reduceSub, Nat.reduceLeDiff, Int.reduceLT, Int.reduceLE, Int.reduceEq, Option.isSome_some, implies_true, false_implies, Prod.mk.injEq, ne_eq, not_false_eq_true, not_true_eq_false, ge_iff_le, gt_iff_lt, Int.toNat_natCast, Int.reduceToNat, Int.cast_ofNat_Int, Int.natCast_nonneg]
  refine CallsVia.none hT ?_
  rintro _ _ _ ⟨rfl, rfl, rfl⟩
  simp only [absE, absL, absF, reduceCtorEq, ↓reduceIte, Nat.reduceEqDiff, Nat.reduceAdd, Nat.reduceLT, Nat.reduceMul, Nat.reduceSub, Nat.reduceLeDiff, Int.reduceLT, Int.reduceLE, Int.reduceEq, Option.isSome_some, implies_true, false_implies, Prod.mk.injEq, ne_eq, not_false_eq_true, not_true_eq_false, ge_iff_le, gt_iff_lt, Int.toNat_natCast, Int.reduceToNat, Int.cast_ofNat_Int, Int.natCast_nonneg, Try.results40]
  exact ⟨[(16, 0)], by simp, by simp, by simp [renV, renVs, renAt, renFin, idx], by simp [renBlk, renSegs, renSg], by simp [renBlk, renSegs, renSg, Mem.get, assoc]⟩
theorem implIm_yes (n : Int) (t : List Int) (n' : Int) (t' : List Int) (xs : List Int) (k : Nat) (ht : Bytes 100 t) (ht' : Bytes 100 t') (hx : xs.length = k) (hk : k ≤ 2 ^ 20) (h : decide (hcd n t n' t' xs k = 0) = true) :
    ACalls Try.prog 42 [.agg (sqS n t), .agg (sqS n' t'), .ref (.sl 0 0 0 0 k 1)] [.lv true [(0, .ints .i64 k xs)]] (fun v ms ns => v = .tup [.ref (.sl 1 0 0 0 (imL n' xs k).length 1), .i .i64 0] ∧ ms = [.lv true [(0, .ints .i64 k xs)]] ∧ ns = [.lv true [(0, .ints .i64 (imL n' xs k).length (imL n' xs k))]]) := by
  have h := of_decide_eq_true h
  obtain ⟨h1, h2, hI, hkN, -⟩ := hcd_zero h
  obtain ⟨N, rfl, hs⟩ := loopB_nat h1
  obtain ⟨M, rfl, hs'⟩ := loopB_nat h2
  rw [Int.toNat_natCast] at hI hkN
  have hM := hs'.le
  have hlt := setN_lt (xs := xs) (N := M) (i := k) fun j hj => (hI.el_eq hj).2
  have hM2 : (2 : Nat) ^ M ≤ 2 ^ 10 := Nat.pow_le_pow_right (by decide) hM
  have e : memL (setN xs k).testBit 10 = imL M xs k := by
    unfold imL
    rw [Int.toNat_natCast, memL_congr (q := inLB xs k) fun i hi => by rw [Bool.eq_iff_iff, setN_bit, inLB_iff]]
    exact memL_more hM fun i hi => inLB_false fun ⟨j, h1, h2⟩ => by have := (hI.el_eq h1).2; omega
  have hT := setList_ok (setN xs k) (by omega)
  rw [e] at hT
  refine acalls_of_body mix Try.func42 rfl fok42 (Nat.le_of_ble_eq_true rfl) ?_
  unfold abody
  simp only [absE, absL, absF, reduceCtorEq, ↓reduceIte, Nat.reduceEqDiff, Nat.reduceAdd, Nat.reduceLT, Nat.reduceMul, Nat.reduceSub, Nat.reduceLeDiff, Int.reduceLT, Int.reduceLE, Int.reduceEq, Option.isSome_some, implies_true, false_implies, Prod.mk.injEq, ne_eq, not_false_eq_true, not_true_eq_false, ge_iff_le, gt_iff_lt, Int.toNat_natCast, Int.reduceToNat, Int.cast_ofNat_Int, Int.natCast_nonneg, Try.f42]
  refine CallsVia.args [(0, 0)] (homomorphismCode_ok N M t t' xs k ht ht' hx hk) (by simp) (by simp [Mem.get, assoc]) rfl rfl ?_
  rintro _ _ _ ⟨rfl, rfl, rfl⟩
  simp only [absE, absL, absF, reduceCtorEq, ↓reduceIte, Nat.reduceEqDiff, Nat.reduceAdd, Nat.reduceLT, Nat.reduceMul, Nat.reduceSub, Nat.reduceLeDiff, Int.reduceLT, Int.reduceLE, Int.reduceEq, Option.isSome_some, implies_true, false_implies, Prod.mk.injEq, ne_eq, not_false_eq_true, not_true_eq_false, ge_iff_le, gt_iff_lt, Int.toNat_natCast, Int.reduceToNat, Int.cast_ofNat_Int, Int.natCast_nonneg, h]
  refine CallsVia.args [(0, 0)] (setOfG_ok M xs k hM hk hI) (by simp) (by simp [Mem.get, assoc]) rfl rfl ?_
  rintro _ _ _ ⟨rfl, rfl, rfl⟩
  simp only [absE, absL, absF, reduceCtorEq, ↓reduceIte, Nat.reduceEqDiff, Nat.reduceAdd, Nat.reduceLT, Nat.reduceMul, Nat.reduceSub, Nat.reduceLeDiff, Int.reduceLT, Int.reduceLE, Int.reduceEq, Option.isSome_some, implies_true, false_implies, Prod.mk.injEq, ne_eq, not_false_eq_true, not_true_eq_false, ge_iff_le, gt_iff_lt, Int.toNat_natCast, Int.reduceToNat, Int.cast_ofNat_Int, Int.natCast_nonneg]
  refine CallsVia.none hT ?_
  rintro _ _ _ ⟨rfl, rfl, rfl⟩
  simp only [absE, absL, absF, reduceCtorEq, ↓reduceIte, Nat.reduceEqDiff, Nat.reduceAdd, Nat.reduceLT, Nat.reduceMul, Nat.reduceSub, Nat.reduceLeDiff, Int.reduceLT, Int.reduceLE, Int.reduceEq, Option.isSome_some, implies_true, false_implies, Prod.mk.injEq, ne_eq, not_false_eq_true, not_true_eq_false, ge_iff_le, gt_iff_lt, Int.toNat_natCast, Int.reduceToNat, Int.cast_ofNat_Int, Int.natCast_nonneg, Try.results42]
  exact ⟨[(14, 0)], by simp, by simp, by simp [renV, renVs, renAt, renFin, idx], by simp [renBlk, renSegs, renSg], by simp [renBlk, renSegs, renSg, Mem.get, assoc]⟩
theorem specKer_yes (n : Int) (t : List Int) (n' : Int) (t' : List Int) (xs : List Int) (k : Nat) (ht : Bytes 100 t) (ht' : Bytes 100 t') (hx : xs.length = k) (hk : k ≤ 2 ^ 20) (h : decide (hcd n t n' t' xs k = 0) = true) :
    ACalls Try.prog 39 [.agg (sqS n t), .agg (sqS n' t'), .ref (.sl 0 0 0 0 k 1)] [.lv true [(0, .ints .i64 k xs)]] (fun v ms ns => v = .tup [.ref (.sl 1 0 0 0 (kerL n xs).length 1), .i .i64 0] ∧ ms = [.lv true [(0, .ints .i64 k xs)]] ∧ ns = [.lv true [(0, .ints .i64 (kerL n xs).length (kerL n xs))]]) := by
  have h := of_decide_eq_true h
  obtain ⟨h1, h2, hI, hkN, -⟩ := hcd_zero h
  obtain ⟨N, rfl, hs⟩ := loopB_nat h1
  obtain ⟨M, rfl, hs'⟩ := loopB_nat h2
  rw [Int.toNat_natCast] at hI hkN
  have hN := hs.le
  have ek : kerL N xs = memL (kerP xs) N := by unfold kerL; rw [Int.toNat_natCast]
  rw [ek]
  refine acalls_of_body mix Try.func39 rfl fok39 (Nat.le_of_ble_eq_true rfl) ?_
  unfold abody
  simp only [absE, absL, absF, reduceCtorEq, ↓reduceIte, Nat.reduceEqDiff, Nat.reduceAdd, Nat.reduceLT, Nat.reduceMul, Nat.reduceSub, Nat.reduceLeDiff, Int.reduceLT, Int.reduceLE, Int.reduceEq, Option.isSome_some, implies_true, false_implies, Prod.mk.injEq, ne_eq, not_false_eq_true, not_true_eq_false, ge_iff_le, gt_iff_lt, Int.toNat_natCast, Int.reduceToNat, Int.cast_ofNat_Int, Int.natCast_nonneg, Try.f39]
  refine CallsVia.args [(0, 0)] (l06Hom_ok N M t t' xs k ht ht' hx hk) (by simp) (by simp [Mem.get, assoc]) rfl rfl ?_
  rintro _ _ _ ⟨rfl, rfl, rfl⟩
  simp only [absE, absL, absF, reduceCtorEq, ↓reduceIte, Nat.reduceEqDiff, Nat.reduceAdd, Nat.reduceLT, Nat.reduceMul, Nat.reduceSub, Nat.reduceLeDiff, Int.reduceLT, Int.reduceLE, Int.reduceEq, Option.isSome_some, implies_true, false_implies, Prod.mk.injEq, ne_eq, not_false_eq_true, not_true_eq_false, ge_iff_le, gt_iff_lt, Int.toNat_natCast, Int.reduceToNat, Int.cast_ofNat_Int, Int.natCast_nonneg, h]
  refine awpLoop.intro (fun x : Nat => [(2, .ref (.sl 0 0 0 0 k 1)), (3, .ref (.ptr 1 0 0 0)), (4, .ref (.ptr 2 0 0 0)), (9, .ref (.sl 12 0 0 0 (memL (kerP xs) x).length 1)), (10, .i .i64 x)]) (fun x => ⟨[.lv true [(0, .ints .i64 k xs)]], [((1, 0), .lv true (sqS N t)), ((2, 0), .lv true (sqS M t')), ((12, 0), .lv true ([(0, .ints .i64 (memL (kerP xs) x).length (memL (kerP xs) x))]))], 15⟩)
    (fun x => x ≤ N) (fun x => N - x) 0 (by omega) ⟨[((1,0),(1,0)), ((2,0),(2,0)), ((12,0),(12,0))], rfl, ?_, ?_⟩ ?_
  · simp [wkEnv, lk, renV, renAt, renTo, memL]
  · simp [wkMem, wkLoc, Mem.get, assoc, renBlk, renSegs, renSg, renTo, memL]
  · intro x hxN
    have hl := memL_len (p := kerP xs) (k := x)
    by_cases h' : (x : Int) < N
    · have w := wrap_i64s (show x < 2 ^ 62 by omega)
      obtain ⟨a1, a2⟩ := hI.el_eq (show x < k by omega)
      have l1 : (x : Int) < k := by omega
      have v1 : 0 + x * 1 < k := by omega
      by_cases hc : el xs x = 0
      · have g : ((el xs x : Nat) : Int) = 0 := by omega
        have hb : kerP xs x = true := decide_eq_true hc
        have mx : (memL (kerP xs) x).length * 1 = (memL (kerP xs) x).length := Nat.mul_one _
        simp only [absE, absL, absF, reduceCtorEq, ↓reduceIte, Nat.reduceEqDiff, Nat.reduceAdd, Nat.reduceLT, Nat.reduceMul, Nat.reduceSub, Nat.reduceLeDiff, Int.reduceLT, Int.reduceLE, Int.reduceEq, Option.isSome_some, implies_true, false_implies, Prod.mk.injEq, ne_eq, not_false_eq_true, not_true_eq_false, ge_iff_le, gt_iff_lt, Int.toNat_natCast, Int.reduceToNat, Int.cast_ofNat_Int, Int.natCast_nonneg, h', l1, v1, a1, g, mx]
        refine ⟨by omega, by omega, LoopNext.intro (x + 1) (by omega) (by omega) ⟨[((1,0),(1,0)), ((2,0),(2,0)), ((27,0),(12,0))], rfl, ?_, ?_⟩⟩
        · simp [wkEnv, lk, renV, renAt, renTo, w, memL, hb]
        · simp [wkMem, wkLoc, Mem.get, assoc, renBlk, renSegs, renSg, renTo, w, memL, hb]
      · have g : ¬((el xs x : Nat) : Int) = 0 := by omega
        have hb : kerP xs x = false := decide_eq_false hc
        simp only [absE, absL, absF, reduceCtorEq, ↓reduceIte, Nat.reduceEqDiff, Nat.reduceAdd, Nat.reduceLT, Nat.reduceMul, Nat.reduceSub, Nat.reduceLeDiff, Int.reduceLT, Int.reduceLE, Int.reduceEq, Option.isSome_some, implies_true, false_implies, Prod.mk.injEq, ne_eq, not_false_eq_true, not_true_eq_false, ge_iff_le, gt_iff_lt, Int.toNat_natCast, Int.reduceToNat, Int.cast_ofNat_Int, Int.natCast_nonneg, h', l1, v1, a1, g]
        refine LoopNext.intro (x + 1) (by omega) (by omega) ⟨[((1,0),(1,0)), ((2,0),(2,0)), ((12,0),(12,0))], rfl, ?_, ?_⟩
        · simp [wkEnv, lk, renV, renAt, renTo, w, memL, hb]
        · simp [wkMem, wkLoc, Mem.get, assoc, renBlk, renSegs, renSg, renTo, w, memL, hb]
    · obtain rfl : x = N := by omega
      simp only [absE, absL, absF, reduceCtorEq, ↓reduceIte, Nat.reduceEqDiff, Nat.reduceAdd, Nat.reduceLT, Nat.reduceMul, Nat.reduceSub, Nat.reduceLeDiff, Int.reduceLT, Int.reduceLE, Int.reduceEq, Option.isSome_some, implies_true, false_implies, Prod.mk.injEq, ne_eq, not_false_eq_true, not_true_eq_false, ge_iff_le, gt_iff_lt, Int.toNat_natCast, Int.reduceToNat, Int.cast_ofNat_Int, Int.natCast_nonneg, h', Try.results39]
      exact ⟨[(12, 0)], by simp, by simp, by simp [renV, renVs, renAt, renFin, idx], by simp [renBlk, renSegs, renSg], by simp [renBlk, renSegs, renSg, Mem.get, assoc]⟩
theorem specIm_yes (n : Int) (t : List Int) (n' : Int) (t' : List Int) (xs : List Int) (k : Nat) (ht : Bytes 100 t) (ht' : Bytes 100 t') (hx : xs.length = k) (hk : k ≤ 2 ^ 20) (h : decide (hcd n t n' t' xs k = 0) = true) :
    ACalls Try.prog 41 [.agg (sqS n t), .agg (sqS n' t'), .ref (.sl 0 0 0 0 k 1)] [.lv true [(0, .ints .i64 k xs)]] (fun v ms ns => v = .tup [.ref (.sl 1 0 0 0 (imL n' xs k).length 1), .i .i64 0] ∧ ms = [.lv true [(0, .ints .i64 k xs)]] ∧ ns = [.lv true [(0, .ints .i64 (imL n' xs k).length (imL n' xs k))]]) := by
  have h := of_decide_eq_true h
  obtain ⟨h1, h2, hI, hkN, -⟩ := hcd_zero h
  obtain ⟨N, rfl, hs⟩ := loopB_nat h1
  obtain ⟨M, rfl, hs'⟩ := loopB_nat h2
  rw [Int.toNat_natCast] at hI hkN
  have hM := hs'.le
  have ek : imL M xs k = memL (inLB xs k) M := by unfold imL; rw [Int.toNat_natCast]
  rw [ek]
  refine acalls_of_body mix Try.func41 rfl fok41 (Nat.le_of_ble_eq_true rfl) ?_
  unfold abody
  simp only [absE, absL, absF, reduceCtorEq, ↓reduceIte, Nat.reduceEqDiff, Nat.reduceAdd, Nat.reduceLT, Nat.reduceMul, Nat.reduceSub, Nat.reduceLeDiff, Int.reduceLT, Int.reduceLE, Int.reduceEq, Option.isSome_some, implies_true, false_implies, Prod.mk.injEq, ne_eq, not_false_eq_true, not_true_eq_false, ge_iff_le, gt_iff_lt, Int.toNat_natCast, Int.reduceToNat, Int.cast_ofNat_Int, Int.natCast_nonneg, Try.f41]
  refine CallsVia.args [(0, 0)] (l06Hom_ok N M t t' xs k ht ht' hx hk) (by simp) (by simp [Mem.get, assoc]) rfl rfl ?_
  rintro _ _ _ ⟨rfl, rfl, rfl⟩
  simp only [absE, absL, absF, reduceCtorEq, ↓reduceIte, Nat.reduceEqDiff, Nat.reduceAdd, Nat.reduceLT, Nat.reduceMul, Nat.reduceSub, Nat.reduceLeDiff, Int.reduceLT, Int.reduceLE, Int.reduceEq, Option.isSome_some, implies_true, false_implies, Prod.mk.injEq, ne_eq, not_false_eq_true, not_true_eq_false, ge_iff_le, gt_iff_lt, Int.toNat_natCast, Int.reduceToNat, Int.cast_ofNat_Int, Int.natCast_nonneg, h]
  refine awpLoop.intro (fun x : Nat => [(2, .ref (.sl 0 0 0 0 k 1)), (3, .ref (.ptr 1 0 0 0)), (4, .ref (.ptr 2 0 0 0)), (9, .ref (.sl 12 0 0 0 (memL (inLB xs k) x).length 1)), (10, .i .i64 x)]) (fun x => ⟨[.lv true [(0, .ints .i64 k xs)]], [((1, 0), .lv true (sqS N t)), ((2, 0), .lv true (sqS M t')), ((12, 0), .lv true ([(0, .ints .i64 (memL (inLB xs k) x).length (memL (inLB xs k) x))]))], 15⟩)
    (fun x => x ≤ M) (fun x => M - x) 0 (by omega) ⟨[((1,0),(1,0)), ((2,0),(2,0)), ((12,0),(12,0))], rfl, ?_, ?_⟩ ?_
  · simp [wkEnv, lk, renV, renAt, renTo, memL]
  · simp [wkMem, wkLoc, Mem.get, assoc, renBlk, renSegs, renSg, renTo, memL]
  · intro x hxN
    have hl := memL_len (p := inLB xs k) (k := x)
    by_cases h' : (x : Int) < M
    · have w := wrap_i64s (show x < 2 ^ 62 by omega)
      simp only [absE, absL, absF, reduceCtorEq, ↓reduceIte, Nat.reduceEqDiff, Nat.reduceAdd, Nat.reduceLT, Nat.reduceMul, Nat.reduceSub, Nat.reduceLeDiff, Int.reduceLT, Int.reduceLE, Int.reduceEq, Option.isSome_some, implies_true, false_implies, Prod.mk.injEq, ne_eq, not_false_eq_true, not_true_eq_false, ge_iff_le, gt_iff_lt, Int.toNat_natCast, Int.reduceToNat, Int.cast_ofNat_Int, Int.natCast_nonneg, h']
      refine CallsVia.args [(0, 0)] (l01Has_ok M xs k x hk hI) (by simp) (by simp [Mem.get, assoc]) rfl rfl ?_
      rintro _ _ _ ⟨rfl, rfl, rfl⟩
      cases hb : inLB xs k x
      · simp only [absE, absL, absF, reduceCtorEq, ↓reduceIte, Nat.reduceEqDiff, Nat.reduceAdd, Nat.reduceLT, Nat.reduceMul, Nat.reduceSub, Nat.reduceLeDiff, Int.reduceLT, Int.reduceLE, Int.reduceEq, Option.isSome_some, implies_true, false_implies, Prod.mk.injEq, ne_eq, not_false_eq_true, not_true_eq_false, ge_iff_le, gt_iff_lt, Int.toNat_natCast, Int.reduceToNat, Int.cast_ofNat_Int, Int.natCast_nonneg]
        refine LoopNext.intro (x + 1) (by omega) (by omega) ⟨[((1,0),(1,0)), ((2,0),(2,0)), ((12,0),(12,0))], rfl, ?_, ?_⟩
        · simp [wkEnv, lk, renV, renAt, renTo, w, memL, hb]
        · simp [wkMem, wkLoc, Mem.get, assoc, renBlk, renSegs, renSg, renTo, w, memL, hb]
      · have mx : (memL (inLB xs k) x).length * 1 = (memL (inLB xs k) x).length := Nat.mul_one _
        simp only [absE, absL, absF, reduceCtorEq, ↓reduceIte, Nat.reduceEqDiff, Nat.reduceAdd, Nat.reduceLT, Nat.reduceMul, Nat.reduceSub, Nat.reduceLeDiff, Int.reduceLT, Int.reduceLE, Int.reduceEq, Option.isSome_some, implies_true, false_implies, Prod.mk.injEq, ne_eq, not_false_eq_true, not_true_eq_false, ge_iff_le, gt_iff_lt, Int.toNat_natCast, Int.reduceToNat, Int.cast_ofNat_Int, Int.natCast_nonneg, mx]
        refine ⟨by omega, by omega, LoopNext.intro (x + 1) (by omega) (by omega) ⟨[((1,0),(1,0)), ((2,0),(2,0)), ((25,0),(12,0))], rfl, ?_, ?_⟩⟩
        · simp [wkEnv, lk, renV, renAt, renTo, w, memL, hb]
        · simp [wkMem, wkLoc, Mem.get, assoc, renBlk, renSegs, renSg, renTo, w, memL, hb]
    · obtain rfl : x = M := by omega
      simp only [absE, absL, absF, reduceCtorEq, ↓reduceIte, Nat.reduceEqDiff, Nat.reduceAdd, Nat.reduceLT, Nat.reduceMul, Nat.reduceSub, Nat.reduceLeDiff, Int.reduceLT, Int.reduceLE, Int.reduceEq, Option.isSome_some, implies_true, false_implies, Prod.mk.injEq, ne_eq, not_false_eq_true, not_true_eq_false, ge_iff_le, gt_iff_lt, Int.toNat_natCast, Int.reduceToNat, Int.cast_ofNat_Int, Int.natCast_nonneg, h', Try.results41]
      exact ⟨[(12, 0)], by simp, by simp, by simp [renV, renVs, renAt, renFin, idx], by simp [renBlk, renSegs, renSg], by simp [renBlk, renSegs, renSg, Mem.get, assoc]⟩
theorem kerL_len {n : Int} {t : List Int} {n' : Int} {t' xs : List Int} {k : Nat} (h : decide (hcd n t n' t' xs k = 0) = true) : (kerL n xs).length < 2 ^ 40 := by
  have := loopB_le (hcd_zero (of_decide_eq_true h)).1
  have := memL_len (p := kerP xs) (k := n.toNat)
  unfold kerL; omega
theorem imL_len {n : Int} {t : List Int} {n' : Int} {t' xs : List Int} {k : Nat} (h : decide (hcd n t n' t' xs k = 0) = true) : (imL n' xs k).length < 2 ^ 40 := by
  have := loopB_le (hcd_zero (of_decide_eq_true h)).2.1
  have := memL_len (p := inLB xs k) (k := n'.toNat)
  unfold imL; omega

end Go.Proofs.Ytnophcdinideaaa
