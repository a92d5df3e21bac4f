/-
Contracts of functions of the given program, by the abstract walk.
-/
import Derived.Test.YtgcfkdgdlllgjaaAbsW
import Derived.Test.YtgcfkdgdlllgjaaDl
import Derived.Test.YtgcfkdgdlllgjaaDp
namespace Go.Proofs.Ytgcfkdgdlllgjaa
open Go Go.Abs
set_option linter.unusedVariables false
set_option linter.unusedSectionVars false
set_option linter.unusedSimpArgs false
set_option maxRecDepth 100000
def symB (N : Nat) (t : List Int) (k : Nat) : Bool := decide (mkT (paraG N t k) N N = t)
def symL (N : Nat) (t : List Int) : List Int := memL (symB N t) 6
theorem implSymmetriesOf_yes (n : Int) (t : List Int) (ht : Bytes 100 t) (h : sqB n t = true) :
    ACalls Try.prog 17 [.agg (sqS n t)] [] (fun v ms ns => v = listV (symL n.toNat t) ∧ ms = [] ∧ ns = listN (symL n.toNat t)) := by
  have hs := sqB_iff.1 h
  obtain ⟨N, rfl⟩ : ∃ N : Nat, n = N := ⟨n.toNat, by have := hs.1; omega⟩
  rw [show (N : Int).toNat = N by omega]
  refine acalls_of_body mix Try.func17 rfl fok17 (Nat.le_of_ble_eq_true rfl) ?_
  unfold abody
  simp only [absE, absL, absF, reduceCtorEq, ↓reduceIte, Nat.reduceEqDiff, Nat.reduceAdd, Nat.reduceLT, Nat.reduceMul, Nat.reduceSub, Nat.reduceLeDiff, Int.reduceLT, Int.reduceLE, Int.reduceEq, Option.isSome_some, implies_true, false_implies, Prod.mk.injEq, ne_eq, not_false_eq_true, not_true_eq_false, ge_iff_le, gt_iff_lt, Int.toNat_natCast, Int.reduceToNat, Int.cast_ofNat_Int, Int.natCast_nonneg, Try.f17]
  refine CallsVia.none (isSquare_ok N t ht) ?_
  rintro _ _ _ ⟨rfl, rfl, rfl⟩
  simp only [absE, absL, absF, reduceCtorEq, ↓reduceIte, Nat.reduceEqDiff, Nat.reduceAdd, Nat.reduceLT, Nat.reduceMul, Nat.reduceSub, Nat.reduceLeDiff, Int.reduceLT, Int.reduceLE, Int.reduceEq, Option.isSome_some, implies_true, false_implies, Prod.mk.injEq, ne_eq, not_false_eq_true, not_true_eq_false, ge_iff_le, gt_iff_lt, Int.toNat_natCast, Int.reduceToNat, Int.cast_ofNat_Int, Int.natCast_nonneg, h]
  refine awpLoop.intro (fun x : Nat => [(1, .ref (.ptr 1 0 0 0)), (4, .ref (.sl 7 0 0 0 (memL (symB N t) x).length 1)), (10, .i .i64 x)]) (fun x => ⟨[], [((1, 0), .lv true (sqS N t)), ((7, 0), .lv true ([(0, .ints .i64 (memL (symB N t) x).length (memL (symB N t) x))]))], 10⟩)
    (fun x => x ≤ 6) (fun x => 6 - x) 0 (by omega) ⟨[((1,0),(1,0)), ((7,0),(7,0))], rfl, ?_, ?_⟩ ?_
  · simp [wkEnv, lk, renV, renAt, renTo, memL]
  · simp [wkMem, wkLoc, Mem.get, assoc, renBlk, renSegs, renSg, renTo, memL]
  · intro x hx
    have hl := memL_len (p := symB N t) (k := x)
    by_cases h' : (x : Int) < 6
    · have w := wrap_i64s (show x < 2 ^ 62 by omega)
      have mx : (memL (symB N t) x).length * 1 = (memL (symB N t) x).length := Nat.mul_one _
      simp only [absE, absL, absF, reduceCtorEq, ↓reduceIte, Nat.reduceEqDiff, Nat.reduceAdd, Nat.reduceLT, Nat.reduceMul, Nat.reduceSub, Nat.reduceLeDiff, Int.reduceLT, Int.reduceLE, Int.reduceEq, Option.isSome_some, implies_true, false_implies, Prod.mk.injEq, ne_eq, not_false_eq_true, not_true_eq_false, ge_iff_le, gt_iff_lt, Int.toNat_natCast, Int.reduceToNat, Int.cast_ofNat_Int, Int.natCast_nonneg, h']
      refine CallsX.none (parastrophe_ok N t x ht hs ⟨by omega, by omega⟩) ?_
      by_cases hb : mkT (paraG N t x) N N = t
      · have hb2 : symB N t x = true := decide_eq_true hb
        simp only [absE, absL, absF, reduceCtorEq, ↓reduceIte, Nat.reduceEqDiff, Nat.reduceAdd, Nat.reduceLT, Nat.reduceMul, Nat.reduceSub, Nat.reduceLeDiff, Int.reduceLT, Int.reduceLE, Int.reduceEq, Option.isSome_some, implies_true, false_implies, Prod.mk.injEq, ne_eq, not_false_eq_true, not_true_eq_false, ge_iff_le, gt_iff_lt, Int.toNat_natCast, Int.reduceToNat, Int.cast_ofNat_Int, Int.natCast_nonneg, hb, mx]
        refine ⟨by omega, by omega, LoopNext.intro (x + 1) (by omega) (by omega) ⟨[((1,0),(1,0)), ((21,0),(7,0))], rfl, ?_, ?_⟩⟩
        · simp [wkEnv, lk, renV, renAt, renTo, w, memL, hb2]
        · simp [wkMem, wkLoc, Mem.get, assoc, renBlk, renSegs, renSg, renTo, w, memL, hb2]
      · have hb2 : symB N t x = false := decide_eq_false hb
        simp only [absE, absL, absF, reduceCtorEq, ↓reduceIte, Nat.reduceEqDiff, Nat.reduceAdd, Nat.reduceLT, Nat.reduceMul, Nat.reduceSub, Nat.reduceLeDiff, Int.reduceLT, Int.reduceLE, Int.reduceEq, Option.isSome_some, implies_true, false_implies, Prod.mk.injEq, ne_eq, not_false_eq_true, not_true_eq_false, ge_iff_le, gt_iff_lt, Int.toNat_natCast, Int.reduceToNat, Int.cast_ofNat_Int, Int.natCast_nonneg, hb]
        refine LoopNext.intro (x + 1) (by omega) (by omega) ⟨[((1,0),(1,0)), ((7,0),(7,0))], rfl, ?_, ?_⟩
        · simp [wkEnv, lk, renV, renAt, renTo, w, memL, hb2]
        · simp [wkMem, wkLoc, Mem.get, assoc, renBlk, renSegs, renSg, renTo, w, memL, hb2]
    · have hx6 : x = 6 := by omega
      subst hx6
      simp only [absE, absL, absF, reduceCtorEq, ↓reduceIte, Nat.reduceEqDiff, Nat.reduceAdd, Nat.reduceLT, Nat.reduceMul, Nat.reduceSub, Nat.reduceLeDiff, Int.reduceLT, Int.reduceLE, Int.reduceEq, Option.isSome_some, implies_true, false_implies, Prod.mk.injEq, ne_eq, not_false_eq_true, not_true_eq_false, ge_iff_le, gt_iff_lt, Int.toNat_natCast, Int.reduceToNat, Int.cast_ofNat_Int, Int.natCast_nonneg, h', Try.results17]
      exact ⟨[(7, 0)], by simp, by simp, by simp [renV, renVs, renAt, renFin, idx, listV, symL], by simp, by simp [renBlk, renSegs, renSg, Mem.get, assoc, listN, symL]⟩
theorem implSymmetriesOf_no (n : Int) (t : List Int) (ht : Bytes 100 t) (h : sqB n t = false) :
    ACalls Try.prog 17 [.agg (sqS n t)] [] (fun v ms ns => v = .tup [.ref .nils, .i .i64 1] ∧ ms = [] ∧ ns = []) := by
  refine acalls_of_body mix Try.func17 rfl fok17 (Nat.le_of_ble_eq_true rfl) ?_
  unfold abody
  simp only [absE, absL, absF, reduceCtorEq, ↓reduceIte, Nat.reduceEqDiff, Nat.reduceAdd, Nat.reduceLT, Nat.reduceMul, Nat.reduceSub, Nat.reduceLeDiff, Int.reduceLT, Int.reduceLE, Int.reduceEq, Option.isSome_some, implies_true, false_implies, Prod.mk.injEq, ne_eq, not_false_eq_true, not_true_eq_false, ge_iff_le, gt_iff_lt, Int.toNat_natCast, Int.reduceToNat, Int.cast_ofNat_Int, Int.natCast_nonneg, Try.f17]
  refine CallsVia.none (isSquare_ok n t ht) ?_
  rintro _ _ _ ⟨rfl, rfl, rfl⟩
  simp only [absE, absL, absF, reduceCtorEq, ↓reduceIte, Nat.reduceEqDiff, Nat.reduceAdd, Nat.reduceLT, Nat.reduceMul, Nat.reduceSub, Nat.reduceLeDiff, Int.reduceLT, Int.reduceLE, Int.reduceEq, Option.isSome_some, implies_true, false_implies, Prod.mk.injEq, ne_eq, not_false_eq_true, not_true_eq_false, ge_iff_le, gt_iff_lt, Int.toNat_natCast, Int.reduceToNat, Int.cast_ofNat_Int, Int.natCast_nonneg, h, Try.results17]
  exact ⟨[], by simp, by simp, by simp [renV, renVs, renAt]⟩
theorem specSymmetriesOf_yes (n : Int) (t : List Int) (ht : Bytes 100 t) (h : sqB n t = true) :
    ACalls Try.prog 15 [.agg (sqS n t)] [] (fun v ms ns => v = listV (symL n.toNat t) ∧ ms = [] ∧ ns = listN (symL n.toNat t)) := by
  have hs := sqB_iff.1 h
  obtain ⟨N, rfl⟩ : ∃ N : Nat, n = N := ⟨n.toNat, by have := hs.1; omega⟩
  rw [show (N : Int).toNat = N by omega]
  refine acalls_of_body mix Try.func15 rfl fok15 (Nat.le_of_ble_eq_true rfl) ?_
  unfold abody
  simp only [absE, absL, absF, reduceCtorEq, ↓reduceIte, Nat.reduceEqDiff, Nat.reduceAdd, Nat.reduceLT, Nat.reduceMul, Nat.reduceSub, Nat.reduceLeDiff, Int.reduceLT, Int.reduceLE, Int.reduceEq, Option.isSome_some, implies_true, false_implies, Prod.mk.injEq, ne_eq, not_false_eq_true, not_true_eq_false, ge_iff_le, gt_iff_lt, Int.toNat_natCast, Int.reduceToNat, Int.cast_ofNat_Int, Int.natCast_nonneg, Try.f15]
  refine CallsVia.none (l01Is_ok N t ht) ?_
  rintro _ _ _ ⟨rfl, rfl, rfl⟩
  simp only [absE, absL, absF, reduceCtorEq, ↓reduceIte, Nat.reduceEqDiff, Nat.reduceAdd, Nat.reduceLT, Nat.reduceMul, Nat.reduceSub, Nat.reduceLeDiff, Int.reduceLT, Int.reduceLE, Int.reduceEq, Option.isSome_some, implies_true, false_implies, Prod.mk.injEq, ne_eq, not_false_eq_true, not_true_eq_false, ge_iff_le, gt_iff_lt, Int.toNat_natCast, Int.reduceToNat, Int.cast_ofNat_Int, Int.natCast_nonneg, h]
  refine awpLoop.intro (fun x : Nat => [(1, .ref (.ptr 1 0 0 0)), (4, .ref (.sl 7 0 0 0 (memL (symB N t) x).length 1)), (5, .i .i64 x)]) (fun x => ⟨[], [((1, 0), .lv true (sqS N t)), ((7, 0), .lv true ([(0, .ints .i64 (memL (symB N t) x).length (memL (symB N t) x))]))], 10⟩)
    (fun x => x ≤ 6) (fun x => 6 - x) 0 (by omega) ⟨[((1,0),(1,0)), ((7,0),(7,0))], rfl, ?_, ?_⟩ ?_
  · simp [wkEnv, lk, renV, renAt, renTo, memL]
  · simp [wkMem, wkLoc, Mem.get, assoc, renBlk, renSegs, renSg, renTo, memL]
  · intro x hx
    have hl := memL_len (p := symB N t) (k := x)
    by_cases h' : (x : Int) < 6
    · have w := wrap_i64s (show x < 2 ^ 62 by omega)
      have mx : (memL (symB N t) x).length * 1 = (memL (symB N t) x).length := Nat.mul_one _
      simp only [absE, absL, absF, reduceCtorEq, ↓reduceIte, Nat.reduceEqDiff, Nat.reduceAdd, Nat.reduceLT, Nat.reduceMul, Nat.reduceSub, Nat.reduceLeDiff, Int.reduceLT, Int.reduceLE, Int.reduceEq, Option.isSome_some, implies_true, false_implies, Prod.mk.injEq, ne_eq, not_false_eq_true, not_true_eq_false, ge_iff_le, gt_iff_lt, Int.toNat_natCast, Int.reduceToNat, Int.cast_ofNat_Int, Int.natCast_nonneg, h']
      refine CallsX.none (specPara_ok N t x ht hs ⟨by omega, by omega⟩) ?_
      by_cases hb : mkT (paraG N t x) N N = t
      · have hb2 : symB N t x = true := decide_eq_true hb
        simp only [absE, absL, absF, reduceCtorEq, ↓reduceIte, Nat.reduceEqDiff, Nat.reduceAdd, Nat.reduceLT, Nat.reduceMul, Nat.reduceSub, Nat.reduceLeDiff, Int.reduceLT, Int.reduceLE, Int.reduceEq, Option.isSome_some, implies_true, false_implies, Prod.mk.injEq, ne_eq, not_false_eq_true, not_true_eq_false, ge_iff_le, gt_iff_lt, Int.toNat_natCast, Int.reduceToNat, Int.cast_ofNat_Int, Int.natCast_nonneg, hb, mx]
        refine ⟨by omega, by omega, LoopNext.intro (x + 1) (by omega) (by omega) ⟨[((1,0),(1,0)), ((20,0),(7,0))], rfl, ?_, ?_⟩⟩
        · simp [wkEnv, lk, renV, renAt, renTo, w, memL, hb2]
        · simp [wkMem, wkLoc, Mem.get, assoc, renBlk, renSegs, renSg, renTo, w, memL, hb2]
      · have hb2 : symB N t x = false := decide_eq_false hb
        simp only [absE, absL, absF, reduceCtorEq, ↓reduceIte, Nat.reduceEqDiff, Nat.reduceAdd, Nat.reduceLT, Nat.reduceMul, Nat.reduceSub, Nat.reduceLeDiff, Int.reduceLT, Int.reduceLE, Int.reduceEq, Option.isSome_some, implies_true, false_implies, Prod.mk.injEq, ne_eq, not_false_eq_true, not_true_eq_false, ge_iff_le, gt_iff_lt, Int.toNat_natCast, Int.reduceToNat, Int.cast_ofNat_Int, Int.natCast_nonneg, hb]
        refine LoopNext.intro (x + 1) (by omega) (by omega) ⟨[((1,0),(1,0)), ((7,0),(7,0))], rfl, ?_, ?_⟩
        · simp [wkEnv, lk, renV, renAt, renTo, w, memL, hb2]
        · simp [wkMem, wkLoc, Mem.get, assoc, renBlk, renSegs, renSg, renTo, w, memL, hb2]
    · have hx6 : x = 6 := by omega
      subst hx6
      simp only [absE, absL, absF, reduceCtorEq, ↓reduceIte, Nat.reduceEqDiff, Nat.reduceAdd, Nat.reduceLT, Nat.reduceMul, Nat.reduceSub, Nat.reduceLeDiff, Int.reduceLT, Int.reduceLE, Int.reduceEq, Option.isSome_some, implies_true, false_implies, Prod.mk.injEq, ne_eq, not_false_eq_true, not_true_eq_false, ge_iff_le, gt_iff_lt, Int.toNat_natCast, Int.reduceToNat, Int.cast_ofNat_Int, Int.natCast_nonneg, h', Try.results15]
      exact ⟨[(7, 0)], by simp, by simp, by simp [renV, renVs, renAt, renFin, idx, listV, symL], by simp, by simp [renBlk, renSegs, renSg, Mem.get, assoc, listN, symL]⟩
theorem specSymmetriesOf_no (n : Int) (t : List Int) (ht : Bytes 100 t) (h : sqB n t = false) :
    ACalls Try.prog 15 [.agg (sqS n t)] [] (fun v ms ns => v = .tup [.ref .nils, .i .i64 1] ∧ ms = [] ∧ ns = []) := by
  refine acalls_of_body mix Try.func15 rfl fok15 (Nat.le_of_ble_eq_true rfl) ?_
  unfold abody
  simp only [absE, absL, absF, reduceCtorEq, ↓reduceIte, Nat.reduceEqDiff, Nat.reduceAdd, Nat.reduceLT, Nat.reduceMul, Nat.reduceSub, Nat.reduceLeDiff, Int.reduceLT, Int.reduceLE, Int.reduceEq, Option.isSome_some, implies_true, false_implies, Prod.mk.injEq, ne_eq, not_false_eq_true, not_true_eq_false, ge_iff_le, gt_iff_lt, Int.toNat_natCast, Int.reduceToNat, Int.cast_ofNat_Int, Int.natCast_nonneg, Try.f15]
  refine CallsVia.none (l01Is_ok n t ht) ?_
  rintro _ _ _ ⟨rfl, rfl, rfl⟩
  simp only [absE, absL, absF, reduceCtorEq, ↓reduceIte, Nat.reduceEqDiff, Nat.reduceAdd, Nat.reduceLT, Nat.reduceMul, Nat.reduceSub, Nat.reduceLeDiff, Int.reduceLT, Int.reduceLE, Int.reduceEq, Option.isSome_some, implies_true, false_implies, Prod.mk.injEq, ne_eq, not_false_eq_true, not_true_eq_false, ge_iff_le, gt_iff_lt, Int.toNat_natCast, Int.reduceToNat, Int.cast_ofNat_Int, Int.natCast_nonneg, h, Try.results15]
  exact ⟨[], by simp, by simp, by simp [renV, renVs, renAt]⟩
theorem symL_len {N : Nat} {t : List Int} : (symL N t).length < 2 ^ 40 := by
  have := memL_len (p := symB N t) (k := 6)
  unfold symL; omega

end Go.Proofs.Ytgcfkdgdlllgjaa
