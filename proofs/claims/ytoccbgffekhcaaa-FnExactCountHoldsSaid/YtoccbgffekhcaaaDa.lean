/-
Contracts of functions of the given program, by the abstract walk.
-/
import Derived.Test.YtoccbgffekhcaaaAbsY
import Derived.Test.YtoccbgffekhcaaaCc
namespace Go.Proofs.Ytoccbgffekhcaaa
open Go Go.Abs
set_option linter.unusedVariables false
set_option linter.unusedSectionVars false
set_option linter.unusedSimpArgs false
set_option maxRecDepth 100000
theorem sq_colget {t : List Int} (ht : Bytes 100 t) (x y : Nat) : t.getD (0 + x * 10 + y * 1) 0 = (cl t x y : Int) := by rw [Nat.zero_add, Nat.mul_one]; exact ht.cell x y
theorem implLeft_ok (N : Nat) (t : List Int) (x z : Nat) (ht : Bytes 100 t) (hs : SqP N t) (hx : x < N) (hz : z < N) :
    ACalls Try.prog 159 [.agg (sqS N t), .i .u8 x, .i .u8 z] [] (fun v ms ns => v = .i .u8 (fnd (cl t x) z N) ∧ ms = [] ∧ ns = []) := by
  have hN := hs.le
  have hl := (hs.rowP hx).fnd_lt hN hz
  refine acalls_of_body mix Try.func159 rfl fok159 (Nat.le_of_ble_eq_true rfl) ?_
  unfold abody
  simp only [absE, absL, absF, reduceCtorEq, ↓reduceIte, Nat.reduceEqDiff, Nat.reduceAdd, Nat.reduceLT, Nat.reduceMul, Nat.reduceSub, Nat.reduceLeDiff, Int.reduceLT, Int.reduceLE, Int.reduceEq, Option.isSome_some, implies_true, false_implies, Prod.mk.injEq, ne_eq, not_false_eq_true, not_true_eq_false, ge_iff_le, gt_iff_lt, Int.toNat_natCast, Int.reduceToNat, Int.cast_ofNat_Int, Int.natCast_nonneg, Try.f159]
  refine awpLoop.intro (fun y : Nat => [(1, .i .u8 x), (2, .i .u8 z), (3, .ref (.ptr 1 0 0 0)), (7, .i .u8 y)]) (fun y => ⟨[], [((1, 0), .lv true (sqS N t))], 4⟩) (fun y => y ≤ fnd (cl t x) z N) (fun y => N - y) 0 (by omega) ⟨[((1,0),(1,0))], rfl, ?_, ?_⟩ ?_
  · simp [wkEnv, lk, renV, renAt, renTo]
  · simp [wkMem, wkLoc, Mem.get, assoc, renBlk, renSegs, renSg, renTo]
  · intro y hy
    have i1 : (x : Int) < 10 := by omega
    have i2 : (y : Int) < 10 := by omega
    have u1 : 0 + x * 10 + y * 1 < 100 := by omega
    have k1 := sq_colget ht x y
    by_cases h : cl t x y = z
    · have g1 : (cl t x y : Int) = z := by omega
      simp only [absE, absL, absF, reduceCtorEq, ↓reduceIte, Nat.reduceEqDiff, Nat.reduceAdd, Nat.reduceLT, Nat.reduceMul, Nat.reduceSub, Nat.reduceLeDiff, Int.reduceLT, Int.reduceLE, Int.reduceEq, Option.isSome_some, implies_true, false_implies, Prod.mk.injEq, ne_eq, not_false_eq_true, not_true_eq_false, ge_iff_le, gt_iff_lt, Int.toNat_natCast, Int.reduceToNat, Int.cast_ofNat_Int, Int.natCast_nonneg, i1, i2, u1, k1, g1, Try.results159]
      have e : y = fnd (cl t x) z N := (fnd_eq (f := cl t x) (k := N) (by omega) h fun j hj => fnd_none (k := N) (by omega)).symm
      subst e
      exact ⟨[], by simp, by simp, by simp [renV, renVs, renSegs, renSg]⟩
    · have g1 : ¬(cl t x y : Int) = z := by omega
      have h2 : y ≠ fnd (cl t x) z N := fun e => h (by rw [e]; exact fnd_at hl)
      have w := wrap_u8s (show y < 255 by omega)
      simp only [absE, absL, absF, reduceCtorEq, ↓reduceIte, Nat.reduceEqDiff, Nat.reduceAdd, Nat.reduceLT, Nat.reduceMul, Nat.reduceSub, Nat.reduceLeDiff, Int.reduceLT, Int.reduceLE, Int.reduceEq, Option.isSome_some, implies_true, false_implies, Prod.mk.injEq, ne_eq, not_false_eq_true, not_true_eq_false, ge_iff_le, gt_iff_lt, Int.toNat_natCast, Int.reduceToNat, Int.cast_ofNat_Int, Int.natCast_nonneg, i1, i2, u1, k1, g1, w]
      refine LoopNext.intro (y + 1) (by omega) (by omega) ⟨[((1,0),(1,0))], rfl, ?_, ?_⟩
      · simp [wkEnv, lk, renV, renAt, renTo]
      · simp [wkMem, wkLoc, Mem.get, assoc, renBlk, renSegs, renSg, renTo]
theorem specLeft_ok (N : Nat) (t : List Int) (x z : Nat) (ht : Bytes 100 t) (hs : SqP N t) (hx : x < N) (hz : z < N) :
    ACalls Try.prog 120 [.agg (sqS N t), .i .u8 x, .i .u8 z] [] (fun v ms ns => v = .i .u8 (fnd (cl t x) z N) ∧ ms = [] ∧ ns = []) := by
  have hN := hs.le
  have hl := (hs.rowP hx).fnd_lt hN hz
  refine acalls_of_body mix Try.func120 rfl fok120 (Nat.le_of_ble_eq_true rfl) ?_
  unfold abody
  simp only [absE, absL, absF, reduceCtorEq, ↓reduceIte, Nat.reduceEqDiff, Nat.reduceAdd, Nat.reduceLT, Nat.reduceMul, Nat.reduceSub, Nat.reduceLeDiff, Int.reduceLT, Int.reduceLE, Int.reduceEq, Option.isSome_some, implies_true, false_implies, Prod.mk.injEq, ne_eq, not_false_eq_true, not_true_eq_false, ge_iff_le, gt_iff_lt, Int.toNat_natCast, Int.reduceToNat, Int.cast_ofNat_Int, Int.natCast_nonneg, Try.f120]
  refine awpLoop.intro (fun y : Nat => [(1, .i .u8 x), (2, .i .u8 z), (3, .ref (.ptr 1 0 0 0)), (7, .i .u8 y)]) (fun y => ⟨[], [((1, 0), .lv true (sqS N t))], 4⟩) (fun y => y ≤ fnd (cl t x) z N) (fun y => N - y) 0 (by omega) ⟨[((1,0),(1,0))], rfl, ?_, ?_⟩ ?_
  · simp [wkEnv, lk, renV, renAt, renTo]
  · simp [wkMem, wkLoc, Mem.get, assoc, renBlk, renSegs, renSg, renTo]
  · intro y hy
    have i1 : (x : Int) < 10 := by omega
    have i2 : (y : Int) < 10 := by omega
    have u1 : 0 + x * 10 + y * 1 < 100 := by omega
    have k1 := sq_colget ht x y
    by_cases h : cl t x y = z
    · have g1 : (cl t x y : Int) = z := by omega
      simp only [absE, absL, absF, reduceCtorEq, ↓reduceIte, Nat.reduceEqDiff, Nat.reduceAdd, Nat.reduceLT, Nat.reduceMul, Nat.reduceSub, Nat.reduceLeDiff, Int.reduceLT, Int.reduceLE, Int.reduceEq, Option.isSome_some, implies_true, false_implies, Prod.mk.injEq, ne_eq, not_false_eq_true, not_true_eq_false, ge_iff_le, gt_iff_lt, Int.toNat_natCast, Int.reduceToNat, Int.cast_ofNat_Int, Int.natCast_nonneg, i1, i2, u1, k1, g1, Try.results120]
      have e : y = fnd (cl t x) z N := (fnd_eq (f := cl t x) (k := N) (by omega) h fun j hj => fnd_none (k := N) (by omega)).symm
      subst e
      exact ⟨[], by simp, by simp, by simp [renV, renVs, renSegs, renSg]⟩
    · have g1 : ¬(cl t x y : Int) = z := by omega
      have h2 : y ≠ fnd (cl t x) z N := fun e => h (by rw [e]; exact fnd_at hl)
      have w := wrap_u8s (show y < 255 by omega)
      simp only [absE, absL, absF, reduceCtorEq, ↓reduceIte, Nat.reduceEqDiff, Nat.reduceAdd, Nat.reduceLT, Nat.reduceMul, Nat.reduceSub, Nat.reduceLeDiff, Int.reduceLT, Int.reduceLE, Int.reduceEq, Option.isSome_some, implies_true, false_implies, Prod.mk.injEq, ne_eq, not_false_eq_true, not_true_eq_false, ge_iff_le, gt_iff_lt, Int.toNat_natCast, Int.reduceToNat, Int.cast_ofNat_Int, Int.natCast_nonneg, i1, i2, u1, k1, g1, w]
      refine LoopNext.intro (y + 1) (by omega) (by omega) ⟨[((1,0),(1,0))], rfl, ?_, ?_⟩
      · simp [wkEnv, lk, renV, renAt, renTo]
      · simp [wkMem, wkLoc, Mem.get, assoc, renBlk, renSegs, renSg, renTo]
theorem implRight_ok (N : Nat) (t : List Int) (z y : Nat) (ht : Bytes 100 t) (hs : SqP N t) (hz : z < N) (hy : y < N) :
    ACalls Try.prog 160 [.agg (sqS N t), .i .u8 z, .i .u8 y] [] (fun v ms ns => v = .i .u8 (fnd (fun x => cl t x y) z N) ∧ ms = [] ∧ ns = []) := by
  have hN := hs.le
  have hl := (hs.colP hy).fnd_lt hN hz
  refine acalls_of_body mix Try.func160 rfl fok160 (Nat.le_of_ble_eq_true rfl) ?_
  unfold abody
  simp only [absE, absL, absF, reduceCtorEq, ↓reduceIte, Nat.reduceEqDiff, Nat.reduceAdd, Nat.reduceLT, Nat.reduceMul, Nat.reduceSub, Nat.reduceLeDiff, Int.reduceLT, Int.reduceLE, Int.reduceEq, Option.isSome_some, implies_true, false_implies, Prod.mk.injEq, ne_eq, not_false_eq_true, not_true_eq_false, ge_iff_le, gt_iff_lt, Int.toNat_natCast, Int.reduceToNat, Int.cast_ofNat_Int, Int.natCast_nonneg, Try.f160]
  refine awpLoop.intro (fun x : Nat => [(1, .i .u8 z), (2, .i .u8 y), (3, .ref (.ptr 1 0 0 0)), (7, .i .u8 x)]) (fun x => ⟨[], [((1, 0), .lv true (sqS N t))], 4⟩) (fun x => x ≤ fnd (fun x => cl t x y) z N) (fun x => N - x) 0 (by omega) ⟨[((1,0),(1,0))], rfl, ?_, ?_⟩ ?_
  · simp [wkEnv, lk, renV, renAt, renTo]
  · simp [wkMem, wkLoc, Mem.get, assoc, renBlk, renSegs, renSg, renTo]
  · intro x hx
    have i1 : (x : Int) < 10 := by omega
    have i2 : (y : Int) < 10 := by omega
    have u1 : 0 + x * 10 + y * 1 < 100 := by omega
    have k1 := sq_colget ht x y
    by_cases h : cl t x y = z
    · have g1 : (cl t x y : Int) = z := by omega
      simp only [absE, absL, absF, reduceCtorEq, ↓reduceIte, Nat.reduceEqDiff, Nat.reduceAdd, Nat.reduceLT, Nat.reduceMul, Nat.reduceSub, Nat.reduceLeDiff, Int.reduceLT, Int.reduceLE, Int.reduceEq, Option.isSome_some, implies_true, false_implies, Prod.mk.injEq, ne_eq, not_false_eq_true, not_true_eq_false, ge_iff_le, gt_iff_lt, Int.toNat_natCast, Int.reduceToNat, Int.cast_ofNat_Int, Int.natCast_nonneg, i1, i2, u1, k1, g1, Try.results160]
      have e : x = fnd (fun x => cl t x y) z N := (fnd_eq (f := fun x => cl t x y) (k := N) (by omega) h fun j hj => fnd_none (f := fun x => cl t x y) (k := N) (by omega)).symm
      generalize fnd (fun x => cl t x y) z N = q at e
      subst e
      exact ⟨[], by simp, by simp, by simp [renV, renVs, renSegs, renSg]⟩
    · have g1 : ¬(cl t x y : Int) = z := by omega
      have h2 : x ≠ fnd (fun x => cl t x y) z N := fun e => h (by rw [e]; exact fnd_at (f := fun x => cl t x y) hl)
      have w := wrap_u8s (show x < 255 by omega)
      simp only [absE, absL, absF, reduceCtorEq, ↓reduceIte, Nat.reduceEqDiff, Nat.reduceAdd, Nat.reduceLT, Nat.reduceMul, Nat.reduceSub, Nat.reduceLeDiff, Int.reduceLT, Int.reduceLE, Int.reduceEq, Option.isSome_some, implies_true, false_implies, Prod.mk.injEq, ne_eq, not_false_eq_true, not_true_eq_false, ge_iff_le, gt_iff_lt, Int.toNat_natCast, Int.reduceToNat, Int.cast_ofNat_Int, Int.natCast_nonneg, i1, i2, u1, k1, g1, w]
      refine LoopNext.intro (x + 1) (by omega) (by omega) ⟨[((1,0),(1,0))], rfl, ?_, ?_⟩
      · simp [wkEnv, lk, renV, renAt, renTo]
      · simp [wkMem, wkLoc, Mem.get, assoc, renBlk, renSegs, renSg, renTo]
theorem specRight_ok (N : Nat) (t : List Int) (z y : Nat) (ht : Bytes 100 t) (hs : SqP N t) (hz : z < N) (hy : y < N) :
    ACalls Try.prog 173 [.agg (sqS N t), .i .u8 z, .i .u8 y] [] (fun v ms ns => v = .i .u8 (fnd (fun x => cl t x y) z N) ∧ ms = [] ∧ ns = []) := by
  have hN := hs.le
  have hl := (hs.colP hy).fnd_lt hN hz
  refine acalls_of_body mix Try.func173 rfl fok173 (Nat.le_of_ble_eq_true rfl) ?_
  unfold abody
  simp only [absE, absL, absF, reduceCtorEq, ↓reduceIte, Nat.reduceEqDiff, Nat.reduceAdd, Nat.reduceLT, Nat.reduceMul, Nat.reduceSub, Nat.reduceLeDiff, Int.reduceLT, Int.reduceLE, Int.reduceEq, Option.isSome_some, implies_true, false_implies, Prod.mk.injEq, ne_eq, not_false_eq_true, not_true_eq_false, ge_iff_le, gt_iff_lt, Int.toNat_natCast, Int.reduceToNat, Int.cast_ofNat_Int, Int.natCast_nonneg, Try.f173]
  refine awpLoop.intro (fun x : Nat => [(1, .i .u8 z), (2, .i .u8 y), (3, .ref (.ptr 1 0 0 0)), (7, .i .u8 x)]) (fun x => ⟨[], [((1, 0), .lv true (sqS N t))], 4⟩) (fun x => x ≤ fnd (fun x => cl t x y) z N) (fun x => N - x) 0 (by omega) ⟨[((1,0),(1,0))], rfl, ?_, ?_⟩ ?_
  · simp [wkEnv, lk, renV, renAt, renTo]
  · simp [wkMem, wkLoc, Mem.get, assoc, renBlk, renSegs, renSg, renTo]
  · intro x hx
    have i1 : (x : Int) < 10 := by omega
    have i2 : (y : Int) < 10 := by omega
    have u1 : 0 + x * 10 + y * 1 < 100 := by omega
    have k1 := sq_colget ht x y
    by_cases h : cl t x y = z
    · have g1 : (cl t x y : Int) = z := by omega
      simp only [absE, absL, absF, reduceCtorEq, ↓reduceIte, Nat.reduceEqDiff, Nat.reduceAdd, Nat.reduceLT, Nat.reduceMul, Nat.reduceSub, Nat.reduceLeDiff, Int.reduceLT, Int.reduceLE, Int.reduceEq, Option.isSome_some, implies_true, false_implies, Prod.mk.injEq, ne_eq, not_false_eq_true, not_true_eq_false, ge_iff_le, gt_iff_lt, Int.toNat_natCast, Int.reduceToNat, Int.cast_ofNat_Int, Int.natCast_nonneg, i1, i2, u1, k1, g1, Try.results173]
      have e : x = fnd (fun x => cl t x y) z N := (fnd_eq (f := fun x => cl t x y) (k := N) (by omega) h fun j hj => fnd_none (f := fun x => cl t x y) (k := N) (by omega)).symm
      generalize fnd (fun x => cl t x y) z N = q at e
      subst e
      exact ⟨[], by simp, by simp, by simp [renV, renVs, renSegs, renSg]⟩
    · have g1 : ¬(cl t x y : Int) = z := by omega
      have h2 : x ≠ fnd (fun x => cl t x y) z N := fun e => h (by rw [e]; exact fnd_at (f := fun x => cl t x y) hl)
      have w := wrap_u8s (show x < 255 by omega)
      simp only [absE, absL, absF, reduceCtorEq, ↓reduceIte, Nat.reduceEqDiff, Nat.reduceAdd, Nat.reduceLT, Nat.reduceMul, Nat.reduceSub, Nat.reduceLeDiff, Int.reduceLT, Int.reduceLE, Int.reduceEq, Option.isSome_some, implies_true, false_implies, Prod.mk.injEq, ne_eq, not_false_eq_true, not_true_eq_false, ge_iff_le, gt_iff_lt, Int.toNat_natCast, Int.reduceToNat, Int.cast_ofNat_Int, Int.natCast_nonneg, i1, i2, u1, k1, g1, w]
      refine LoopNext.intro (x + 1) (by omega) (by omega) ⟨[((1,0),(1,0))], rfl, ?_, ?_⟩
      · simp [wkEnv, lk, renV, renAt, renTo]
      · simp [wkMem, wkLoc, Mem.get, assoc, renBlk, renSegs, renSg, renTo]

end Go.Proofs.Ytoccbgffekhcaaa
