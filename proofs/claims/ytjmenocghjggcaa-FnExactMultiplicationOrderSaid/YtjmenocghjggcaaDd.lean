/-
Contracts of functions of the given program, by the abstract walk.
-/
import Derived.Test.YtjmenocghjggcaaAbsY
import Derived.Test.YtjmenocghjggcaaDa
namespace Go.Proofs.Ytjmenocghjggcaa
open Go Go.Abs
set_option linter.unusedVariables false
set_option linter.unusedSectionVars false
set_option linter.unusedSimpArgs false
set_option maxRecDepth 100000
def rowL (t : List Int) (x : Nat) : List Int := (t.drop (0 + x * 10)).take 10
theorem pl_rowL {t : List Int} {x j : Nat} (hj : j < 10) : pl (rowL t x) j = cl t x j := by unfold Abs.pl cl rowL; rw [getD_sub, if_pos hj, Nat.zero_add]
theorem rowL_bytes {t : List Int} {x : Nat} (ht : Bytes 100 t) (hx : x < 10) : Bytes 10 (rowL t x) := ⟨by unfold rowL; exact sub_length (by have := ht.len; omega), fun i => by
  unfold rowL; rw [getD_sub]; split
  · exact ht.rng _
  · omega⟩
/-- For a square's column the map that stops at its order. -/
def colL (N : Nat) (t : List Int) (y : Nat) : List Int := mapL (fun x => cl t x y) N
theorem colL_bytes {N : Nat} {t : List Int} {y : Nat} (ht : Bytes 100 t) (hN : N ≤ 10) : Bytes 10 (colL N t y) := mapL_bytes hN fun x _ => ht.cell_lt x y

theorem specRow_ok (n : Int) (t : List Int) (x : Nat) (ht : Bytes 100 t) (hx : x < 10) :
    ACalls Try.prog 91 [.agg (sqS n t), .i .u8 x] [] (fun v ms ns => v = .agg (plS (rowL t x)) ∧ ms = [] ∧ ns = []) := by
  have i1 : (x : Int) < 10 := by omega
  have hl := ht.len
  have u1 : 0 + x * 10 + 10 ≤ 100 := by omega
  refine acalls_of_body mix Try.func91 rfl fok91 (Nat.le_of_ble_eq_true rfl) ?_
  unfold abody
  simp only [absE, absL, absF, reduceCtorEq, ↓reduceIte, Nat.reduceEqDiff, Nat.reduceAdd, Nat.reduceLT, Nat.reduceMul, Nat.reduceSub, Nat.reduceLeDiff, Int.reduceLT, Int.reduceLE, Int.reduceEq, Option.isSome_some, implies_true, false_implies, Prod.mk.injEq, ne_eq, not_false_eq_true, not_true_eq_false, ge_iff_le, gt_iff_lt, Int.toNat_natCast, Int.reduceToNat, Int.cast_ofNat_Int, Int.natCast_nonneg, i1, u1, Try.f91, Try.results91]
  exact ⟨[], by simp, by simp, by simp [renV, renVs, renSegs, renSg, rowL]⟩
theorem implRow_ok (n : Int) (t : List Int) (x : Nat) (ht : Bytes 100 t) (hx : x < 10) :
    ACalls Try.prog 96 [.agg (sqS n t), .i .u8 x] [] (fun v ms ns => v = .agg (plS (rowL t x)) ∧ ms = [] ∧ ns = []) := by
  have i1 : (x : Int) < 10 := by omega
  have hl := ht.len
  have u1 : 0 + x * 10 + 10 ≤ 100 := by omega
  refine acalls_of_body mix Try.func96 rfl fok96 (Nat.le_of_ble_eq_true rfl) ?_
  unfold abody
  simp only [absE, absL, absF, reduceCtorEq, ↓reduceIte, Nat.reduceEqDiff, Nat.reduceAdd, Nat.reduceLT, Nat.reduceMul, Nat.reduceSub, Nat.reduceLeDiff, Int.reduceLT, Int.reduceLE, Int.reduceEq, Option.isSome_some, implies_true, false_implies, Prod.mk.injEq, ne_eq, not_false_eq_true, not_true_eq_false, ge_iff_le, gt_iff_lt, Int.toNat_natCast, Int.reduceToNat, Int.cast_ofNat_Int, Int.natCast_nonneg, i1, u1, Try.f96, Try.results96]
  exact ⟨[], by simp, by simp, by simp [renV, renVs, renSegs, renSg, rowL]⟩
theorem specColumn_ok (N : Nat) (t : List Int) (y : Nat) (ht : Bytes 100 t) (hN : N ≤ 10) (hy : y < 10) :
    ACalls Try.prog 92 [.agg (sqS N t), .i .u8 y] [] (fun v ms ns => v = .agg (plS (colL N t y)) ∧ ms = [] ∧ ns = []) := by
  refine acalls_of_body mix Try.func92 rfl fok92 (Nat.le_of_ble_eq_true rfl) ?_
  unfold abody
  simp only [absE, absL, absF, reduceCtorEq, ↓reduceIte, Nat.reduceEqDiff, Nat.reduceAdd, Nat.reduceLT, Nat.reduceMul, Nat.reduceSub, Nat.reduceLeDiff, Int.reduceLT, Int.reduceLE, Int.reduceEq, Option.isSome_some, implies_true, false_implies, Prod.mk.injEq, ne_eq, not_false_eq_true, not_true_eq_false, ge_iff_le, gt_iff_lt, Int.toNat_natCast, Int.reduceToNat, Int.cast_ofNat_Int, Int.natCast_nonneg, Try.f92]
  refine awpLoop.intro (fun x : Nat => [(1, .i .u8 y), (2, .ref (.ptr 1 0 0 0)), (4, .ref (.ptr 2 0 0 0)), (5, .ref (.ptr 4 0 0 0)), (6, .i .i64 x)]) (fun x => ⟨[], [((1, 0), .lv true (sqS N t)), ((2, 0), .lv true (plS (List.replicate 10 0))), ((4, 0), .lv true (plS (mapL (fun x => cl t x y) x)))], 7⟩)
    (fun x => x ≤ N) (fun x => N - x) 0 (by omega) ⟨[((1,0),(1,0)), ((2,0),(2,0)), ((4,0),(4,0))], rfl, ?_, ?_⟩ ?_
  · simp [wkEnv, lk, renV, renAt, renTo, mapL]
  · simp [wkMem, wkLoc, Mem.get, assoc, renBlk, renSegs, renSg, renTo, mapL]
  · intro x hx
    by_cases h : (x : Int) < N
    · have w := wrap_i64s (show x < 2 ^ 62 by omega)
      have i1 : (x : Int) < 10 := by omega
      have i2 : (y : Int) < 10 := by omega
      have u1 : 0 + x * 10 + y * 1 < 100 := by omega
      have u2 : 0 + x * 1 + 1 ≤ 10 := by omega
      have k1 := sq_colget ht x y
      simp only [absE, absL, absF, reduceCtorEq, ↓reduceIte, Nat.reduceEqDiff, Nat.reduceAdd, Nat.reduceLT, Nat.reduceMul, Nat.reduceSub, Nat.reduceLeDiff, Int.reduceLT, Int.reduceLE, Int.reduceEq, Option.isSome_some, implies_true, false_implies, Prod.mk.injEq, ne_eq, not_false_eq_true, not_true_eq_false, ge_iff_le, gt_iff_lt, Int.toNat_natCast, Int.reduceToNat, Int.cast_ofNat_Int, Int.natCast_nonneg, h, i1, i2, u1, u2, k1]
      refine LoopNext.intro (x + 1) (by omega) (by omega) ⟨[((1,0),(1,0)), ((2,0),(2,0)), ((4,0),(4,0))], rfl, ?_, ?_⟩
      · simp [wkEnv, lk, renV, renAt, renTo, mapL, w]
      · simp [wkMem, wkLoc, Mem.get, assoc, renBlk, renSegs, renSg, renTo, mapL, w]
    · have hxN : x = N := by omega
      subst hxN
      simp only [absE, absL, absF, reduceCtorEq, ↓reduceIte, Nat.reduceEqDiff, Nat.reduceAdd, Nat.reduceLT, Nat.reduceMul, Nat.reduceSub, Nat.reduceLeDiff, Int.reduceLT, Int.reduceLE, Int.reduceEq, Option.isSome_some, implies_true, false_implies, Prod.mk.injEq, ne_eq, not_false_eq_true, not_true_eq_false, ge_iff_le, gt_iff_lt, Int.toNat_natCast, Int.reduceToNat, Int.cast_ofNat_Int, Int.natCast_nonneg, h, Try.results92]
      exact ⟨[], by simp, by simp, by simp [renV, renVs, renSegs, renSg, colL]⟩
theorem specThen_ok (N : Nat) (p q : List Int) (hp : Bytes 10 p) (hq : Bytes 10 q) (hN : N ≤ 10) (hb : ∀ i, i < N → pl p i < 10) :
    ACalls Try.prog 101 [.agg (plS p), .agg (plS q), .i .i64 N] [] (fun v ms ns => v = .agg (plS (mapL (fun i => pl q (pl p i)) N)) ∧ ms = [] ∧ ns = []) := by
  refine acalls_of_body mix Try.func101 rfl fok101 (Nat.le_of_ble_eq_true rfl) ?_
  unfold abody
  simp only [absE, absL, absF, reduceCtorEq, ↓reduceIte, Nat.reduceEqDiff, Nat.reduceAdd, Nat.reduceLT, Nat.reduceMul, Nat.reduceSub, Nat.reduceLeDiff, Int.reduceLT, Int.reduceLE, Int.reduceEq, Option.isSome_some, implies_true, false_implies, Prod.mk.injEq, ne_eq, not_false_eq_true, not_true_eq_false, ge_iff_le, gt_iff_lt, Int.toNat_natCast, Int.reduceToNat, Int.cast_ofNat_Int, Int.natCast_nonneg, Try.f101]
  refine awpLoop.intro (fun x : Nat => [(2, .i .i64 N), (3, .ref (.ptr 1 0 0 0)), (4, .ref (.ptr 2 0 0 0)), (6, .ref (.ptr 3 0 0 0)), (7, .ref (.ptr 5 0 0 0)), (8, .i .i64 x)]) (fun x => ⟨[], [((1, 0), .lv true (plS p)), ((2, 0), .lv true (plS q)), ((3, 0), .lv true (plS (List.replicate 10 0))), ((5, 0), .lv true (plS (mapL (fun i => pl q (pl p i)) x)))], 8⟩)
    (fun x => x ≤ N) (fun x => N - x) 0 (by omega) ⟨[((1,0),(1,0)), ((2,0),(2,0)), ((3,0),(3,0)), ((5,0),(5,0))], rfl, ?_, ?_⟩ ?_
  · simp [wkEnv, lk, renV, renAt, renTo, mapL]
  · simp [wkMem, wkLoc, Mem.get, assoc, renBlk, renSegs, renSg, renTo, mapL]
  · intro x hx
    by_cases h : (x : Int) < N
    · have w := wrap_i64s (show x < 2 ^ 62 by omega)
      have j1 := hb x (by omega)
      have i1 : (x : Int) < 10 := by omega
      have i2 : (pl p x : Int) < 10 := by omega
      have u1 : 0 + x * 1 < 10 := by omega
      have u2 : 0 + pl p x * 1 < 10 := by omega
      have u3 : 0 + x * 1 + 1 ≤ 10 := by omega
      have k1 : p.getD (0 + x * 1) 0 = (pl p x : Int) := by rw [Nat.zero_add, Nat.mul_one]; exact hp.place x
      have k2 : q.getD (0 + pl p x * 1) 0 = (pl q (pl p x) : Int) := by rw [Nat.zero_add, Nat.mul_one]; exact hq.place _
      simp only [absE, absL, absF, reduceCtorEq, ↓reduceIte, Nat.reduceEqDiff, Nat.reduceAdd, Nat.reduceLT, Nat.reduceMul, Nat.reduceSub, Nat.reduceLeDiff, Int.reduceLT, Int.reduceLE, Int.reduceEq, Option.isSome_some, implies_true, false_implies, Prod.mk.injEq, ne_eq, not_false_eq_true, not_true_eq_false, ge_iff_le, gt_iff_lt, Int.toNat_natCast, Int.reduceToNat, Int.cast_ofNat_Int, Int.natCast_nonneg, h, i1, i2, u1, u2, u3, k1, k2]
      refine LoopNext.intro (x + 1) (by omega) (by omega) ⟨[((1,0),(1,0)), ((2,0),(2,0)), ((3,0),(3,0)), ((5,0),(5,0))], rfl, ?_, ?_⟩
      · simp [wkEnv, lk, renV, renAt, renTo, mapL, w]
      · simp [wkMem, wkLoc, Mem.get, assoc, renBlk, renSegs, renSg, renTo, mapL, w]
    · have hxN : x = N := by omega
      subst hxN
      simp only [absE, absL, absF, reduceCtorEq, ↓reduceIte, Nat.reduceEqDiff, Nat.reduceAdd, Nat.reduceLT, Nat.reduceMul, Nat.reduceSub, Nat.reduceLeDiff, Int.reduceLT, Int.reduceLE, Int.reduceEq, Option.isSome_some, implies_true, false_implies, Prod.mk.injEq, ne_eq, not_false_eq_true, not_true_eq_false, ge_iff_le, gt_iff_lt, Int.toNat_natCast, Int.reduceToNat, Int.cast_ofNat_Int, Int.natCast_nonneg, h, Try.results101]
      exact ⟨[], by simp, by simp, by simp [renV, renVs, renSegs, renSg]⟩
theorem specBack_ok (N : Nat) (p : List Int) (hp : Bytes 10 p) (hN : N ≤ 10) (hb : ∀ i, i < N → pl p i < 10) :
    ACalls Try.prog 107 [.agg (plS p), .i .i64 N] [] (fun v ms ns => v = .agg (plS (bkL (pl p) N)) ∧ ms = [] ∧ ns = []) := by
  refine acalls_of_body mix Try.func107 rfl fok107 (Nat.le_of_ble_eq_true rfl) ?_
  unfold abody
  simp only [absE, absL, absF, reduceCtorEq, ↓reduceIte, Nat.reduceEqDiff, Nat.reduceAdd, Nat.reduceLT, Nat.reduceMul, Nat.reduceSub, Nat.reduceLeDiff, Int.reduceLT, Int.reduceLE, Int.reduceEq, Option.isSome_some, implies_true, false_implies, Prod.mk.injEq, ne_eq, not_false_eq_true, not_true_eq_false, ge_iff_le, gt_iff_lt, Int.toNat_natCast, Int.reduceToNat, Int.cast_ofNat_Int, Int.natCast_nonneg, Try.f107]
  refine awpLoop.intro (fun x : Nat => [(1, .i .i64 N), (2, .ref (.ptr 1 0 0 0)), (4, .ref (.ptr 2 0 0 0)), (5, .ref (.ptr 4 0 0 0)), (6, .i .i64 x)]) (fun x => ⟨[], [((1, 0), .lv true (plS p)), ((2, 0), .lv true (plS (List.replicate 10 0))), ((4, 0), .lv true (plS (bkL (pl p) x)))], 7⟩)
    (fun x => x ≤ N) (fun x => N - x) 0 (by omega) ⟨[((1,0),(1,0)), ((2,0),(2,0)), ((4,0),(4,0))], rfl, ?_, ?_⟩ ?_
  · simp [wkEnv, lk, renV, renAt, renTo, bkL]
  · simp [wkMem, wkLoc, Mem.get, assoc, renBlk, renSegs, renSg, renTo, bkL]
  · intro x hx
    by_cases h : (x : Int) < N
    · have w := wrap_i64s (show x < 2 ^ 62 by omega)
      have w8 := wrap_u8n (show x < 256 by omega)
      have j1 := hb x (by omega)
      have i1 : (x : Int) < 10 := by omega
      have i2 : (pl p x : Int) < 10 := by omega
      have u1 : 0 + x * 1 < 10 := by omega
      have u3 : 0 + pl p x * 1 + 1 ≤ 10 := by omega
      have k1 : p.getD (0 + x * 1) 0 = (pl p x : Int) := by rw [Nat.zero_add, Nat.mul_one]; exact hp.place x
      simp only [absE, absL, absF, reduceCtorEq, ↓reduceIte, Nat.reduceEqDiff, Nat.reduceAdd, Nat.reduceLT, Nat.reduceMul, Nat.reduceSub, Nat.reduceLeDiff, Int.reduceLT, Int.reduceLE, Int.reduceEq, Option.isSome_some, implies_true, false_implies, Prod.mk.injEq, ne_eq, not_false_eq_true, not_true_eq_false, ge_iff_le, gt_iff_lt, Int.toNat_natCast, Int.reduceToNat, Int.cast_ofNat_Int, Int.natCast_nonneg, h, i1, i2, u1, u3, k1, w8]
      refine LoopNext.intro (x + 1) (by omega) (by omega) ⟨[((1,0),(1,0)), ((2,0),(2,0)), ((4,0),(4,0))], rfl, ?_, ?_⟩
      · simp [wkEnv, lk, renV, renAt, renTo, bkL, w]
      · simp [wkMem, wkLoc, Mem.get, assoc, renBlk, renSegs, renSg, renTo, bkL, w]
    · have hxN : x = N := by omega
      subst hxN
      simp only [absE, absL, absF, reduceCtorEq, ↓reduceIte, Nat.reduceEqDiff, Nat.reduceAdd, Nat.reduceLT, Nat.reduceMul, Nat.reduceSub, Nat.reduceLeDiff, Int.reduceLT, Int.reduceLE, Int.reduceEq, Option.isSome_some, implies_true, false_implies, Prod.mk.injEq, ne_eq, not_false_eq_true, not_true_eq_false, ge_iff_le, gt_iff_lt, Int.toNat_natCast, Int.reduceToNat, Int.cast_ofNat_Int, Int.natCast_nonneg, h, Try.results107]
      exact ⟨[], by simp, by simp, by simp [renV, renVs, renSegs, renSg]⟩

end Go.Proofs.Ytjmenocghjggcaa
