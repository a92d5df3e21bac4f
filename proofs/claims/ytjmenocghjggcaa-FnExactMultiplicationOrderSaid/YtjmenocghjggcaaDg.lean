/-
Contracts of functions of the given program, by the abstract walk.
-/
import Derived.Test.YtjmenocghjggcaaAbsY
import Derived.Test.YtjmenocghjggcaaDd
namespace Go.Proofs.Ytjmenocghjggcaa
open Go Go.Abs
set_option linter.unusedVariables false
set_option linter.unusedSectionVars false
set_option linter.unusedSimpArgs false
set_option maxRecDepth 100000
theorem implColumn_ok (N : Nat) (t : List Int) (y : Nat) (ht : Bytes 100 t) (hs : SqP N t) (hy : y < N) :
    ACalls Try.prog 97 [.agg (sqS N t), .i .u8 y] [] (fun v ms ns => v = .agg (plS (colL N t y)) ∧ ms = [] ∧ ns = []) := by
  have hN := hs.le
  have key : mapL (fun x => cl t x y) 10 = colL N t y := by
    refine places_ext (mapL_bytes (by omega) fun x _ => ht.cell_lt x y) (colL_bytes ht hN) fun a ha => ?_
    unfold colL
    rw [pl_mapL (by omega) ha]
    by_cases h : a < N
    · rw [pl_mapL hN h]
    · rw [pl_mapL0 hN h]; exact hs.zero ha (by omega) (by omega)
  rw [← key]
  refine acalls_of_body mix Try.func97 rfl fok97 (Nat.le_of_ble_eq_true rfl) ?_
  unfold abody
  simp only [absE, absL, absF, reduceCtorEq, ↓reduceIte, Nat.reduceEqDiff, Nat.reduceAdd, Nat.reduceLT, Nat.reduceMul, Nat.reduceSub, Nat.reduceLeDiff, Int.reduceLT, Int.reduceLE, Int.reduceEq, Option.isSome_some, implies_true, false_implies, Prod.mk.injEq, ne_eq, not_false_eq_true, not_true_eq_false, ge_iff_le, gt_iff_lt, Int.toNat_natCast, Int.reduceToNat, Int.cast_ofNat_Int, Int.natCast_nonneg, Try.f97]
  refine awpLoop.intro (fun x : Nat => [(1, .i .u8 y), (2, .ref (.ptr 1 0 0 0)), (4, .ref (.ptr 2 0 0 0)), (5, .ref (.ptr 4 0 0 0)), (8, .i .i64 x)]) (fun x => ⟨[], [((1, 0), .lv true (sqS N t)), ((2, 0), .lv true (plS (List.replicate 10 0))), ((4, 0), .lv true (plS (mapL (fun x => cl t x y) x)))], 7⟩)
    (fun x => x ≤ 10) (fun x => 10 - x) 0 (by omega) ⟨[((1,0),(1,0)), ((2,0),(2,0)), ((4,0),(4,0))], rfl, ?_, ?_⟩ ?_
  · simp [wkEnv, lk, renV, renAt, renTo, mapL]
  · simp [wkMem, wkLoc, Mem.get, assoc, renBlk, renSegs, renSg, renTo, mapL]
  · intro x hx
    by_cases h : (x : Int) < 10
    · have w := wrap_i64s (show x < 2 ^ 62 by omega)
      have i2 : (y : Int) < 10 := by omega
      have u1 : 0 + x * 10 + y * 1 < 100 := by omega
      have u2 : 0 + x * 1 + 1 ≤ 10 := by omega
      have k1 := sq_colget ht x y
      simp only [absE, absL, absF, reduceCtorEq, ↓reduceIte, Nat.reduceEqDiff, Nat.reduceAdd, Nat.reduceLT, Nat.reduceMul, Nat.reduceSub, Nat.reduceLeDiff, Int.reduceLT, Int.reduceLE, Int.reduceEq, Option.isSome_some, implies_true, false_implies, Prod.mk.injEq, ne_eq, not_false_eq_true, not_true_eq_false, ge_iff_le, gt_iff_lt, Int.toNat_natCast, Int.reduceToNat, Int.cast_ofNat_Int, Int.natCast_nonneg, h, i2, u1, u2, k1]
      refine LoopNext.intro (x + 1) (by omega) (by omega) ⟨[((1,0),(1,0)), ((2,0),(2,0)), ((4,0),(4,0))], rfl, ?_, ?_⟩
      · simp [wkEnv, lk, renV, renAt, renTo, mapL, w]
      · simp [wkMem, wkLoc, Mem.get, assoc, renBlk, renSegs, renSg, renTo, mapL, w]
    · have hxN : x = 10 := by omega
      subst hxN
      simp only [absE, absL, absF, reduceCtorEq, ↓reduceIte, Nat.reduceEqDiff, Nat.reduceAdd, Nat.reduceLT, Nat.reduceMul, Nat.reduceSub, Nat.reduceLeDiff, Int.reduceLT, Int.reduceLE, Int.reduceEq, Option.isSome_some, implies_true, false_implies, Prod.mk.injEq, ne_eq, not_false_eq_true, not_true_eq_false, ge_iff_le, gt_iff_lt, Int.toNat_natCast, Int.reduceToNat, Int.cast_ofNat_Int, Int.natCast_nonneg, h, Try.results97]
      exact ⟨[], by simp, by simp, by simp [renV, renVs, renSegs, renSg]⟩
theorem implThen_ok (N : Nat) (p q : List Int) (hp : Bytes 10 p) (hq : Bytes 10 q) (hN : N ≤ 10) (hb : ∀ i, i < N → pl p i < 10) :
    ACalls Try.prog 104 [.agg (plS p), .agg (plS q), .i .i64 N] [] (fun v ms ns => v = .agg (plS (mapL (fun i => pl q (pl p i)) N)) ∧ ms = [] ∧ ns = []) := by
  refine acalls_of_body mix Try.func104 rfl fok104 (Nat.le_of_ble_eq_true rfl) ?_
  unfold abody
  simp only [absE, absL, absF, reduceCtorEq, ↓reduceIte, Nat.reduceEqDiff, Nat.reduceAdd, Nat.reduceLT, Nat.reduceMul, Nat.reduceSub, Nat.reduceLeDiff, Int.reduceLT, Int.reduceLE, Int.reduceEq, Option.isSome_some, implies_true, false_implies, Prod.mk.injEq, ne_eq, not_false_eq_true, not_true_eq_false, ge_iff_le, gt_iff_lt, Int.toNat_natCast, Int.reduceToNat, Int.cast_ofNat_Int, Int.natCast_nonneg, Try.f104]
  refine awpLoop.intro (fun x : Nat => [(3, .ref (.ptr 1 0 0 0)), (4, .ref (.ptr 2 0 0 0)), (6, .ref (.ptr 3 0 0 0)), (7, .ref (.ptr 5 0 0 0)), (10, .i .i64 N), (11, .i .i64 x)]) (fun x => ⟨[], [((1, 0), .lv true (plS p)), ((2, 0), .lv true (plS q)), ((3, 0), .lv true (plS (List.replicate 10 0))), ((5, 0), .lv true (plS (mapL (fun i => pl q (pl p i)) x)))], 9⟩)
    (fun x => x ≤ N) (fun x => N - x) 0 (by omega) ⟨[((1,0),(1,0)), ((2,0),(2,0)), ((3,0),(3,0)), ((5,0),(5,0))], rfl, ?_, ?_⟩ ?_
  · simp [wkEnv, lk, renV, renAt, renTo, mapL]
  · simp [wkMem, wkLoc, Mem.get, assoc, renBlk, renSegs, renSg, renTo, mapL]
  · intro x hx
    by_cases h : (x : Int) < N
    · have w := wrap_i64s (show x < 2 ^ 62 by omega)
      have j1 := hb x (by omega)
      have i1 : (x : Int) < 10 := by omega
      have i2 : (pl p x : Int) < 10 := by omega
      have u1 : 0 + x * 1 < 10 := by omega
      have u2 : 0 + pl p x * 1 < 10 := by omega
      have u3 : 0 + x * 1 + 1 ≤ 10 := by omega
      have k1 : p.getD (0 + x * 1) 0 = (pl p x : Int) := by rw [Nat.zero_add, Nat.mul_one]; exact hp.place x
      have k2 : q.getD (0 + pl p x * 1) 0 = (pl q (pl p x) : Int) := by rw [Nat.zero_add, Nat.mul_one]; exact hq.place _
      simp only [absE, absL, absF, reduceCtorEq, ↓reduceIte, Nat.reduceEqDiff, Nat.reduceAdd, Nat.reduceLT, Nat.reduceMul, Nat.reduceSub, Nat.reduceLeDiff, Int.reduceLT, Int.reduceLE, Int.reduceEq, Option.isSome_some, implies_true, false_implies, Prod.mk.injEq, ne_eq, not_false_eq_true, not_true_eq_false, ge_iff_le, gt_iff_lt, Int.toNat_natCast, Int.reduceToNat, Int.cast_ofNat_Int, Int.natCast_nonneg, h, i1, i2, u1, u2, u3, k1, k2]
      refine LoopNext.intro (x + 1) (by omega) (by omega) ⟨[((1,0),(1,0)), ((2,0),(2,0)), ((3,0),(3,0)), ((5,0),(5,0))], rfl, ?_, ?_⟩
      · simp [wkEnv, lk, renV, renAt, renTo, mapL, w]
      · simp [wkMem, wkLoc, Mem.get, assoc, renBlk, renSegs, renSg, renTo, mapL, w]
    · have hxN : x = N := by omega
      subst hxN
      simp only [absE, absL, absF, reduceCtorEq, ↓reduceIte, Nat.reduceEqDiff, Nat.reduceAdd, Nat.reduceLT, Nat.reduceMul, Nat.reduceSub, Nat.reduceLeDiff, Int.reduceLT, Int.reduceLE, Int.reduceEq, Option.isSome_some, implies_true, false_implies, Prod.mk.injEq, ne_eq, not_false_eq_true, not_true_eq_false, ge_iff_le, gt_iff_lt, Int.toNat_natCast, Int.reduceToNat, Int.cast_ofNat_Int, Int.natCast_nonneg, h, Try.results104]
      exact ⟨[], by simp, by simp, by simp [renV, renVs, renSegs, renSg]⟩
def idL (N : Nat) : List Int := mapL (fun i => i) N
theorem idL_bytes {N : Nat} (hN : N ≤ 10) : Bytes 10 (idL N) := mapL_bytes hN fun x h => by omega
theorem specSame_ok (N : Nat) (hN : N ≤ 10) : ACalls Try.prog 103 [.i .i64 N] [] (fun v ms ns => v = .agg (plS (idL N)) ∧ ms = [] ∧ ns = []) := by
  refine acalls_of_body mix Try.func103 rfl fok103 (Nat.le_of_ble_eq_true rfl) ?_
  unfold abody
  simp only [absE, absL, absF, reduceCtorEq, ↓reduceIte, Nat.reduceEqDiff, Nat.reduceAdd, Nat.reduceLT, Nat.reduceMul, Nat.reduceSub, Nat.reduceLeDiff, Int.reduceLT, Int.reduceLE, Int.reduceEq, Option.isSome_some, implies_true, false_implies, Prod.mk.injEq, ne_eq, not_false_eq_true, not_true_eq_false, ge_iff_le, gt_iff_lt, Int.toNat_natCast, Int.reduceToNat, Int.cast_ofNat_Int, Int.natCast_nonneg, Try.f103]
  refine awpLoop.intro (fun x : Nat => [(0, .i .i64 N), (2, .ref (.ptr 1 0 0 0)), (3, .ref (.ptr 3 0 0 0)), (4, .i .i64 x)]) (fun x => ⟨[], [((1, 0), .lv true (plS (List.replicate 10 0))), ((3, 0), .lv true (plS (mapL (fun i => i) x)))], 6⟩)
    (fun x => x ≤ N) (fun x => N - x) 0 (by omega) ⟨[((1,0),(1,0)), ((3,0),(3,0))], rfl, ?_, ?_⟩ ?_
  · simp [wkEnv, lk, renV, renAt, renTo, mapL]
  · simp [wkMem, wkLoc, Mem.get, assoc, renBlk, renSegs, renSg, renTo, mapL]
  · intro x hx
    by_cases h : (x : Int) < N
    · have w := wrap_i64s (show x < 2 ^ 62 by omega)
      have w8 := wrap_u8n (show x < 256 by omega)
      have i1 : (x : Int) < 10 := by omega
      have u3 : 0 + x * 1 + 1 ≤ 10 := by omega
      simp only [absE, absL, absF, reduceCtorEq, ↓reduceIte, Nat.reduceEqDiff, Nat.reduceAdd, Nat.reduceLT, Nat.reduceMul, Nat.reduceSub, Nat.reduceLeDiff, Int.reduceLT, Int.reduceLE, Int.reduceEq, Option.isSome_some, implies_true, false_implies, Prod.mk.injEq, ne_eq, not_false_eq_true, not_true_eq_false, ge_iff_le, gt_iff_lt, Int.toNat_natCast, Int.reduceToNat, Int.cast_ofNat_Int, Int.natCast_nonneg, h, i1, u3, w8]
      refine LoopNext.intro (x + 1) (by omega) (by omega) ⟨[((1,0),(1,0)), ((3,0),(3,0))], rfl, ?_, ?_⟩
      · simp [wkEnv, lk, renV, renAt, renTo, mapL, w]
      · simp [wkMem, wkLoc, Mem.get, assoc, renBlk, renSegs, renSg, renTo, mapL, w]
    · have hxN : x = N := by omega
      subst hxN
      simp only [absE, absL, absF, reduceCtorEq, ↓reduceIte, Nat.reduceEqDiff, Nat.reduceAdd, Nat.reduceLT, Nat.reduceMul, Nat.reduceSub, Nat.reduceLeDiff, Int.reduceLT, Int.reduceLE, Int.reduceEq, Option.isSome_some, implies_true, false_implies, Prod.mk.injEq, ne_eq, not_false_eq_true, not_true_eq_false, ge_iff_le, gt_iff_lt, Int.toNat_natCast, Int.reduceToNat, Int.cast_ofNat_Int, Int.natCast_nonneg, h, Try.results103]
      exact ⟨[], by simp, by simp, by simp [renV, renVs, renSegs, renSg, idL]⟩
theorem implIdentity_ok (N : Nat) (hN : N ≤ 10) : ACalls Try.prog 93 [.i .i64 N] [] (fun v ms ns => v = .agg (plS (idL N)) ∧ ms = [] ∧ ns = []) := by
  refine acalls_of_body mix Try.func93 rfl fok93 (Nat.le_of_ble_eq_true rfl) ?_
  unfold abody
  simp only [absE, absL, absF, reduceCtorEq, ↓reduceIte, Nat.reduceEqDiff, Nat.reduceAdd, Nat.reduceLT, Nat.reduceMul, Nat.reduceSub, Nat.reduceLeDiff, Int.reduceLT, Int.reduceLE, Int.reduceEq, Option.isSome_some, implies_true, false_implies, Prod.mk.injEq, ne_eq, not_false_eq_true, not_true_eq_false, ge_iff_le, gt_iff_lt, Int.toNat_natCast, Int.reduceToNat, Int.cast_ofNat_Int, Int.natCast_nonneg, Try.f93]
  refine awpLoop.intro (fun x : Nat => [(2, .ref (.ptr 1 0 0 0)), (3, .ref (.ptr 3 0 0 0)), (6, .i .i64 N), (7, .i .i64 x)]) (fun x => ⟨[], [((1, 0), .lv true (plS (List.replicate 10 0))), ((3, 0), .lv true (plS (mapL (fun i => i) x)))], 7⟩)
    (fun x => x ≤ N) (fun x => N - x) 0 (by omega) ⟨[((1,0),(1,0)), ((3,0),(3,0))], rfl, ?_, ?_⟩ ?_
  · simp [wkEnv, lk, renV, renAt, renTo, mapL]
  · simp [wkMem, wkLoc, Mem.get, assoc, renBlk, renSegs, renSg, renTo, mapL]
  · intro x hx
    by_cases h : (x : Int) < N
    · have w := wrap_i64s (show x < 2 ^ 62 by omega)
      have w8 := wrap_u8n (show x < 256 by omega)
      have i1 : (x : Int) < 10 := by omega
      have u3 : 0 + x * 1 + 1 ≤ 10 := by omega
      simp only [absE, absL, absF, reduceCtorEq, ↓reduceIte, Nat.reduceEqDiff, Nat.reduceAdd, Nat.reduceLT, Nat.reduceMul, Nat.reduceSub, Nat.reduceLeDiff, Int.reduceLT, Int.reduceLE, Int.reduceEq, Option.isSome_some, implies_true, false_implies, Prod.mk.injEq, ne_eq, not_false_eq_true, not_true_eq_false, ge_iff_le, gt_iff_lt, Int.toNat_natCast, Int.reduceToNat, Int.cast_ofNat_Int, Int.natCast_nonneg, h, i1, u3, w8]
      refine LoopNext.intro (x + 1) (by omega) (by omega) ⟨[((1,0),(1,0)), ((3,0),(3,0))], rfl, ?_, ?_⟩
      · simp [wkEnv, lk, renV, renAt, renTo, mapL, w]
      · simp [wkMem, wkLoc, Mem.get, assoc, renBlk, renSegs, renSg, renTo, mapL, w]
    · have hxN : x = N := by omega
      subst hxN
      simp only [absE, absL, absF, reduceCtorEq, ↓reduceIte, Nat.reduceEqDiff, Nat.reduceAdd, Nat.reduceLT, Nat.reduceMul, Nat.reduceSub, Nat.reduceLeDiff, Int.reduceLT, Int.reduceLE, Int.reduceEq, Option.isSome_some, implies_true, false_implies, Prod.mk.injEq, ne_eq, not_false_eq_true, not_true_eq_false, ge_iff_le, gt_iff_lt, Int.toNat_natCast, Int.reduceToNat, Int.cast_ofNat_Int, Int.natCast_nonneg, h, Try.results93]
      exact ⟨[], by simp, by simp, by simp [renV, renVs, renSegs, renSg, idL]⟩

end Go.Proofs.Ytjmenocghjggcaa
