/-
Contracts of functions of the given program, by the abstract walk.
-/
import Derived.Test.YtgcfkdgdlllgjaaAbsW
import Derived.Test.YtgcfkdgdlllgjaaDp
import Derived.Test.YtgcfkdgdlllgjaaDg
namespace Go.Proofs.Ytgcfkdgdlllgjaa
open Go Go.Abs
set_option linter.unusedVariables false
set_option linter.unusedSectionVars false
set_option linter.unusedSimpArgs false
set_option maxRecDepth 100000
/-- What commutes with all elements, up to some place. -/
def comR (t : List Int) (a : Nat) : Nat → Bool
  | 0 => true
  | y + 1 => comR t a y && decide (cl t a y = cl t y a)
theorem comR_iff {t : List Int} {a : Nat} : ∀ {n}, comR t a n = true ↔ ∀ y, y < n → cl t a y = cl t y a
  | 0 => by simp [comR]
  | n + 1 => by
    rw [comR, Bool.and_eq_true, comR_iff, decide_eq_true_eq]
    constructor
    · rintro ⟨h1, h2⟩ y hy
      by_cases e : y = n
      · subst e; exact h2
      · exact h1 y (by omega)
    · intro h; exact ⟨fun y hy => h y (by omega), h n (by omega)⟩
theorem row_col {N : Nat} {t : List Int} (ht : Bytes 100 t) (hs : SqP N t) {a : Nat} (ha : a < N) : rowL t a = colL N t a ↔ comR t a N = true := by
  have hN := hs.le
  rw [comR_iff]
  constructor
  · intro h y hy
    have := congrArg (fun l => pl l y) h
    simp only [pl_rowL (show y < 10 by omega)] at this
    rw [this]; exact pl_mapL hN hy
  · intro h
    refine places_ext (rowL_bytes ht (by omega)) (colL_bytes ht hN) fun i hi => ?_
    rw [pl_rowL hi]
    by_cases h1 : i < N
    · rw [h i h1]; exact (pl_mapL (g := fun x => cl t x a) hN h1).symm
    · rw [hs.zero (by omega) hi (by omega)]; exact (pl_mapL0 (g := fun x => cl t x a) hN h1).symm
theorem commutant1_ok (N : Nat) (t : List Int) (a : Nat) (ht : Bytes 100 t) (hs : SqP N t) (ha : a < N) :
    ACalls Try.prog 147 [.i .u8 a, .ref (.ptr 0 0 0 0)] [.lv true (sqS N t)] (fun v ms ns => v = .b (comR t a N) ∧ ms = [.lv true (sqS N t)] ∧ ns = []) := by
  have hN := hs.le
  refine acalls_of_body mix Try.func147 rfl fok147 (Nat.le_of_ble_eq_true rfl) ?_
  unfold abody
  simp only [absE, absL, absF, reduceCtorEq, ↓reduceIte, Nat.reduceEqDiff, Nat.reduceAdd, Nat.reduceLT, Nat.reduceMul, Nat.reduceSub, Nat.reduceLeDiff, Int.reduceLT, Int.reduceLE, Int.reduceEq, Option.isSome_some, implies_true, false_implies, Prod.mk.injEq, ne_eq, not_false_eq_true, not_true_eq_false, ge_iff_le, gt_iff_lt, Int.toNat_natCast, Int.reduceToNat, Int.cast_ofNat_Int, Int.natCast_nonneg, Try.f147]
  refine CallsX.none (implRow_ok N t a ht (by omega)) ?_
  simp only [absE, absL, absF, reduceCtorEq, ↓reduceIte, Nat.reduceEqDiff, Nat.reduceAdd, Nat.reduceLT, Nat.reduceMul, Nat.reduceSub, Nat.reduceLeDiff, Int.reduceLT, Int.reduceLE, Int.reduceEq, Option.isSome_some, implies_true, false_implies, Prod.mk.injEq, ne_eq, not_false_eq_true, not_true_eq_false, ge_iff_le, gt_iff_lt, Int.toNat_natCast, Int.reduceToNat, Int.cast_ofNat_Int, Int.natCast_nonneg]
  refine CallsX.none (implColumn_ok N t a ht hs ha) ?_
  by_cases hb : rowL t a = colL N t a
  · have hb2 := (row_col ht hs ha).1 hb
    simp only [absE, absL, absF, reduceCtorEq, ↓reduceIte, Nat.reduceEqDiff, Nat.reduceAdd, Nat.reduceLT, Nat.reduceMul, Nat.reduceSub, Nat.reduceLeDiff, Int.reduceLT, Int.reduceLE, Int.reduceEq, Option.isSome_some, implies_true, false_implies, Prod.mk.injEq, ne_eq, not_false_eq_true, not_true_eq_false, ge_iff_le, gt_iff_lt, Int.toNat_natCast, Int.reduceToNat, Int.cast_ofNat_Int, Int.natCast_nonneg, hb, Try.results147]
    exact ⟨[], by simp, by simp, by simp [renV, renVs, renSegs, renSg, renBlk, hb2]⟩
  · have hb2 : comR t a N = false := by
      cases h : comR t a N
      · rfl
      · exact absurd ((row_col ht hs ha).2 h) hb
    simp only [absE, absL, absF, reduceCtorEq, ↓reduceIte, Nat.reduceEqDiff, Nat.reduceAdd, Nat.reduceLT, Nat.reduceMul, Nat.reduceSub, Nat.reduceLeDiff, Int.reduceLT, Int.reduceLE, Int.reduceEq, Option.isSome_some, implies_true, false_implies, Prod.mk.injEq, ne_eq, not_false_eq_true, not_true_eq_false, ge_iff_le, gt_iff_lt, Int.toNat_natCast, Int.reduceToNat, Int.cast_ofNat_Int, Int.natCast_nonneg, hb, Try.results147]
    exact ⟨[], by simp, by simp, by simp [renV, renVs, renSegs, renSg, renBlk, hb2]⟩
theorem commutant_ok (N : Nat) (t : List Int) (ht : Bytes 100 t) (hs : SqP N t) :
    ACalls Try.prog 101 [.agg (sqS N t)] [] (fun v ms ns => v = .i .i64 (setM (fun a => comR t a N) N) ∧ ms = [] ∧ ns = []) := by
  refine acalls_of_body mix Try.func101 rfl fok101 (Nat.le_of_ble_eq_true rfl) ?_
  unfold abody
  simp only [absE, absL, absF, reduceCtorEq, ↓reduceIte, Nat.reduceEqDiff, Nat.reduceAdd, Nat.reduceLT, Nat.reduceMul, Nat.reduceSub, Nat.reduceLeDiff, Int.reduceLT, Int.reduceLE, Int.reduceEq, Option.isSome_some, implies_true, false_implies, Prod.mk.injEq, ne_eq, not_false_eq_true, not_true_eq_false, ge_iff_le, gt_iff_lt, Int.toNat_natCast, Int.reduceToNat, Int.cast_ofNat_Int, Int.natCast_nonneg, Try.f101]
  refine CallsVia.args [(1, 0)] (those1_ok N t hs.le 147 (fun a => comR t a N) (sqS N t) (fun ρ => by simp [renSegs, renSg]) (fun z hz => commutant1_ok N t z ht hs hz)) (by simp) (by simp [Mem.get, assoc]) rfl rfl ?_
  rintro _ _ _ ⟨rfl, rfl, rfl⟩
  simp only [absE, absL, absF, reduceCtorEq, ↓reduceIte, Nat.reduceEqDiff, Nat.reduceAdd, Nat.reduceLT, Nat.reduceMul, Nat.reduceSub, Nat.reduceLeDiff, Int.reduceLT, Int.reduceLE, Int.reduceEq, Option.isSome_some, implies_true, false_implies, Prod.mk.injEq, ne_eq, not_false_eq_true, not_true_eq_false, ge_iff_le, gt_iff_lt, Int.toNat_natCast, Int.reduceToNat, Int.cast_ofNat_Int, Int.natCast_nonneg, Try.results101]
  exact ⟨[], by simp, by simp, by simp [renV, renVs, renSegs, renSg]⟩
noncomputable def nucP (N : Nat) (t : List Int) (a : Nat) : Bool := nucB 0 N t a && nucB 1 N t a && nucB 2 N t a
noncomputable def cenP (N : Nat) (t : List Int) (a : Nat) : Bool := comR t a N && nucP N t a
theorem nucleus_ok (N : Nat) (t : List Int) (ht : Bytes 100 t) (hs : SqP N t) :
    ACalls Try.prog 100 [.agg (sqS N t)] [] (fun v ms ns => v = .i .i64 (setM (nucP N t) N) ∧ ms = [] ∧ ns = []) := by
  have hN := hs.le
  have a1 := wrap_and (a := setM (nucB 0 N t) N) (b := setM (nucB 1 N t) N) (setM_small hN) (setM_small hN)
  rw [setM_and] at a1
  have a2 := wrap_and (a := setM (fun i => nucB 0 N t i && nucB 1 N t i) N) (b := setM (nucB 2 N t) N) (setM_small hN) (setM_small hN)
  rw [setM_and] at a2
  refine acalls_of_body mix Try.func100 rfl fok100 (Nat.le_of_ble_eq_true rfl) ?_
  unfold abody
  simp only [absE, absL, absF, reduceCtorEq, ↓reduceIte, Nat.reduceEqDiff, Nat.reduceAdd, Nat.reduceLT, Nat.reduceMul, Nat.reduceSub, Nat.reduceLeDiff, Int.reduceLT, Int.reduceLE, Int.reduceEq, Option.isSome_some, implies_true, false_implies, Prod.mk.injEq, ne_eq, not_false_eq_true, not_true_eq_false, ge_iff_le, gt_iff_lt, Int.toNat_natCast, Int.reduceToNat, Int.cast_ofNat_Int, Int.natCast_nonneg, Try.f100]
  refine CallsX.none (leftNucleus_ok N t ht hs) ?_
  simp only [absE, absL, absF, reduceCtorEq, ↓reduceIte, Nat.reduceEqDiff, Nat.reduceAdd, Nat.reduceLT, Nat.reduceMul, Nat.reduceSub, Nat.reduceLeDiff, Int.reduceLT, Int.reduceLE, Int.reduceEq, Option.isSome_some, implies_true, false_implies, Prod.mk.injEq, ne_eq, not_false_eq_true, not_true_eq_false, ge_iff_le, gt_iff_lt, Int.toNat_natCast, Int.reduceToNat, Int.cast_ofNat_Int, Int.natCast_nonneg]
  refine CallsX.none (middleNucleus_ok N t ht hs) ?_
  simp only [absE, absL, absF, reduceCtorEq, ↓reduceIte, Nat.reduceEqDiff, Nat.reduceAdd, Nat.reduceLT, Nat.reduceMul, Nat.reduceSub, Nat.reduceLeDiff, Int.reduceLT, Int.reduceLE, Int.reduceEq, Option.isSome_some, implies_true, false_implies, Prod.mk.injEq, ne_eq, not_false_eq_true, not_true_eq_false, ge_iff_le, gt_iff_lt, Int.toNat_natCast, Int.reduceToNat, Int.cast_ofNat_Int, Int.natCast_nonneg, a1]
  refine CallsX.none (rightNucleus_ok N t ht hs) ?_
  simp only [absE, absL, absF, reduceCtorEq, ↓reduceIte, Nat.reduceEqDiff, Nat.reduceAdd, Nat.reduceLT, Nat.reduceMul, Nat.reduceSub, Nat.reduceLeDiff, Int.reduceLT, Int.reduceLE, Int.reduceEq, Option.isSome_some, implies_true, false_implies, Prod.mk.injEq, ne_eq, not_false_eq_true, not_true_eq_false, ge_iff_le, gt_iff_lt, Int.toNat_natCast, Int.reduceToNat, Int.cast_ofNat_Int, Int.natCast_nonneg, a2, Try.results100]
  exact ⟨[], by simp, by simp, rfl, rfl, rfl⟩
theorem centre_ok (N : Nat) (t : List Int) (ht : Bytes 100 t) (hs : SqP N t) :
    ACalls Try.prog 56 [.agg (sqS N t)] [] (fun v ms ns => v = .i .i64 (setM (cenP N t) N) ∧ ms = [] ∧ ns = []) := by
  have hN := hs.le
  have a1 := wrap_and (a := setM (nucP N t) N) (b := setM (fun a => comR t a N) N) (setM_small hN) (setM_small hN)
  rw [setM_and] at a1
  have e : setM (fun i => nucP N t i && comR t i N) N = setM (cenP N t) N := setM_congr fun i _ => Bool.and_comm _ _
  rw [e] at a1
  refine acalls_of_body mix Try.func56 rfl fok56 (Nat.le_of_ble_eq_true rfl) ?_
  unfold abody
  simp only [absE, absL, absF, reduceCtorEq, ↓reduceIte, Nat.reduceEqDiff, Nat.reduceAdd, Nat.reduceLT, Nat.reduceMul, Nat.reduceSub, Nat.reduceLeDiff, Int.reduceLT, Int.reduceLE, Int.reduceEq, Option.isSome_some, implies_true, false_implies, Prod.mk.injEq, ne_eq, not_false_eq_true, not_true_eq_false, ge_iff_le, gt_iff_lt, Int.toNat_natCast, Int.reduceToNat, Int.cast_ofNat_Int, Int.natCast_nonneg, Try.f56]
  refine CallsX.none (nucleus_ok N t ht hs) ?_
  simp only [absE, absL, absF, reduceCtorEq, ↓reduceIte, Nat.reduceEqDiff, Nat.reduceAdd, Nat.reduceLT, Nat.reduceMul, Nat.reduceSub, Nat.reduceLeDiff, Int.reduceLT, Int.reduceLE, Int.reduceEq, Option.isSome_some, implies_true, false_implies, Prod.mk.injEq, ne_eq, not_false_eq_true, not_true_eq_false, ge_iff_le, gt_iff_lt, Int.toNat_natCast, Int.reduceToNat, Int.cast_ofNat_Int, Int.natCast_nonneg]
  refine CallsX.none (commutant_ok N t ht hs) ?_
  simp only [absE, absL, absF, reduceCtorEq, ↓reduceIte, Nat.reduceEqDiff, Nat.reduceAdd, Nat.reduceLT, Nat.reduceMul, Nat.reduceSub, Nat.reduceLeDiff, Int.reduceLT, Int.reduceLE, Int.reduceEq, Option.isSome_some, implies_true, false_implies, Prod.mk.injEq, ne_eq, not_false_eq_true, not_true_eq_false, ge_iff_le, gt_iff_lt, Int.toNat_natCast, Int.reduceToNat, Int.cast_ofNat_Int, Int.natCast_nonneg, a1, Try.results56]
  exact ⟨[], by simp, by simp, by simp [renV, renVs, renSegs, renSg]⟩
theorem l05Commutant_ok (N : Nat) (t : List Int) (ht : Bytes 100 t) (hs : SqP N t) :
    ACalls Try.prog 97 [.agg (sqS N t)] [] (fun v ms ns => v = .ref (.sl 1 0 0 0 (memL (fun a => comR t a N) N).length 1) ∧ ms = [] ∧ ns = [.lv true [(0, .ints .i64 (memL (fun a => comR t a N) N).length (memL (fun a => comR t a N) N))]]) := by
  have hN := hs.le
  refine acalls_of_body mix Try.func97 rfl fok97 (Nat.le_of_ble_eq_true rfl) ?_
  unfold abody
  simp only [absE, absL, absF, reduceCtorEq, ↓reduceIte, Nat.reduceEqDiff, Nat.reduceAdd, Nat.reduceLT, Nat.reduceMul, Nat.reduceSub, Nat.reduceLeDiff, Int.reduceLT, Int.reduceLE, Int.reduceEq, Option.isSome_some, implies_true, false_implies, Prod.mk.injEq, ne_eq, not_false_eq_true, not_true_eq_false, ge_iff_le, gt_iff_lt, Int.toNat_natCast, Int.reduceToNat, Int.cast_ofNat_Int, Int.natCast_nonneg, Try.f97]
  refine awpLoop.intro (fun x : Nat => [(1, .ref (.ptr 1 0 0 0)), (3, .ref (.sl 3 0 0 0 (memL (fun a => comR t a N) x).length 1)), (4, .i .i64 x)]) (fun x => ⟨[], [((1, 0), .lv true (sqS N t)), ((3, 0), .lv true ([(0, .ints .i64 (memL (fun a => comR t a N) x).length (memL (fun a => comR t a N) x))]))], 6⟩)
    (fun x => x ≤ N) (fun x => N - x) 0 (by omega) ⟨[((1,0),(1,0)), ((3,0),(3,0))], rfl, ?_, ?_⟩ ?_
  · simp [wkEnv, lk, renV, renAt, renTo, memL]
  · simp [wkMem, wkLoc, Mem.get, assoc, renBlk, renSegs, renSg, renTo, memL]
  · intro x hx
    have hl := memL_len (p := fun a => comR t a N) (k := x)
    by_cases h : (x : Int) < N
    · have w := wrap_i64s (show x < 2 ^ 62 by omega)
      simp only [absE, absL, absF, reduceCtorEq, ↓reduceIte, Nat.reduceEqDiff, Nat.reduceAdd, Nat.reduceLT, Nat.reduceMul, Nat.reduceSub, Nat.reduceLeDiff, Int.reduceLT, Int.reduceLE, Int.reduceEq, Option.isSome_some, implies_true, false_implies, Prod.mk.injEq, ne_eq, not_false_eq_true, not_true_eq_false, ge_iff_le, gt_iff_lt, Int.toNat_natCast, Int.reduceToNat, Int.cast_ofNat_Int, Int.natCast_nonneg, h]
      refine awpLoop.intro (fun y : Nat => [(1, .ref (.ptr 1 0 0 0)), (3, .ref (.sl 3 0 0 0 (memL (fun a => comR t a N) x).length 1)), (4, .i .i64 x), (5, .b (comR t x y)), (6, .i .i64 y)]) (fun y => ⟨[], [((1, 0), .lv true (sqS N t)), ((3, 0), .lv true ([(0, .ints .i64 (memL (fun a => comR t a N) x).length (memL (fun a => comR t a N) x))]))], 12⟩)
        (fun y => y ≤ N) (fun y => N - y) 0 (by omega) ⟨[((1,0),(1,0)), ((3,0),(3,0))], rfl, ?_, ?_⟩ ?_
      · simp [wkEnv, lk, renV, renAt, renTo, comR]
      · simp [wkMem, wkLoc, Mem.get, assoc, renBlk, renSegs, renSg, renTo, comR]
      · intro y hy
        by_cases h' : (y : Int) < N
        · have w' := wrap_i64s (show y < 2 ^ 62 by omega)
          have i1 : (x : Int) < 10 := by omega
          have i2 : (y : Int) < 10 := by omega
          have u1 : 0 + x * 10 + y * 1 < 100 := by omega
          have u2 : 0 + y * 10 + x * 1 < 100 := by omega
          have k1 := sq_colget ht x y
          have k2 := sq_colget ht y x
          cases hb : comR t x y
          · simp only [absE, absL, absF, reduceCtorEq, ↓reduceIte, Nat.reduceEqDiff, Nat.reduceAdd, Nat.reduceLT, Nat.reduceMul, Nat.reduceSub, Nat.reduceLeDiff, Int.reduceLT, Int.reduceLE, Int.reduceEq, Option.isSome_some, implies_true, false_implies, Prod.mk.injEq, ne_eq, not_false_eq_true, not_true_eq_false, ge_iff_le, gt_iff_lt, Int.toNat_natCast, Int.reduceToNat, Int.cast_ofNat_Int, Int.natCast_nonneg, h', hb]
            refine LoopNext.intro (y + 1) (by omega) (by omega) ⟨[((1,0),(1,0)), ((3,0),(3,0))], rfl, ?_, ?_⟩
            · simp [wkEnv, lk, renV, renAt, renTo, w', comR, hb]
            · simp [wkMem, wkLoc, Mem.get, assoc, renBlk, renSegs, renSg, renTo, w', comR, hb]
          · by_cases hc : cl t x y = cl t y x
            · have g : (cl t x y : Int) = cl t y x := by omega
              simp only [absE, absL, absF, reduceCtorEq, ↓reduceIte, Nat.reduceEqDiff, Nat.reduceAdd, Nat.reduceLT, Nat.reduceMul, Nat.reduceSub, Nat.reduceLeDiff, Int.reduceLT, Int.reduceLE, Int.reduceEq, Option.isSome_some, implies_true, false_implies, Prod.mk.injEq, ne_eq, not_false_eq_true, not_true_eq_false, ge_iff_le, gt_iff_lt, Int.toNat_natCast, Int.reduceToNat, Int.cast_ofNat_Int, Int.natCast_nonneg, h', hb, i1, i2, u1, u2, k1, k2, g]
              refine LoopNext.intro (y + 1) (by omega) (by omega) ⟨[((1,0),(1,0)), ((3,0),(3,0))], rfl, ?_, ?_⟩
              · simp [wkEnv, lk, renV, renAt, renTo, w', comR, hb, hc]
              · simp [wkMem, wkLoc, Mem.get, assoc, renBlk, renSegs, renSg, renTo, w', comR, hb, hc]
            · have g : ¬(cl t x y : Int) = cl t y x := by omega
              simp only [absE, absL, absF, reduceCtorEq, ↓reduceIte, Nat.reduceEqDiff, Nat.reduceAdd, Nat.reduceLT, Nat.reduceMul, Nat.reduceSub, Nat.reduceLeDiff, Int.reduceLT, Int.reduceLE, Int.reduceEq, Option.isSome_some, implies_true, false_implies, Prod.mk.injEq, ne_eq, not_false_eq_true, not_true_eq_false, ge_iff_le, gt_iff_lt, Int.toNat_natCast, Int.reduceToNat, Int.cast_ofNat_Int, Int.natCast_nonneg, h', hb, i1, i2, u1, u2, k1, k2, g]
              refine LoopNext.intro (y + 1) (by omega) (by omega) ⟨[((1,0),(1,0)), ((3,0),(3,0))], rfl, ?_, ?_⟩
              · simp [wkEnv, lk, renV, renAt, renTo, w', comR, hb, hc]
              · simp [wkMem, wkLoc, Mem.get, assoc, renBlk, renSegs, renSg, renTo, w', comR, hb, hc]
        · have hyN : y = N := by omega
          subst hyN
          cases hb : comR t x y
          · simp only [absE, absL, absF, reduceCtorEq, ↓reduceIte, Nat.reduceEqDiff, Nat.reduceAdd, Nat.reduceLT, Nat.reduceMul, Nat.reduceSub, Nat.reduceLeDiff, Int.reduceLT, Int.reduceLE, Int.reduceEq, Option.isSome_some, implies_true, false_implies, Prod.mk.injEq, ne_eq, not_false_eq_true, not_true_eq_false, ge_iff_le, gt_iff_lt, Int.toNat_natCast, Int.reduceToNat, Int.cast_ofNat_Int, Int.natCast_nonneg, h', hb]
            refine LoopNext.intro (x + 1) (by omega) (by omega) ⟨[((1,0),(1,0)), ((3,0),(3,0))], rfl, ?_, ?_⟩
            · simp [wkEnv, lk, renV, renAt, renTo, w, memL, hb]
            · simp [wkMem, wkLoc, Mem.get, assoc, renBlk, renSegs, renSg, renTo, w, memL, hb]
          · have mx : (memL (fun a => comR t a y) x).length * 1 = (memL (fun a => comR t a y) x).length := Nat.mul_one _
            simp only [absE, absL, absF, reduceCtorEq, ↓reduceIte, Nat.reduceEqDiff, Nat.reduceAdd, Nat.reduceLT, Nat.reduceMul, Nat.reduceSub, Nat.reduceLeDiff, Int.reduceLT, Int.reduceLE, Int.reduceEq, Option.isSome_some, implies_true, false_implies, Prod.mk.injEq, ne_eq, not_false_eq_true, not_true_eq_false, ge_iff_le, gt_iff_lt, Int.toNat_natCast, Int.reduceToNat, Int.cast_ofNat_Int, Int.natCast_nonneg, h', hb, mx]
            refine ⟨by omega, by omega, LoopNext.intro (x + 1) (by omega) (by omega) ⟨[((1,0),(1,0)), ((20,0),(3,0))], rfl, ?_, ?_⟩⟩
            · simp [wkEnv, lk, renV, renAt, renTo, w, memL, hb]
            · simp [wkMem, wkLoc, Mem.get, assoc, renBlk, renSegs, renSg, renTo, w, memL, hb]
    · have hxN : x = N := by omega
      subst hxN
      simp only [absE, absL, absF, reduceCtorEq, ↓reduceIte, Nat.reduceEqDiff, Nat.reduceAdd, Nat.reduceLT, Nat.reduceMul, Nat.reduceSub, Nat.reduceLeDiff, Int.reduceLT, Int.reduceLE, Int.reduceEq, Option.isSome_some, implies_true, false_implies, Prod.mk.injEq, ne_eq, not_false_eq_true, not_true_eq_false, ge_iff_le, gt_iff_lt, Int.toNat_natCast, Int.reduceToNat, Int.cast_ofNat_Int, Int.natCast_nonneg, h, Try.results97]
      exact ⟨[(3, 0)], by simp, by simp, by simp [renV, renAt, renFin, idx], by simp, by simp [renBlk, renSegs, renSg, Mem.get, assoc]⟩
/-- The entries of a list, up to some place, for which something is so. -/
def filR (q : Nat → Bool) (L : List Int) : Nat → List Int
  | 0 => []
  | i + 1 => if q (L.getD i 0).toNat then filR q L i ++ [L.getD i 0] else filR q L i
theorem filR_len {q : Nat → Bool} {L : List Int} : ∀ {i}, (filR q L i).length ≤ i
  | 0 => by simp [filR]
  | i + 1 => by have := filR_len (q := q) (L := L) (i := i); unfold filR; split <;> simp <;> omega
theorem filR_take {q : Nat → Bool} {L : List Int} : ∀ {i}, i ≤ L.length → filR q L i = (L.take i).filter (fun x => q x.toNat)
  | 0, _ => by simp [filR]
  | i + 1, h => by
    have h1 : L.getD i 0 = L[i] := by simp [show i < L.length by omega]
    rw [filR, filR_take (by omega), List.take_succ_eq_append_getElem (by omega), List.filter_append, h1]
    cases hq : q (L[i]).toNat <;> simp [hq]
theorem filR_all {q : Nat → Bool} {L : List Int} : filR q L L.length = L.filter (fun x => q x.toNat) := by
  rw [filR_take (Nat.le_refl _), List.take_length]
theorem memL_getD {p : Nat → Bool} {N i : Nat} (h : i < (memL p N).length) : ∃ a : Nat, (memL p N).getD i 0 = a ∧ a < N ∧ p a = true := by
  have h1 : (memL p N).getD i 0 ∈ memL p N := by simp [h]
  obtain ⟨a, e, h2, h3⟩ := memL_mem.1 h1
  exact ⟨a, e, h2, h3⟩
theorem l05Centre_ok (N : Nat) (t : List Int) (ht : Bytes 100 t) (hs : SqP N t) :
    ACalls Try.prog 54 [.agg (sqS N t)] [] (fun v ms ns => v = .ref (.sl 1 0 0 0 (memL (cenP N t) N).length 1) ∧ ms = [] ∧ ns = [.lv true [(0, .ints .i64 (memL (cenP N t) N).length (memL (cenP N t) N))]]) := by
  have hN := hs.le
  have key : filR (nucP N t) (memL (fun a => comR t a N) N) (memL (fun a => comR t a N) N).length = memL (cenP N t) N := by
    rw [filR_all]; exact memL_filter
  have hLl := memL_len (p := fun a => comR t a N) (k := N)
  have hget := fun i => memL_getD (p := fun a => comR t a N) (N := N) (i := i)
  refine acalls_of_body mix Try.func54 rfl fok54 (Nat.le_of_ble_eq_true rfl) ?_
  unfold abody
  simp only [absE, absL, absF, reduceCtorEq, ↓reduceIte, Nat.reduceEqDiff, Nat.reduceAdd, Nat.reduceLT, Nat.reduceMul, Nat.reduceSub, Nat.reduceLeDiff, Int.reduceLT, Int.reduceLE, Int.reduceEq, Option.isSome_some, implies_true, false_implies, Prod.mk.injEq, ne_eq, not_false_eq_true, not_true_eq_false, ge_iff_le, gt_iff_lt, Int.toNat_natCast, Int.reduceToNat, Int.cast_ofNat_Int, Int.natCast_nonneg, Try.f54]
  refine CallsVia.none (l05Commutant_ok N t ht hs) ?_
  rintro _ _ _ ⟨rfl, rfl, rfl⟩
  generalize memL (fun a => comR t a N) N = L at key hLl hget
  simp only [absE, absL, absF, reduceCtorEq, ↓reduceIte, Nat.reduceEqDiff, Nat.reduceAdd, Nat.reduceLT, Nat.reduceMul, Nat.reduceSub, Nat.reduceLeDiff, Int.reduceLT, Int.reduceLE, Int.reduceEq, Option.isSome_some, implies_true, false_implies, Prod.mk.injEq, ne_eq, not_false_eq_true, not_true_eq_false, ge_iff_le, gt_iff_lt, Int.toNat_natCast, Int.reduceToNat, Int.cast_ofNat_Int, Int.natCast_nonneg]
  refine awpLoop.intro (fun i : Nat => [(1, .ref (.ptr 1 0 0 0)), (3, .ref (.sl 3 0 0 0 (filR (nucP N t) L i).length 1)), (4, .ref (.sl 5 0 0 0 L.length 1)), (5, .i .i64 i)]) (fun i => ⟨[], [((1, 0), .lv true (sqS N t)), ((3, 0), .lv true ([(0, .ints .i64 (filR (nucP N t) L i).length (filR (nucP N t) L i))])), ((5, 0), .lv true ([(0, .ints .i64 L.length L)]))], 9⟩)
    (fun i => i ≤ L.length) (fun i => L.length - i) 0 (by omega) ⟨[((1,0),(1,0)), ((3,0),(3,0)), ((5,0),(5,0))], rfl, ?_, ?_⟩ ?_
  · simp [wkEnv, lk, renV, renAt, renTo, filR]
  · simp [wkMem, wkLoc, Mem.get, assoc, renBlk, renSegs, renSg, renTo, filR]
  · intro i hi
    have hl := filR_len (q := nucP N t) (L := L) (i := i)
    by_cases h : (i : Int) < L.length
    · have w := wrap_i64s (show i < 2 ^ 62 by omega)
      obtain ⟨a, ea, ha, _⟩ := hget i (by omega)
      have w8 := wrap_u8n (show a < 256 by omega)
      have v1 : 0 + i * 1 < L.length := by omega
      have k1 : L.getD (0 + i * 1) 0 = (a : Int) := by rw [Nat.zero_add, Nat.mul_one]; exact ea
      have mx : (filR (nucP N t) L i).length * 1 = (filR (nucP N t) L i).length := Nat.mul_one _
      have ta : (a : Int).toNat = a := by omega
      simp only [absE, absL, absF, reduceCtorEq, ↓reduceIte, Nat.reduceEqDiff, Nat.reduceAdd, Nat.reduceLT, Nat.reduceMul, Nat.reduceSub, Nat.reduceLeDiff, Int.reduceLT, Int.reduceLE, Int.reduceEq, Option.isSome_some, implies_true, false_implies, Prod.mk.injEq, ne_eq, not_false_eq_true, not_true_eq_false, ge_iff_le, gt_iff_lt, Int.toNat_natCast, Int.reduceToNat, Int.cast_ofNat_Int, Int.natCast_nonneg, h, v1, k1, w8]
      refine CallsVia.none (regular0_ok N t a ht hs ha) ?_
      rintro _ _ _ ⟨rfl, rfl, rfl⟩
      cases h0 : nucB 0 N t a
      · have hq : nucP N t (L.getD i 0).toNat = false := by rw [ea, ta]; simp [nucP, h0]
        simp only [absE, absL, absF, reduceCtorEq, ↓reduceIte, Nat.reduceEqDiff, Nat.reduceAdd, Nat.reduceLT, Nat.reduceMul, Nat.reduceSub, Nat.reduceLeDiff, Int.reduceLT, Int.reduceLE, Int.reduceEq, Option.isSome_some, implies_true, false_implies, Prod.mk.injEq, ne_eq, not_false_eq_true, not_true_eq_false, ge_iff_le, gt_iff_lt, Int.toNat_natCast, Int.reduceToNat, Int.cast_ofNat_Int, Int.natCast_nonneg]
        refine LoopNext.intro (i + 1) (by omega) (by omega) ⟨[((1,0),(1,0)), ((3,0),(3,0)), ((5,0),(5,0))], rfl, ?_, ?_⟩
        · simp only [filR, hq]; simp [wkEnv, lk, renV, renAt, renTo, w]
        · simp only [filR, hq]; simp [wkMem, wkLoc, Mem.get, assoc, renBlk, renSegs, renSg, renTo]
      · simp only [absE, absL, absF, reduceCtorEq, ↓reduceIte, Nat.reduceEqDiff, Nat.reduceAdd, Nat.reduceLT, Nat.reduceMul, Nat.reduceSub, Nat.reduceLeDiff, Int.reduceLT, Int.reduceLE, Int.reduceEq, Option.isSome_some, implies_true, false_implies, Prod.mk.injEq, ne_eq, not_false_eq_true, not_true_eq_false, ge_iff_le, gt_iff_lt, Int.toNat_natCast, Int.reduceToNat, Int.cast_ofNat_Int, Int.natCast_nonneg]
        refine CallsVia.none (regular1_ok N t a ht hs ha) ?_
        rintro _ _ _ ⟨rfl, rfl, rfl⟩
        cases h1 : nucB 1 N t a
        · have hq : nucP N t (L.getD i 0).toNat = false := by rw [ea, ta]; simp [nucP, h1]
          simp only [absE, absL, absF, reduceCtorEq, ↓reduceIte, Nat.reduceEqDiff, Nat.reduceAdd, Nat.reduceLT, Nat.reduceMul, Nat.reduceSub, Nat.reduceLeDiff, Int.reduceLT, Int.reduceLE, Int.reduceEq, Option.isSome_some, implies_true, false_implies, Prod.mk.injEq, ne_eq, not_false_eq_true, not_true_eq_false, ge_iff_le, gt_iff_lt, Int.toNat_natCast, Int.reduceToNat, Int.cast_ofNat_Int, Int.natCast_nonneg]
          refine LoopNext.intro (i + 1) (by omega) (by omega) ⟨[((1,0),(1,0)), ((3,0),(3,0)), ((5,0),(5,0))], rfl, ?_, ?_⟩
          · simp only [filR, hq]; simp [wkEnv, lk, renV, renAt, renTo, w]
          · simp only [filR, hq]; simp [wkMem, wkLoc, Mem.get, assoc, renBlk, renSegs, renSg, renTo]
        · simp only [absE, absL, absF, reduceCtorEq, ↓reduceIte, Nat.reduceEqDiff, Nat.reduceAdd, Nat.reduceLT, Nat.reduceMul, Nat.reduceSub, Nat.reduceLeDiff, Int.reduceLT, Int.reduceLE, Int.reduceEq, Option.isSome_some, implies_true, false_implies, Prod.mk.injEq, ne_eq, not_false_eq_true, not_true_eq_false, ge_iff_le, gt_iff_lt, Int.toNat_natCast, Int.reduceToNat, Int.cast_ofNat_Int, Int.natCast_nonneg]
          refine CallsVia.none (regular2_ok N t a ht hs ha) ?_
          rintro _ _ _ ⟨rfl, rfl, rfl⟩
          cases h2 : nucB 2 N t a
          · have hq : nucP N t (L.getD i 0).toNat = false := by rw [ea, ta]; simp [nucP, h2]
            simp only [absE, absL, absF, reduceCtorEq, ↓reduceIte, Nat.reduceEqDiff, Nat.reduceAdd, Nat.reduceLT, Nat.reduceMul, Nat.reduceSub, Nat.reduceLeDiff, Int.reduceLT, Int.reduceLE, Int.reduceEq, Option.isSome_some, implies_true, false_implies, Prod.mk.injEq, ne_eq, not_false_eq_true, not_true_eq_false, ge_iff_le, gt_iff_lt, Int.toNat_natCast, Int.reduceToNat, Int.cast_ofNat_Int, Int.natCast_nonneg]
            refine LoopNext.intro (i + 1) (by omega) (by omega) ⟨[((1,0),(1,0)), ((3,0),(3,0)), ((5,0),(5,0))], rfl, ?_, ?_⟩
            · simp only [filR, hq]; simp [wkEnv, lk, renV, renAt, renTo, w]
            · simp only [filR, hq]; simp [wkMem, wkLoc, Mem.get, assoc, renBlk, renSegs, renSg, renTo]
          · have hqa : nucP N t a = true := by simp [nucP, h0, h1, h2]
            simp only [absE, absL, absF, reduceCtorEq, ↓reduceIte, Nat.reduceEqDiff, Nat.reduceAdd, Nat.reduceLT, Nat.reduceMul, Nat.reduceSub, Nat.reduceLeDiff, Int.reduceLT, Int.reduceLE, Int.reduceEq, Option.isSome_some, implies_true, false_implies, Prod.mk.injEq, ne_eq, not_false_eq_true, not_true_eq_false, ge_iff_le, gt_iff_lt, Int.toNat_natCast, Int.reduceToNat, Int.cast_ofNat_Int, Int.natCast_nonneg, v1, k1, mx]
            refine ⟨by omega, by omega, by omega, LoopNext.intro (i + 1) (by omega) (by omega) ⟨[((1,0),(1,0)), ((38,0),(3,0)), ((5,0),(5,0))], rfl, ?_, ?_⟩⟩
            · simp only [filR, ea, Int.toNat_natCast, hqa, if_true]; simp [wkEnv, lk, renV, renAt, renTo, w]
            · simp only [filR, ea, Int.toNat_natCast, hqa, if_true]; simp [wkMem, wkLoc, Mem.get, assoc, renBlk, renSegs, renSg, renTo]
    · have hxN : i = L.length := by omega
      subst hxN
      simp only [absE, absL, absF, reduceCtorEq, ↓reduceIte, Nat.reduceEqDiff, Nat.reduceAdd, Nat.reduceLT, Nat.reduceMul, Nat.reduceSub, Nat.reduceLeDiff, Int.reduceLT, Int.reduceLE, Int.reduceEq, Option.isSome_some, implies_true, false_implies, Prod.mk.injEq, ne_eq, not_false_eq_true, not_true_eq_false, ge_iff_le, gt_iff_lt, Int.toNat_natCast, Int.reduceToNat, Int.cast_ofNat_Int, Int.natCast_nonneg, h, key, Try.results54]
      exact ⟨[(3, 0)], by simp, by simp, by simp [renV, renAt, renFin, idx], by simp, by simp [renBlk, renSegs, renSg, Mem.get, assoc, key]⟩
theorem implCentreOf_yes (n : Int) (t : List Int) (ht : Bytes 100 t) (h : loopB n t = true) :
    ACalls Try.prog 22 [.agg (sqS n t)] [] (fun v ms ns => v = listV (memL (cenP n.toNat t) n.toNat) ∧ ms = [] ∧ ns = listN (memL (cenP n.toNat t) n.toNat)) := by
  have hs : SqP n t := by simp only [loopB, Bool.and_eq_true] at h; exact sqB_iff.1 h.1
  obtain ⟨N, rfl⟩ : ∃ N : Nat, n = N := ⟨n.toNat, by have := hs.1; omega⟩
  have key : memL (setM (cenP N t) N).testBit 10 = memL (cenP N t) N := setM_list hs.le
  rw [show (N : Int).toNat = N by omega, ← key]
  refine acalls_of_body mix Try.func22 rfl fok22 (Nat.le_of_ble_eq_true rfl) ?_
  unfold abody
  simp only [absE, absL, absF, reduceCtorEq, ↓reduceIte, Nat.reduceEqDiff, Nat.reduceAdd, Nat.reduceLT, Nat.reduceMul, Nat.reduceSub, Nat.reduceLeDiff, Int.reduceLT, Int.reduceLE, Int.reduceEq, Option.isSome_some, implies_true, false_implies, Prod.mk.injEq, ne_eq, not_false_eq_true, not_true_eq_false, ge_iff_le, gt_iff_lt, Int.toNat_natCast, Int.reduceToNat, Int.cast_ofNat_Int, Int.natCast_nonneg, Try.f22]
  refine CallsVia.none (loopSet_yes N t 56 (setM (cenP N t) N) ht h (setM_small hs.le) (centre_ok N t ht hs)) ?_
  rintro _ _ _ ⟨rfl, rfl, rfl⟩
  simp only [listV, listN]
  simp only [absE, absL, absF, reduceCtorEq, ↓reduceIte, Nat.reduceEqDiff, Nat.reduceAdd, Nat.reduceLT, Nat.reduceMul, Nat.reduceSub, Nat.reduceLeDiff, Int.reduceLT, Int.reduceLE, Int.reduceEq, Option.isSome_some, implies_true, false_implies, Prod.mk.injEq, ne_eq, not_false_eq_true, not_true_eq_false, ge_iff_le, gt_iff_lt, Int.toNat_natCast, Int.reduceToNat, Int.cast_ofNat_Int, Int.natCast_nonneg, Try.results22]
  exact ⟨[(5, 0)], by simp, by simp, by simp [renV, renVs, renAt, renFin, idx, listV], by simp, by simp [renBlk, renSegs, renSg, Mem.get, assoc, listN]⟩
theorem implCentreOf_no (n : Int) (t : List Int) (ht : Bytes 100 t) (h : loopB n t = false) :
    ACalls Try.prog 22 [.agg (sqS n t)] [] (fun v ms ns => v = .tup [.ref .nils, .i .i64 1] ∧ ms = [] ∧ ns = []) := by
  refine acalls_of_body mix Try.func22 rfl fok22 (Nat.le_of_ble_eq_true rfl) ?_
  unfold abody
  simp only [absE, absL, absF, reduceCtorEq, ↓reduceIte, Nat.reduceEqDiff, Nat.reduceAdd, Nat.reduceLT, Nat.reduceMul, Nat.reduceSub, Nat.reduceLeDiff, Int.reduceLT, Int.reduceLE, Int.reduceEq, Option.isSome_some, implies_true, false_implies, Prod.mk.injEq, ne_eq, not_false_eq_true, not_true_eq_false, ge_iff_le, gt_iff_lt, Int.toNat_natCast, Int.reduceToNat, Int.cast_ofNat_Int, Int.natCast_nonneg, Try.f22]
  refine CallsVia.none (loopSet_no n t 56 ht h) ?_
  rintro _ _ _ ⟨rfl, rfl, rfl⟩
  simp only [absE, absL, absF, reduceCtorEq, ↓reduceIte, Nat.reduceEqDiff, Nat.reduceAdd, Nat.reduceLT, Nat.reduceMul, Nat.reduceSub, Nat.reduceLeDiff, Int.reduceLT, Int.reduceLE, Int.reduceEq, Option.isSome_some, implies_true, false_implies, Prod.mk.injEq, ne_eq, not_false_eq_true, not_true_eq_false, ge_iff_le, gt_iff_lt, Int.toNat_natCast, Int.reduceToNat, Int.cast_ofNat_Int, Int.natCast_nonneg, Try.results22]
  exact ⟨[], by simp, by simp, by simp [renV, renVs, renAt]⟩
theorem specCentreOf_yes (n : Int) (t : List Int) (ht : Bytes 100 t) (h : loopB n t = true) :
    ACalls Try.prog 21 [.agg (sqS n t)] [] (fun v ms ns => v = listV (memL (cenP n.toNat t) n.toNat) ∧ ms = [] ∧ ns = listN (memL (cenP n.toNat t) n.toNat)) := by
  have hs : SqP n t := by simp only [loopB, Bool.and_eq_true] at h; exact sqB_iff.1 h.1
  obtain ⟨N, rfl⟩ : ∃ N : Nat, n = N := ⟨n.toNat, by have := hs.1; omega⟩
  rw [show (N : Int).toNat = N by omega]
  refine acalls_of_body mix Try.func21 rfl fok21 (Nat.le_of_ble_eq_true rfl) ?_
  unfold abody
  simp only [absE, absL, absF, reduceCtorEq, ↓reduceIte, Nat.reduceEqDiff, Nat.reduceAdd, Nat.reduceLT, Nat.reduceMul, Nat.reduceSub, Nat.reduceLeDiff, Int.reduceLT, Int.reduceLE, Int.reduceEq, Option.isSome_some, implies_true, false_implies, Prod.mk.injEq, ne_eq, not_false_eq_true, not_true_eq_false, ge_iff_le, gt_iff_lt, Int.toNat_natCast, Int.reduceToNat, Int.cast_ofNat_Int, Int.natCast_nonneg, Try.f21]
  refine CallsVia.none (l01Loop_ok N t ht) ?_
  rintro _ _ _ ⟨rfl, rfl, rfl⟩
  simp only [absE, absL, absF, reduceCtorEq, ↓reduceIte, Nat.reduceEqDiff, Nat.reduceAdd, Nat.reduceLT, Nat.reduceMul, Nat.reduceSub, Nat.reduceLeDiff, Int.reduceLT, Int.reduceLE, Int.reduceEq, Option.isSome_some, implies_true, false_implies, Prod.mk.injEq, ne_eq, not_false_eq_true, not_true_eq_false, ge_iff_le, gt_iff_lt, Int.toNat_natCast, Int.reduceToNat, Int.cast_ofNat_Int, Int.natCast_nonneg, h]
  refine CallsVia.none (l05Centre_ok N t ht hs) ?_
  rintro _ _ _ ⟨rfl, rfl, rfl⟩
  simp only [absE, absL, absF, reduceCtorEq, ↓reduceIte, Nat.reduceEqDiff, Nat.reduceAdd, Nat.reduceLT, Nat.reduceMul, Nat.reduceSub, Nat.reduceLeDiff, Int.reduceLT, Int.reduceLE, Int.reduceEq, Option.isSome_some, implies_true, false_implies, Prod.mk.injEq, ne_eq, not_false_eq_true, not_true_eq_false, ge_iff_le, gt_iff_lt, Int.toNat_natCast, Int.reduceToNat, Int.cast_ofNat_Int, Int.natCast_nonneg, Try.results21]
  exact ⟨[(8, 0)], by simp, by simp, by simp [renV, renVs, renAt, renFin, idx, listV], by simp, by simp [renBlk, renSegs, renSg, Mem.get, assoc, listN]⟩
theorem specCentreOf_no (n : Int) (t : List Int) (ht : Bytes 100 t) (h : loopB n t = false) :
    ACalls Try.prog 21 [.agg (sqS n t)] [] (fun v ms ns => v = .tup [.ref .nils, .i .i64 1] ∧ ms = [] ∧ ns = []) := by
  refine acalls_of_body mix Try.func21 rfl fok21 (Nat.le_of_ble_eq_true rfl) ?_
  unfold abody
  simp only [absE, absL, absF, reduceCtorEq, ↓reduceIte, Nat.reduceEqDiff, Nat.reduceAdd, Nat.reduceLT, Nat.reduceMul, Nat.reduceSub, Nat.reduceLeDiff, Int.reduceLT, Int.reduceLE, Int.reduceEq, Option.isSome_some, implies_true, false_implies, Prod.mk.injEq, ne_eq, not_false_eq_true, not_true_eq_false, ge_iff_le, gt_iff_lt, Int.toNat_natCast, Int.reduceToNat, Int.cast_ofNat_Int, Int.natCast_nonneg, Try.f21]
  refine CallsVia.none (l01Loop_ok n t ht) ?_
  rintro _ _ _ ⟨rfl, rfl, rfl⟩
  simp only [absE, absL, absF, reduceCtorEq, ↓reduceIte, Nat.reduceEqDiff, Nat.reduceAdd, Nat.reduceLT, Nat.reduceMul, Nat.reduceSub, Nat.reduceLeDiff, Int.reduceLT, Int.reduceLE, Int.reduceEq, Option.isSome_some, implies_true, false_implies, Prod.mk.injEq, ne_eq, not_false_eq_true, not_true_eq_false, ge_iff_le, gt_iff_lt, Int.toNat_natCast, Int.reduceToNat, Int.cast_ofNat_Int, Int.natCast_nonneg, h, Try.results21]
  exact ⟨[], by simp, by simp, by simp [renV, renVs, renAt]⟩

end Go.Proofs.Ytgcfkdgdlllgjaa
