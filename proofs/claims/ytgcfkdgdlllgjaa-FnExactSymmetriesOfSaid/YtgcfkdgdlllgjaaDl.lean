/-
Contracts of functions of the given program, by the abstract walk.
-/
import Derived.Test.YtgcfkdgdlllgjaaAbsW
import Derived.Test.YtgcfkdgdlllgjaaDh
import Derived.Test.YtgcfkdgdlllgjaaDi
namespace Go.Proofs.Ytgcfkdgdlllgjaa
open Go Go.Abs
set_option linter.unusedVariables false
set_option linter.unusedSectionVars false
set_option linter.unusedSimpArgs false
set_option maxRecDepth 100000
def paraG (N : Nat) (t : List Int) (k : Int) (x y : Nat) : Nat :=
  if k = 0 then cl t x y else if k = 1 then cl t y x else if k = 2 then fnd (cl t x) y N else if k = 3 then fnd (fun i => cl t i y) x N else if k = 4 then fnd (cl t y) x N else fnd (fun i => cl t i x) y N
theorem para_cases {k : Int} (h : 0 ≤ k ∧ k ≤ 5) : k = 0 ∨ k = 1 ∨ k = 2 ∨ k = 3 ∨ k = 4 ∨ k = 5 := by omega
theorem paraG_lt {N : Nat} {t : List Int} (hs : SqP N t) {k : Int} {x y : Nat} (hx : x < N) (hy : y < N) : paraG N t k x y < N := by
  unfold paraG
  split
  · exact hs.cl_lt hx hy
  · split
    · exact hs.cl_lt hy hx
    · split
      · exact PermF.fnd_lt (hs.rowP hx) hs.le hy
      · split
        · exact PermF.fnd_lt (hs.colP hy) hs.le hx
        · split
          · exact PermF.fnd_lt (hs.rowP hy) hs.le hx
          · exact PermF.fnd_lt (hs.colP hx) hs.le hy
theorem paraG_bytes {N : Nat} {t : List Int} (hs : SqP N t) {k : Int} : Bytes 100 (mkT (paraG N t k) N N) :=
  mkT_bytes hs.le fun x y hx hy => by have := paraG_lt (k := k) hs hx hy; have := hs.le; omega

theorem parastrophe1_ok (N : Nat) (t : List Int) (k : Int) (x y : Nat) (ht : Bytes 100 t) (hs : SqP N t) (hk : 0 ≤ k ∧ k ≤ 5) (hx : x < N) (hy : y < N) :
    ACalls Try.prog 95 [.i .u8 x, .i .u8 y, .ref (.ptr 0 0 0 0), .ref (.ptr 0 1 0 0)] [.lv true [(0, .ints .i64 1 [k])], .lv true (sqS N t)] (fun v ms ns => v = .i .u8 (paraG N t k x y) ∧ ms = [.lv true [(0, .ints .i64 1 [k])], .lv true (sqS N t)] ∧ ns = []) := by
  have hN := hs.le
  have i1 : (x : Int) < 10 := by omega
  have i2 : (y : Int) < 10 := by omega
  have u1 : 0 + x * 10 + y * 1 < 100 := by omega
  have u2 : 0 + y * 10 + x * 1 < 100 := by omega
  have k1 := sq_colget ht x y
  have k2 := sq_colget ht y x
  refine acalls_of_body mix Try.func95 rfl fok95 (Nat.le_of_ble_eq_true rfl) ?_
  unfold abody
  rcases para_cases hk with rfl | rfl | rfl | rfl | rfl | rfl
  · simp only [absE, absL, absF, reduceCtorEq, ↓reduceIte, Nat.reduceEqDiff, Nat.reduceAdd, Nat.reduceLT, Nat.reduceMul, Nat.reduceSub, Nat.reduceLeDiff, Int.reduceLT, Int.reduceLE, Int.reduceEq, Option.isSome_some, implies_true, false_implies, Prod.mk.injEq, ne_eq, not_false_eq_true, not_true_eq_false, ge_iff_le, gt_iff_lt, Int.toNat_natCast, Int.reduceToNat, Int.cast_ofNat_Int, Int.natCast_nonneg, i1, i2, u1, u2, k1, k2, Try.f95, Try.results95]
    exact ⟨[], by simp, by simp, by simp [renV, renVs, renSegs, renSg, renBlk, paraG]⟩
  · simp only [absE, absL, absF, reduceCtorEq, ↓reduceIte, Nat.reduceEqDiff, Nat.reduceAdd, Nat.reduceLT, Nat.reduceMul, Nat.reduceSub, Nat.reduceLeDiff, Int.reduceLT, Int.reduceLE, Int.reduceEq, Option.isSome_some, implies_true, false_implies, Prod.mk.injEq, ne_eq, not_false_eq_true, not_true_eq_false, ge_iff_le, gt_iff_lt, Int.toNat_natCast, Int.reduceToNat, Int.cast_ofNat_Int, Int.natCast_nonneg, i1, i2, u1, u2, k1, k2, Try.f95, Try.results95]
    exact ⟨[], by simp, by simp, by simp [renV, renVs, renSegs, renSg, renBlk, paraG]⟩
  · simp only [absE, absL, absF, reduceCtorEq, ↓reduceIte, Nat.reduceEqDiff, Nat.reduceAdd, Nat.reduceLT, Nat.reduceMul, Nat.reduceSub, Nat.reduceLeDiff, Int.reduceLT, Int.reduceLE, Int.reduceEq, Option.isSome_some, implies_true, false_implies, Prod.mk.injEq, ne_eq, not_false_eq_true, not_true_eq_false, ge_iff_le, gt_iff_lt, Int.toNat_natCast, Int.reduceToNat, Int.cast_ofNat_Int, Int.natCast_nonneg, i1, i2, u1, u2, k1, k2, Try.f95]
    refine CallsVia.none (implLeft_ok N t x y ht hs hx hy) ?_
    rintro _ _ _ ⟨rfl, rfl, rfl⟩
    simp only [absE, absL, absF, reduceCtorEq, ↓reduceIte, Nat.reduceEqDiff, Nat.reduceAdd, Nat.reduceLT, Nat.reduceMul, Nat.reduceSub, Nat.reduceLeDiff, Int.reduceLT, Int.reduceLE, Int.reduceEq, Option.isSome_some, implies_true, false_implies, Prod.mk.injEq, ne_eq, not_false_eq_true, not_true_eq_false, ge_iff_le, gt_iff_lt, Int.toNat_natCast, Int.reduceToNat, Int.cast_ofNat_Int, Int.natCast_nonneg, Try.results95]
    exact ⟨[], by simp, by simp, by simp [renV, renVs, renSegs, renSg, renBlk, paraG]⟩
  · simp only [absE, absL, absF, reduceCtorEq, ↓reduceIte, Nat.reduceEqDiff, Nat.reduceAdd, Nat.reduceLT, Nat.reduceMul, Nat.reduceSub, Nat.reduceLeDiff, Int.reduceLT, Int.reduceLE, Int.reduceEq, Option.isSome_some, implies_true, false_implies, Prod.mk.injEq, ne_eq, not_false_eq_true, not_true_eq_false, ge_iff_le, gt_iff_lt, Int.toNat_natCast, Int.reduceToNat, Int.cast_ofNat_Int, Int.natCast_nonneg, i1, i2, u1, u2, k1, k2, Try.f95]
    refine CallsVia.none (implRight_ok N t x y ht hs hx hy) ?_
    rintro _ _ _ ⟨rfl, rfl, rfl⟩
    simp only [absE, absL, absF, reduceCtorEq, ↓reduceIte, Nat.reduceEqDiff, Nat.reduceAdd, Nat.reduceLT, Nat.reduceMul, Nat.reduceSub, Nat.reduceLeDiff, Int.reduceLT, Int.reduceLE, Int.reduceEq, Option.isSome_some, implies_true, false_implies, Prod.mk.injEq, ne_eq, not_false_eq_true, not_true_eq_false, ge_iff_le, gt_iff_lt, Int.toNat_natCast, Int.reduceToNat, Int.cast_ofNat_Int, Int.natCast_nonneg, Try.results95]
    exact ⟨[], by simp, by simp, by simp [renV, renVs, renSegs, renSg, renBlk, paraG]⟩
  · simp only [absE, absL, absF, reduceCtorEq, ↓reduceIte, Nat.reduceEqDiff, Nat.reduceAdd, Nat.reduceLT, Nat.reduceMul, Nat.reduceSub, Nat.reduceLeDiff, Int.reduceLT, Int.reduceLE, Int.reduceEq, Option.isSome_some, implies_true, false_implies, Prod.mk.injEq, ne_eq, not_false_eq_true, not_true_eq_false, ge_iff_le, gt_iff_lt, Int.toNat_natCast, Int.reduceToNat, Int.cast_ofNat_Int, Int.natCast_nonneg, i1, i2, u1, u2, k1, k2, Try.f95]
    refine CallsVia.none (implLeft_ok N t y x ht hs hy hx) ?_
    rintro _ _ _ ⟨rfl, rfl, rfl⟩
    simp only [absE, absL, absF, reduceCtorEq, ↓reduceIte, Nat.reduceEqDiff, Nat.reduceAdd, Nat.reduceLT, Nat.reduceMul, Nat.reduceSub, Nat.reduceLeDiff, Int.reduceLT, Int.reduceLE, Int.reduceEq, Option.isSome_some, implies_true, false_implies, Prod.mk.injEq, ne_eq, not_false_eq_true, not_true_eq_false, ge_iff_le, gt_iff_lt, Int.toNat_natCast, Int.reduceToNat, Int.cast_ofNat_Int, Int.natCast_nonneg, Try.results95]
    exact ⟨[], by simp, by simp, by simp [renV, renVs, renSegs, renSg, renBlk, paraG]⟩
  · simp only [absE, absL, absF, reduceCtorEq, ↓reduceIte, Nat.reduceEqDiff, Nat.reduceAdd, Nat.reduceLT, Nat.reduceMul, Nat.reduceSub, Nat.reduceLeDiff, Int.reduceLT, Int.reduceLE, Int.reduceEq, Option.isSome_some, implies_true, false_implies, Prod.mk.injEq, ne_eq, not_false_eq_true, not_true_eq_false, ge_iff_le, gt_iff_lt, Int.toNat_natCast, Int.reduceToNat, Int.cast_ofNat_Int, Int.natCast_nonneg, i1, i2, u1, u2, k1, k2, Try.f95]
    refine CallsVia.none (implRight_ok N t y x ht hs hy hx) ?_
    rintro _ _ _ ⟨rfl, rfl, rfl⟩
    simp only [absE, absL, absF, reduceCtorEq, ↓reduceIte, Nat.reduceEqDiff, Nat.reduceAdd, Nat.reduceLT, Nat.reduceMul, Nat.reduceSub, Nat.reduceLeDiff, Int.reduceLT, Int.reduceLE, Int.reduceEq, Option.isSome_some, implies_true, false_implies, Prod.mk.injEq, ne_eq, not_false_eq_true, not_true_eq_false, ge_iff_le, gt_iff_lt, Int.toNat_natCast, Int.reduceToNat, Int.cast_ofNat_Int, Int.natCast_nonneg, Try.results95]
    exact ⟨[], by simp, by simp, by simp [renV, renVs, renSegs, renSg, renBlk, paraG]⟩
theorem parastrophe_ok (N : Nat) (t : List Int) (k : Int) (ht : Bytes 100 t) (hs : SqP N t) (hk : 0 ≤ k ∧ k ≤ 5) :
    ACalls Try.prog 52 [.agg (sqS N t), .i .i64 k] [] (fun v ms ns => v = .agg (sqS N (mkT (paraG N t k) N N)) ∧ ms = [] ∧ ns = []) := by
  refine acalls_of_body mix Try.func52 rfl fok52 (Nat.le_of_ble_eq_true rfl) ?_
  unfold abody
  simp only [absE, absL, absF, reduceCtorEq, ↓reduceIte, Nat.reduceEqDiff, Nat.reduceAdd, Nat.reduceLT, Nat.reduceMul, Nat.reduceSub, Nat.reduceLeDiff, Int.reduceLT, Int.reduceLE, Int.reduceEq, Option.isSome_some, implies_true, false_implies, Prod.mk.injEq, ne_eq, not_false_eq_true, not_true_eq_false, ge_iff_le, gt_iff_lt, Int.toNat_natCast, Int.reduceToNat, Int.cast_ofNat_Int, Int.natCast_nonneg, Try.f52]
  refine CallsVia.args [(2, 0), (1, 0)] (made2_ok N hs.le 95 (paraG N t k) [(0, .ints .i64 1 [k])] (sqS N t) (fun ρ => by simp [renSegs, renSg]) (fun ρ => by simp [renSegs, renSg]) (fun x y hx hy => parastrophe1_ok N t k x y ht hs hk hx hy)) (by simp) (by simp [Mem.get, assoc]) rfl rfl ?_
  rintro _ _ _ ⟨rfl, rfl, rfl⟩
  simp only [absE, absL, absF, reduceCtorEq, ↓reduceIte, Nat.reduceEqDiff, Nat.reduceAdd, Nat.reduceLT, Nat.reduceMul, Nat.reduceSub, Nat.reduceLeDiff, Int.reduceLT, Int.reduceLE, Int.reduceEq, Option.isSome_some, implies_true, false_implies, Prod.mk.injEq, ne_eq, not_false_eq_true, not_true_eq_false, ge_iff_le, gt_iff_lt, Int.toNat_natCast, Int.reduceToNat, Int.cast_ofNat_Int, Int.natCast_nonneg, Try.results52]
  exact ⟨[], by simp, by simp, by simp [renV, renVs, renSegs, renSg]⟩

def applyN (N : Nat) (t : List Int) (op : Int) (a b : Nat) : Nat := if op = 42 then cl t a b else if op = 47 then fnd (fun i => cl t i b) a N else fnd (cl t a) b N
theorem applyN_lt {N : Nat} {t : List Int} (hs : SqP N t) {k : Int} {x y : Nat} (hx : x < N) (hy : y < N) : applyN N t k x y < N := by
  unfold applyN
  split
  · exact hs.cl_lt hx hy
  · split
    · exact PermF.fnd_lt (hs.colP hy) hs.le hx
    · exact PermF.fnd_lt (hs.rowP hx) hs.le hy
theorem l03Apply_ok (N : Nat) (t : List Int) (op : Int) (a b : Nat) (ht : Bytes 100 t) (hs : SqP N t) (ha : a < N) (hb : b < N) :
    ACalls Try.prog 92 [.agg (sqS N t), .i .u8 op, .i .u8 a, .i .u8 b] [] (fun v ms ns => v = .i .u8 (applyN N t op a b) ∧ ms = [] ∧ ns = []) := by
  have hN := hs.le
  have i1 : (a : Int) < 10 := by omega
  have i2 : (b : Int) < 10 := by omega
  have u1 : 0 + a * 10 + b * 1 < 100 := by omega
  have k1 := sq_colget ht a b
  refine acalls_of_body mix Try.func92 rfl fok92 (Nat.le_of_ble_eq_true rfl) ?_
  unfold abody
  by_cases h1 : op = 42
  · simp only [absE, absL, absF, reduceCtorEq, ↓reduceIte, Nat.reduceEqDiff, Nat.reduceAdd, Nat.reduceLT, Nat.reduceMul, Nat.reduceSub, Nat.reduceLeDiff, Int.reduceLT, Int.reduceLE, Int.reduceEq, Option.isSome_some, implies_true, false_implies, Prod.mk.injEq, ne_eq, not_false_eq_true, not_true_eq_false, ge_iff_le, gt_iff_lt, Int.toNat_natCast, Int.reduceToNat, Int.cast_ofNat_Int, Int.natCast_nonneg, h1, i1, i2, u1, k1, Try.f92, Try.results92]
    exact ⟨[], by simp, by simp, by simp [renV, renVs, renSegs, renSg, applyN, h1]⟩
  · by_cases h2 : op = 47
    · subst h2
      simp only [absE, absL, absF, reduceCtorEq, ↓reduceIte, Nat.reduceEqDiff, Nat.reduceAdd, Nat.reduceLT, Nat.reduceMul, Nat.reduceSub, Nat.reduceLeDiff, Int.reduceLT, Int.reduceLE, Int.reduceEq, Option.isSome_some, implies_true, false_implies, Prod.mk.injEq, ne_eq, not_false_eq_true, not_true_eq_false, ge_iff_le, gt_iff_lt, Int.toNat_natCast, Int.reduceToNat, Int.cast_ofNat_Int, Int.natCast_nonneg, Try.f92]
      refine CallsVia.none (specRight_ok N t a b ht hs ha hb) ?_
      rintro _ _ _ ⟨rfl, rfl, rfl⟩
      simp only [absE, absL, absF, reduceCtorEq, ↓reduceIte, Nat.reduceEqDiff, Nat.reduceAdd, Nat.reduceLT, Nat.reduceMul, Nat.reduceSub, Nat.reduceLeDiff, Int.reduceLT, Int.reduceLE, Int.reduceEq, Option.isSome_some, implies_true, false_implies, Prod.mk.injEq, ne_eq, not_false_eq_true, not_true_eq_false, ge_iff_le, gt_iff_lt, Int.toNat_natCast, Int.reduceToNat, Int.cast_ofNat_Int, Int.natCast_nonneg, Try.results92]
      exact ⟨[], by simp, by simp, by simp [renV, renVs, renSegs, renSg, applyN]⟩
    · simp only [absE, absL, absF, reduceCtorEq, ↓reduceIte, Nat.reduceEqDiff, Nat.reduceAdd, Nat.reduceLT, Nat.reduceMul, Nat.reduceSub, Nat.reduceLeDiff, Int.reduceLT, Int.reduceLE, Int.reduceEq, Option.isSome_some, implies_true, false_implies, Prod.mk.injEq, ne_eq, not_false_eq_true, not_true_eq_false, ge_iff_le, gt_iff_lt, Int.toNat_natCast, Int.reduceToNat, Int.cast_ofNat_Int, Int.natCast_nonneg, h1, h2, Try.f92]
      refine CallsVia.none (specLeft_ok N t a b ht hs ha hb) ?_
      rintro _ _ _ ⟨rfl, rfl, rfl⟩
      simp only [absE, absL, absF, reduceCtorEq, ↓reduceIte, Nat.reduceEqDiff, Nat.reduceAdd, Nat.reduceLT, Nat.reduceMul, Nat.reduceSub, Nat.reduceLeDiff, Int.reduceLT, Int.reduceLE, Int.reduceEq, Option.isSome_some, implies_true, false_implies, Prod.mk.injEq, ne_eq, not_false_eq_true, not_true_eq_false, ge_iff_le, gt_iff_lt, Int.toNat_natCast, Int.reduceToNat, Int.cast_ofNat_Int, Int.natCast_nonneg, Try.results92]
      exact ⟨[], by simp, by simp, by simp [renV, renVs, renSegs, renSg, applyN, h1, h2]⟩

theorem specPara0_ok (N : Nat) (t : List Int) (ht : Bytes 100 t) (hs : SqP N t) :
    ACalls Try.prog 49 [.agg (sqS N t), .i .i64 0] [] (fun v ms ns => v = .agg (sqS N (mkT (paraG N t 0) N N)) ∧ ms = [] ∧ ns = []) := by
  have hN := hs.le
  have hg : ∀ x y, paraG N t 0 x y = applyN N t 42 x y := fun x y => by simp [paraG, applyN]
  refine acalls_of_body mix Try.func49 rfl fok49 (Nat.le_of_ble_eq_true rfl) ?_
  unfold abody
  simp only [absE, absL, absF, reduceCtorEq, ↓reduceIte, Nat.reduceEqDiff, Nat.reduceAdd, Nat.reduceLT, Nat.reduceMul, Nat.reduceSub, Nat.reduceLeDiff, Int.reduceLT, Int.reduceLE, Int.reduceEq, Option.isSome_some, implies_true, false_implies, Prod.mk.injEq, ne_eq, not_false_eq_true, not_true_eq_false, ge_iff_le, gt_iff_lt, Int.toNat_natCast, Int.reduceToNat, Int.cast_ofNat_Int, Int.natCast_nonneg, Try.f49]
  refine awpLoop.intro (fun x : Nat => [(1, .i .i64 0), (2, .ref (.ptr 1 0 0 0)), (4, .ref (.ptr 2 0 0 0)), (5, .ref (.sl 3 0 0 0 6 1)), (6, .b false), (7, .ref (.ptr 15 0 0 0)), (8, .i .u8 x)]) (fun x => ⟨[], [((1, 0), .lv true (sqS N t)), ((2, 0), .lv true (sqS 0 (List.replicate 100 0))), ((3, 0), .lv true ([(0, .ints .u8 6 [42, 42, 92, 47, 92, 47])])), ((15, 0), .lv true (sqS N (mkT (paraG N t 0) N x)))], 18⟩)
    (fun x => x ≤ N) (fun x => N - x) 0 (by omega) ⟨[((1,0),(1,0)), ((2,0),(2,0)), ((3,0),(3,0)), ((15,0),(15,0))], rfl, ?_, ?_⟩ ?_
  · simp [wkEnv, lk, renV, renAt, renTo, mkT]
  · simp [wkMem, wkLoc, Mem.get, assoc, renBlk, renSegs, renSg, renTo, mkT]
  · intro x hx
    have wx := wrap_i64n (show x < 2 ^ 62 by omega)
    by_cases h : (x : Int) < N
    · have w := wrap_u8s (show x < 255 by omega)
      simp only [absE, absL, absF, reduceCtorEq, ↓reduceIte, Nat.reduceEqDiff, Nat.reduceAdd, Nat.reduceLT, Nat.reduceMul, Nat.reduceSub, Nat.reduceLeDiff, Int.reduceLT, Int.reduceLE, Int.reduceEq, Option.isSome_some, implies_true, false_implies, Prod.mk.injEq, ne_eq, not_false_eq_true, not_true_eq_false, ge_iff_le, gt_iff_lt, Int.toNat_natCast, Int.reduceToNat, Int.cast_ofNat_Int, Int.natCast_nonneg, wx, h]
      refine awpLoop.intro (fun y : Nat => [(1, .i .i64 0), (2, .ref (.ptr 1 0 0 0)), (4, .ref (.ptr 2 0 0 0)), (5, .ref (.sl 3 0 0 0 6 1)), (6, .b false), (7, .ref (.ptr 15 0 0 0)), (8, .i .u8 x), (9, .i .u8 y)]) (fun y => ⟨[], [((1, 0), .lv true (sqS N t)), ((2, 0), .lv true (sqS 0 (List.replicate 100 0))), ((3, 0), .lv true ([(0, .ints .u8 6 [42, 42, 92, 47, 92, 47])])), ((15, 0), .lv true (sqS N (mkIn (paraG N t 0) x (mkT (paraG N t 0) N x) y)))], 24⟩)
        (fun y => y ≤ N) (fun y => N - y) 0 (by omega) ⟨[((1,0),(1,0)), ((2,0),(2,0)), ((3,0),(3,0)), ((15,0),(15,0))], rfl, ?_, ?_⟩ ?_
      · simp [wkEnv, lk, renV, renAt, renTo, mkIn]
      · simp [wkMem, wkLoc, Mem.get, assoc, renBlk, renSegs, renSg, renTo, mkIn]
      · intro y hy
        have wy := wrap_i64n (show y < 2 ^ 62 by omega)
        by_cases h' : (y : Int) < N
        · have w' := wrap_u8s (show y < 255 by omega)
          have l3 : (x : Int) < 10 := by omega
          have l4 : (y : Int) < 10 := by omega
          have u4 : 0 + x * 10 + y * 1 + 1 ≤ 100 := by omega
          simp only [absE, absL, absF, reduceCtorEq, ↓reduceIte, Nat.reduceEqDiff, Nat.reduceAdd, Nat.reduceLT, Nat.reduceMul, Nat.reduceSub, Nat.reduceLeDiff, Int.reduceLT, Int.reduceLE, Int.reduceEq, Option.isSome_some, implies_true, false_implies, Prod.mk.injEq, ne_eq, not_false_eq_true, not_true_eq_false, ge_iff_le, gt_iff_lt, Int.toNat_natCast, Int.reduceToNat, Int.cast_ofNat_Int, Int.natCast_nonneg, wy, h']
          refine CallsX.none (l03Apply_ok N t 42 x y ht hs (by omega) (by omega)) ?_
          simp only [absE, absL, absF, reduceCtorEq, ↓reduceIte, Nat.reduceEqDiff, Nat.reduceAdd, Nat.reduceLT, Nat.reduceMul, Nat.reduceSub, Nat.reduceLeDiff, Int.reduceLT, Int.reduceLE, Int.reduceEq, Option.isSome_some, implies_true, false_implies, Prod.mk.injEq, ne_eq, not_false_eq_true, not_true_eq_false, ge_iff_le, gt_iff_lt, Int.toNat_natCast, Int.reduceToNat, Int.cast_ofNat_Int, Int.natCast_nonneg, l3, l4, u4, w']
          repeat refine ⟨by decide +kernel, ?_⟩
          refine LoopNext.intro (y + 1) (by omega) (by omega) ⟨[((1,0),(1,0)), ((2,0),(2,0)), ((3,0),(3,0)), ((15,0),(15,0))], rfl, ?_, ?_⟩
          · simp [wkEnv, lk, renV, renAt, renTo, mkIn, hg]
          · simp [wkMem, wkLoc, Mem.get, assoc, renBlk, renSegs, renSg, renTo, mkIn, hg]
        · have hyN : y = N := by omega
          subst hyN
          simp only [absE, absL, absF, reduceCtorEq, ↓reduceIte, Nat.reduceEqDiff, Nat.reduceAdd, Nat.reduceLT, Nat.reduceMul, Nat.reduceSub, Nat.reduceLeDiff, Int.reduceLT, Int.reduceLE, Int.reduceEq, Option.isSome_some, implies_true, false_implies, Prod.mk.injEq, ne_eq, not_false_eq_true, not_true_eq_false, ge_iff_le, gt_iff_lt, Int.toNat_natCast, Int.reduceToNat, Int.cast_ofNat_Int, Int.natCast_nonneg, wy, h', w]
          refine LoopNext.intro (x + 1) (by omega) (by omega) ⟨[((1,0),(1,0)), ((2,0),(2,0)), ((3,0),(3,0)), ((15,0),(15,0))], rfl, ?_, ?_⟩
          · simp [wkEnv, lk, renV, renAt, renTo, mkT]
          · simp [wkMem, wkLoc, Mem.get, assoc, renBlk, renSegs, renSg, renTo, mkT]
    · have hxN : x = N := by omega
      subst hxN
      simp only [absE, absL, absF, reduceCtorEq, ↓reduceIte, Nat.reduceEqDiff, Nat.reduceAdd, Nat.reduceLT, Nat.reduceMul, Nat.reduceSub, Nat.reduceLeDiff, Int.reduceLT, Int.reduceLE, Int.reduceEq, Option.isSome_some, implies_true, false_implies, Prod.mk.injEq, ne_eq, not_false_eq_true, not_true_eq_false, ge_iff_le, gt_iff_lt, Int.toNat_natCast, Int.reduceToNat, Int.cast_ofNat_Int, Int.natCast_nonneg, wx, h, Try.results49]
      exact ⟨[], by simp, by simp, by simp [renV, renVs, renSegs, renSg]⟩
theorem specPara1_ok (N : Nat) (t : List Int) (ht : Bytes 100 t) (hs : SqP N t) :
    ACalls Try.prog 49 [.agg (sqS N t), .i .i64 1] [] (fun v ms ns => v = .agg (sqS N (mkT (paraG N t 1) N N)) ∧ ms = [] ∧ ns = []) := by
  have hN := hs.le
  have hg : ∀ x y, paraG N t 1 x y = applyN N t 42 y x := fun x y => by simp [paraG, applyN]
  refine acalls_of_body mix Try.func49 rfl fok49 (Nat.le_of_ble_eq_true rfl) ?_
  unfold abody
  simp only [absE, absL, absF, reduceCtorEq, ↓reduceIte, Nat.reduceEqDiff, Nat.reduceAdd, Nat.reduceLT, Nat.reduceMul, Nat.reduceSub, Nat.reduceLeDiff, Int.reduceLT, Int.reduceLE, Int.reduceEq, Option.isSome_some, implies_true, false_implies, Prod.mk.injEq, ne_eq, not_false_eq_true, not_true_eq_false, ge_iff_le, gt_iff_lt, Int.toNat_natCast, Int.reduceToNat, Int.cast_ofNat_Int, Int.natCast_nonneg, Try.f49]
  refine awpLoop.intro (fun x : Nat => [(1, .i .i64 1), (2, .ref (.ptr 1 0 0 0)), (4, .ref (.ptr 2 0 0 0)), (5, .ref (.sl 3 0 0 0 6 1)), (6, .b true), (7, .ref (.ptr 15 0 0 0)), (8, .i .u8 x)]) (fun x => ⟨[], [((1, 0), .lv true (sqS N t)), ((2, 0), .lv true (sqS 0 (List.replicate 100 0))), ((3, 0), .lv true ([(0, .ints .u8 6 [42, 42, 92, 47, 92, 47])])), ((15, 0), .lv true (sqS N (mkT (paraG N t 1) N x)))], 18⟩)
    (fun x => x ≤ N) (fun x => N - x) 0 (by omega) ⟨[((1,0),(1,0)), ((2,0),(2,0)), ((3,0),(3,0)), ((15,0),(15,0))], rfl, ?_, ?_⟩ ?_
  · simp [wkEnv, lk, renV, renAt, renTo, mkT]
  · simp [wkMem, wkLoc, Mem.get, assoc, renBlk, renSegs, renSg, renTo, mkT]
  · intro x hx
    have wx := wrap_i64n (show x < 2 ^ 62 by omega)
    by_cases h : (x : Int) < N
    · have w := wrap_u8s (show x < 255 by omega)
      simp only [absE, absL, absF, reduceCtorEq, ↓reduceIte, Nat.reduceEqDiff, Nat.reduceAdd, Nat.reduceLT, Nat.reduceMul, Nat.reduceSub, Nat.reduceLeDiff, Int.reduceLT, Int.reduceLE, Int.reduceEq, Option.isSome_some, implies_true, false_implies, Prod.mk.injEq, ne_eq, not_false_eq_true, not_true_eq_false, ge_iff_le, gt_iff_lt, Int.toNat_natCast, Int.reduceToNat, Int.cast_ofNat_Int, Int.natCast_nonneg, wx, h]
      refine awpLoop.intro (fun y : Nat => [(1, .i .i64 1), (2, .ref (.ptr 1 0 0 0)), (4, .ref (.ptr 2 0 0 0)), (5, .ref (.sl 3 0 0 0 6 1)), (6, .b true), (7, .ref (.ptr 15 0 0 0)), (8, .i .u8 x), (9, .i .u8 y)]) (fun y => ⟨[], [((1, 0), .lv true (sqS N t)), ((2, 0), .lv true (sqS 0 (List.replicate 100 0))), ((3, 0), .lv true ([(0, .ints .u8 6 [42, 42, 92, 47, 92, 47])])), ((15, 0), .lv true (sqS N (mkIn (paraG N t 1) x (mkT (paraG N t 1) N x) y)))], 24⟩)
        (fun y => y ≤ N) (fun y => N - y) 0 (by omega) ⟨[((1,0),(1,0)), ((2,0),(2,0)), ((3,0),(3,0)), ((15,0),(15,0))], rfl, ?_, ?_⟩ ?_
      · simp [wkEnv, lk, renV, renAt, renTo, mkIn]
      · simp [wkMem, wkLoc, Mem.get, assoc, renBlk, renSegs, renSg, renTo, mkIn]
      · intro y hy
        have wy := wrap_i64n (show y < 2 ^ 62 by omega)
        by_cases h' : (y : Int) < N
        · have w' := wrap_u8s (show y < 255 by omega)
          have l3 : (x : Int) < 10 := by omega
          have l4 : (y : Int) < 10 := by omega
          have u4 : 0 + x * 10 + y * 1 + 1 ≤ 100 := by omega
          simp only [absE, absL, absF, reduceCtorEq, ↓reduceIte, Nat.reduceEqDiff, Nat.reduceAdd, Nat.reduceLT, Nat.reduceMul, Nat.reduceSub, Nat.reduceLeDiff, Int.reduceLT, Int.reduceLE, Int.reduceEq, Option.isSome_some, implies_true, false_implies, Prod.mk.injEq, ne_eq, not_false_eq_true, not_true_eq_false, ge_iff_le, gt_iff_lt, Int.toNat_natCast, Int.reduceToNat, Int.cast_ofNat_Int, Int.natCast_nonneg, wy, h']
          refine CallsX.none (l03Apply_ok N t 42 y x ht hs (by omega) (by omega)) ?_
          simp only [absE, absL, absF, reduceCtorEq, ↓reduceIte, Nat.reduceEqDiff, Nat.reduceAdd, Nat.reduceLT, Nat.reduceMul, Nat.reduceSub, Nat.reduceLeDiff, Int.reduceLT, Int.reduceLE, Int.reduceEq, Option.isSome_some, implies_true, false_implies, Prod.mk.injEq, ne_eq, not_false_eq_true, not_true_eq_false, ge_iff_le, gt_iff_lt, Int.toNat_natCast, Int.reduceToNat, Int.cast_ofNat_Int, Int.natCast_nonneg, l3, l4, u4, w']
          repeat refine ⟨by decide +kernel, ?_⟩
          refine LoopNext.intro (y + 1) (by omega) (by omega) ⟨[((1,0),(1,0)), ((2,0),(2,0)), ((3,0),(3,0)), ((15,0),(15,0))], rfl, ?_, ?_⟩
          · simp [wkEnv, lk, renV, renAt, renTo, mkIn, hg]
          · simp [wkMem, wkLoc, Mem.get, assoc, renBlk, renSegs, renSg, renTo, mkIn, hg]
        · have hyN : y = N := by omega
          subst hyN
          simp only [absE, absL, absF, reduceCtorEq, ↓reduceIte, Nat.reduceEqDiff, Nat.reduceAdd, Nat.reduceLT, Nat.reduceMul, Nat.reduceSub, Nat.reduceLeDiff, Int.reduceLT, Int.reduceLE, Int.reduceEq, Option.isSome_some, implies_true, false_implies, Prod.mk.injEq, ne_eq, not_false_eq_true, not_true_eq_false, ge_iff_le, gt_iff_lt, Int.toNat_natCast, Int.reduceToNat, Int.cast_ofNat_Int, Int.natCast_nonneg, wy, h', w]
          refine LoopNext.intro (x + 1) (by omega) (by omega) ⟨[((1,0),(1,0)), ((2,0),(2,0)), ((3,0),(3,0)), ((15,0),(15,0))], rfl, ?_, ?_⟩
          · simp [wkEnv, lk, renV, renAt, renTo, mkT]
          · simp [wkMem, wkLoc, Mem.get, assoc, renBlk, renSegs, renSg, renTo, mkT]
    · have hxN : x = N := by omega
      subst hxN
      simp only [absE, absL, absF, reduceCtorEq, ↓reduceIte, Nat.reduceEqDiff, Nat.reduceAdd, Nat.reduceLT, Nat.reduceMul, Nat.reduceSub, Nat.reduceLeDiff, Int.reduceLT, Int.reduceLE, Int.reduceEq, Option.isSome_some, implies_true, false_implies, Prod.mk.injEq, ne_eq, not_false_eq_true, not_true_eq_false, ge_iff_le, gt_iff_lt, Int.toNat_natCast, Int.reduceToNat, Int.cast_ofNat_Int, Int.natCast_nonneg, wx, h, Try.results49]
      exact ⟨[], by simp, by simp, by simp [renV, renVs, renSegs, renSg]⟩
theorem specPara2_ok (N : Nat) (t : List Int) (ht : Bytes 100 t) (hs : SqP N t) :
    ACalls Try.prog 49 [.agg (sqS N t), .i .i64 2] [] (fun v ms ns => v = .agg (sqS N (mkT (paraG N t 2) N N)) ∧ ms = [] ∧ ns = []) := by
  have hN := hs.le
  have hg : ∀ x y, paraG N t 2 x y = applyN N t 92 x y := fun x y => by simp [paraG, applyN]
  refine acalls_of_body mix Try.func49 rfl fok49 (Nat.le_of_ble_eq_true rfl) ?_
  unfold abody
  simp only [absE, absL, absF, reduceCtorEq, ↓reduceIte, Nat.reduceEqDiff, Nat.reduceAdd, Nat.reduceLT, Nat.reduceMul, Nat.reduceSub, Nat.reduceLeDiff, Int.reduceLT, Int.reduceLE, Int.reduceEq, Option.isSome_some, implies_true, false_implies, Prod.mk.injEq, ne_eq, not_false_eq_true, not_true_eq_false, ge_iff_le, gt_iff_lt, Int.toNat_natCast, Int.reduceToNat, Int.cast_ofNat_Int, Int.natCast_nonneg, Try.f49]
  refine awpLoop.intro (fun x : Nat => [(1, .i .i64 2), (2, .ref (.ptr 1 0 0 0)), (4, .ref (.ptr 2 0 0 0)), (5, .ref (.sl 3 0 0 0 6 1)), (6, .b false), (7, .ref (.ptr 15 0 0 0)), (8, .i .u8 x)]) (fun x => ⟨[], [((1, 0), .lv true (sqS N t)), ((2, 0), .lv true (sqS 0 (List.replicate 100 0))), ((3, 0), .lv true ([(0, .ints .u8 6 [42, 42, 92, 47, 92, 47])])), ((15, 0), .lv true (sqS N (mkT (paraG N t 2) N x)))], 18⟩)
    (fun x => x ≤ N) (fun x => N - x) 0 (by omega) ⟨[((1,0),(1,0)), ((2,0),(2,0)), ((3,0),(3,0)), ((15,0),(15,0))], rfl, ?_, ?_⟩ ?_
  · simp [wkEnv, lk, renV, renAt, renTo, mkT]
  · simp [wkMem, wkLoc, Mem.get, assoc, renBlk, renSegs, renSg, renTo, mkT]
  · intro x hx
    have wx := wrap_i64n (show x < 2 ^ 62 by omega)
    by_cases h : (x : Int) < N
    · have w := wrap_u8s (show x < 255 by omega)
      simp only [absE, absL, absF, reduceCtorEq, ↓reduceIte, Nat.reduceEqDiff, Nat.reduceAdd, Nat.reduceLT, Nat.reduceMul, Nat.reduceSub, Nat.reduceLeDiff, Int.reduceLT, Int.reduceLE, Int.reduceEq, Option.isSome_some, implies_true, false_implies, Prod.mk.injEq, ne_eq, not_false_eq_true, not_true_eq_false, ge_iff_le, gt_iff_lt, Int.toNat_natCast, Int.reduceToNat, Int.cast_ofNat_Int, Int.natCast_nonneg, wx, h]
      refine awpLoop.intro (fun y : Nat => [(1, .i .i64 2), (2, .ref (.ptr 1 0 0 0)), (4, .ref (.ptr 2 0 0 0)), (5, .ref (.sl 3 0 0 0 6 1)), (6, .b false), (7, .ref (.ptr 15 0 0 0)), (8, .i .u8 x), (9, .i .u8 y)]) (fun y => ⟨[], [((1, 0), .lv true (sqS N t)), ((2, 0), .lv true (sqS 0 (List.replicate 100 0))), ((3, 0), .lv true ([(0, .ints .u8 6 [42, 42, 92, 47, 92, 47])])), ((15, 0), .lv true (sqS N (mkIn (paraG N t 2) x (mkT (paraG N t 2) N x) y)))], 24⟩)
        (fun y => y ≤ N) (fun y => N - y) 0 (by omega) ⟨[((1,0),(1,0)), ((2,0),(2,0)), ((3,0),(3,0)), ((15,0),(15,0))], rfl, ?_, ?_⟩ ?_
      · simp [wkEnv, lk, renV, renAt, renTo, mkIn]
      · simp [wkMem, wkLoc, Mem.get, assoc, renBlk, renSegs, renSg, renTo, mkIn]
      · intro y hy
        have wy := wrap_i64n (show y < 2 ^ 62 by omega)
        by_cases h' : (y : Int) < N
        · have w' := wrap_u8s (show y < 255 by omega)
          have l3 : (x : Int) < 10 := by omega
          have l4 : (y : Int) < 10 := by omega
          have u4 : 0 + x * 10 + y * 1 + 1 ≤ 100 := by omega
          simp only [absE, absL, absF, reduceCtorEq, ↓reduceIte, Nat.reduceEqDiff, Nat.reduceAdd, Nat.reduceLT, Nat.reduceMul, Nat.reduceSub, Nat.reduceLeDiff, Int.reduceLT, Int.reduceLE, Int.reduceEq, Option.isSome_some, implies_true, false_implies, Prod.mk.injEq, ne_eq, not_false_eq_true, not_true_eq_false, ge_iff_le, gt_iff_lt, Int.toNat_natCast, Int.reduceToNat, Int.cast_ofNat_Int, Int.natCast_nonneg, wy, h']
          refine CallsX.none (l03Apply_ok N t 92 x y ht hs (by omega) (by omega)) ?_
          simp only [absE, absL, absF, reduceCtorEq, ↓reduceIte, Nat.reduceEqDiff, Nat.reduceAdd, Nat.reduceLT, Nat.reduceMul, Nat.reduceSub, Nat.reduceLeDiff, Int.reduceLT, Int.reduceLE, Int.reduceEq, Option.isSome_some, implies_true, false_implies, Prod.mk.injEq, ne_eq, not_false_eq_true, not_true_eq_false, ge_iff_le, gt_iff_lt, Int.toNat_natCast, Int.reduceToNat, Int.cast_ofNat_Int, Int.natCast_nonneg, l3, l4, u4, w']
          repeat refine ⟨by decide +kernel, ?_⟩
          refine LoopNext.intro (y + 1) (by omega) (by omega) ⟨[((1,0),(1,0)), ((2,0),(2,0)), ((3,0),(3,0)), ((15,0),(15,0))], rfl, ?_, ?_⟩
          · simp [wkEnv, lk, renV, renAt, renTo, mkIn, hg]
          · simp [wkMem, wkLoc, Mem.get, assoc, renBlk, renSegs, renSg, renTo, mkIn, hg]
        · have hyN : y = N := by omega
          subst hyN
          simp only [absE, absL, absF, reduceCtorEq, ↓reduceIte, Nat.reduceEqDiff, Nat.reduceAdd, Nat.reduceLT, Nat.reduceMul, Nat.reduceSub, Nat.reduceLeDiff, Int.reduceLT, Int.reduceLE, Int.reduceEq, Option.isSome_some, implies_true, false_implies, Prod.mk.injEq, ne_eq, not_false_eq_true, not_true_eq_false, ge_iff_le, gt_iff_lt, Int.toNat_natCast, Int.reduceToNat, Int.cast_ofNat_Int, Int.natCast_nonneg, wy, h', w]
          refine LoopNext.intro (x + 1) (by omega) (by omega) ⟨[((1,0),(1,0)), ((2,0),(2,0)), ((3,0),(3,0)), ((15,0),(15,0))], rfl, ?_, ?_⟩
          · simp [wkEnv, lk, renV, renAt, renTo, mkT]
          · simp [wkMem, wkLoc, Mem.get, assoc, renBlk, renSegs, renSg, renTo, mkT]
    · have hxN : x = N := by omega
      subst hxN
      simp only [absE, absL, absF, reduceCtorEq, ↓reduceIte, Nat.reduceEqDiff, Nat.reduceAdd, Nat.reduceLT, Nat.reduceMul, Nat.reduceSub, Nat.reduceLeDiff, Int.reduceLT, Int.reduceLE, Int.reduceEq, Option.isSome_some, implies_true, false_implies, Prod.mk.injEq, ne_eq, not_false_eq_true, not_true_eq_false, ge_iff_le, gt_iff_lt, Int.toNat_natCast, Int.reduceToNat, Int.cast_ofNat_Int, Int.natCast_nonneg, wx, h, Try.results49]
      exact ⟨[], by simp, by simp, by simp [renV, renVs, renSegs, renSg]⟩
theorem specPara3_ok (N : Nat) (t : List Int) (ht : Bytes 100 t) (hs : SqP N t) :
    ACalls Try.prog 49 [.agg (sqS N t), .i .i64 3] [] (fun v ms ns => v = .agg (sqS N (mkT (paraG N t 3) N N)) ∧ ms = [] ∧ ns = []) := by
  have hN := hs.le
  have hg : ∀ x y, paraG N t 3 x y = applyN N t 47 x y := fun x y => by simp [paraG, applyN]
  refine acalls_of_body mix Try.func49 rfl fok49 (Nat.le_of_ble_eq_true rfl) ?_
  unfold abody
  simp only [absE, absL, absF, reduceCtorEq, ↓reduceIte, Nat.reduceEqDiff, Nat.reduceAdd, Nat.reduceLT, Nat.reduceMul, Nat.reduceSub, Nat.reduceLeDiff, Int.reduceLT, Int.reduceLE, Int.reduceEq, Option.isSome_some, implies_true, false_implies, Prod.mk.injEq, ne_eq, not_false_eq_true, not_true_eq_false, ge_iff_le, gt_iff_lt, Int.toNat_natCast, Int.reduceToNat, Int.cast_ofNat_Int, Int.natCast_nonneg, Try.f49]
  refine awpLoop.intro (fun x : Nat => [(1, .i .i64 3), (2, .ref (.ptr 1 0 0 0)), (4, .ref (.ptr 2 0 0 0)), (5, .ref (.sl 3 0 0 0 6 1)), (6, .b false), (7, .ref (.ptr 15 0 0 0)), (8, .i .u8 x)]) (fun x => ⟨[], [((1, 0), .lv true (sqS N t)), ((2, 0), .lv true (sqS 0 (List.replicate 100 0))), ((3, 0), .lv true ([(0, .ints .u8 6 [42, 42, 92, 47, 92, 47])])), ((15, 0), .lv true (sqS N (mkT (paraG N t 3) N x)))], 18⟩)
    (fun x => x ≤ N) (fun x => N - x) 0 (by omega) ⟨[((1,0),(1,0)), ((2,0),(2,0)), ((3,0),(3,0)), ((15,0),(15,0))], rfl, ?_, ?_⟩ ?_
  · simp [wkEnv, lk, renV, renAt, renTo, mkT]
  · simp [wkMem, wkLoc, Mem.get, assoc, renBlk, renSegs, renSg, renTo, mkT]
  · intro x hx
    have wx := wrap_i64n (show x < 2 ^ 62 by omega)
    by_cases h : (x : Int) < N
    · have w := wrap_u8s (show x < 255 by omega)
      simp only [absE, absL, absF, reduceCtorEq, ↓reduceIte, Nat.reduceEqDiff, Nat.reduceAdd, Nat.reduceLT, Nat.reduceMul, Nat.reduceSub, Nat.reduceLeDiff, Int.reduceLT, Int.reduceLE, Int.reduceEq, Option.isSome_some, implies_true, false_implies, Prod.mk.injEq, ne_eq, not_false_eq_true, not_true_eq_false, ge_iff_le, gt_iff_lt, Int.toNat_natCast, Int.reduceToNat, Int.cast_ofNat_Int, Int.natCast_nonneg, wx, h]
      refine awpLoop.intro (fun y : Nat => [(1, .i .i64 3), (2, .ref (.ptr 1 0 0 0)), (4, .ref (.ptr 2 0 0 0)), (5, .ref (.sl 3 0 0 0 6 1)), (6, .b false), (7, .ref (.ptr 15 0 0 0)), (8, .i .u8 x), (9, .i .u8 y)]) (fun y => ⟨[], [((1, 0), .lv true (sqS N t)), ((2, 0), .lv true (sqS 0 (List.replicate 100 0))), ((3, 0), .lv true ([(0, .ints .u8 6 [42, 42, 92, 47, 92, 47])])), ((15, 0), .lv true (sqS N (mkIn (paraG N t 3) x (mkT (paraG N t 3) N x) y)))], 24⟩)
        (fun y => y ≤ N) (fun y => N - y) 0 (by omega) ⟨[((1,0),(1,0)), ((2,0),(2,0)), ((3,0),(3,0)), ((15,0),(15,0))], rfl, ?_, ?_⟩ ?_
      · simp [wkEnv, lk, renV, renAt, renTo, mkIn]
      · simp [wkMem, wkLoc, Mem.get, assoc, renBlk, renSegs, renSg, renTo, mkIn]
      · intro y hy
        have wy := wrap_i64n (show y < 2 ^ 62 by omega)
        by_cases h' : (y : Int) < N
        · have w' := wrap_u8s (show y < 255 by omega)
          have l3 : (x : Int) < 10 := by omega
          have l4 : (y : Int) < 10 := by omega
          have u4 : 0 + x * 10 + y * 1 + 1 ≤ 100 := by omega
          simp only [absE, absL, absF, reduceCtorEq, ↓reduceIte, Nat.reduceEqDiff, Nat.reduceAdd, Nat.reduceLT, Nat.reduceMul, Nat.reduceSub, Nat.reduceLeDiff, Int.reduceLT, Int.reduceLE, Int.reduceEq, Option.isSome_some, implies_true, false_implies, Prod.mk.injEq, ne_eq, not_false_eq_true, not_true_eq_false, ge_iff_le, gt_iff_lt, Int.toNat_natCast, Int.reduceToNat, Int.cast_ofNat_Int, Int.natCast_nonneg, wy, h']
          refine CallsX.none (l03Apply_ok N t 47 x y ht hs (by omega) (by omega)) ?_
          simp only [absE, absL, absF, reduceCtorEq, ↓reduceIte, Nat.reduceEqDiff, Nat.reduceAdd, Nat.reduceLT, Nat.reduceMul, Nat.reduceSub, Nat.reduceLeDiff, Int.reduceLT, Int.reduceLE, Int.reduceEq, Option.isSome_some, implies_true, false_implies, Prod.mk.injEq, ne_eq, not_false_eq_true, not_true_eq_false, ge_iff_le, gt_iff_lt, Int.toNat_natCast, Int.reduceToNat, Int.cast_ofNat_Int, Int.natCast_nonneg, l3, l4, u4, w']
          repeat refine ⟨by decide +kernel, ?_⟩
          refine LoopNext.intro (y + 1) (by omega) (by omega) ⟨[((1,0),(1,0)), ((2,0),(2,0)), ((3,0),(3,0)), ((15,0),(15,0))], rfl, ?_, ?_⟩
          · simp [wkEnv, lk, renV, renAt, renTo, mkIn, hg]
          · simp [wkMem, wkLoc, Mem.get, assoc, renBlk, renSegs, renSg, renTo, mkIn, hg]
        · have hyN : y = N := by omega
          subst hyN
          simp only [absE, absL, absF, reduceCtorEq, ↓reduceIte, Nat.reduceEqDiff, Nat.reduceAdd, Nat.reduceLT, Nat.reduceMul, Nat.reduceSub, Nat.reduceLeDiff, Int.reduceLT, Int.reduceLE, Int.reduceEq, Option.isSome_some, implies_true, false_implies, Prod.mk.injEq, ne_eq, not_false_eq_true, not_true_eq_false, ge_iff_le, gt_iff_lt, Int.toNat_natCast, Int.reduceToNat, Int.cast_ofNat_Int, Int.natCast_nonneg, wy, h', w]
          refine LoopNext.intro (x + 1) (by omega) (by omega) ⟨[((1,0),(1,0)), ((2,0),(2,0)), ((3,0),(3,0)), ((15,0),(15,0))], rfl, ?_, ?_⟩
          · simp [wkEnv, lk, renV, renAt, renTo, mkT]
          · simp [wkMem, wkLoc, Mem.get, assoc, renBlk, renSegs, renSg, renTo, mkT]
    · have hxN : x = N := by omega
      subst hxN
      simp only [absE, absL, absF, reduceCtorEq, ↓reduceIte, Nat.reduceEqDiff, Nat.reduceAdd, Nat.reduceLT, Nat.reduceMul, Nat.reduceSub, Nat.reduceLeDiff, Int.reduceLT, Int.reduceLE, Int.reduceEq, Option.isSome_some, implies_true, false_implies, Prod.mk.injEq, ne_eq, not_false_eq_true, not_true_eq_false, ge_iff_le, gt_iff_lt, Int.toNat_natCast, Int.reduceToNat, Int.cast_ofNat_Int, Int.natCast_nonneg, wx, h, Try.results49]
      exact ⟨[], by simp, by simp, by simp [renV, renVs, renSegs, renSg]⟩
theorem specPara4_ok (N : Nat) (t : List Int) (ht : Bytes 100 t) (hs : SqP N t) :
    ACalls Try.prog 49 [.agg (sqS N t), .i .i64 4] [] (fun v ms ns => v = .agg (sqS N (mkT (paraG N t 4) N N)) ∧ ms = [] ∧ ns = []) := by
  have hN := hs.le
  have hg : ∀ x y, paraG N t 4 x y = applyN N t 92 y x := fun x y => by simp [paraG, applyN]
  refine acalls_of_body mix Try.func49 rfl fok49 (Nat.le_of_ble_eq_true rfl) ?_
  unfold abody
  simp only [absE, absL, absF, reduceCtorEq, ↓reduceIte, Nat.reduceEqDiff, Nat.reduceAdd, Nat.reduceLT, Nat.reduceMul, Nat.reduceSub, Nat.reduceLeDiff, Int.reduceLT, Int.reduceLE, Int.reduceEq, Option.isSome_some, implies_true, false_implies, Prod.mk.injEq, ne_eq, not_false_eq_true, not_true_eq_false, ge_iff_le, gt_iff_lt, Int.toNat_natCast, Int.reduceToNat, Int.cast_ofNat_Int, Int.natCast_nonneg, Try.f49]
  refine awpLoop.intro (fun x : Nat => [(1, .i .i64 4), (2, .ref (.ptr 1 0 0 0)), (4, .ref (.ptr 2 0 0 0)), (5, .ref (.sl 3 0 0 0 6 1)), (6, .b true), (7, .ref (.ptr 15 0 0 0)), (8, .i .u8 x)]) (fun x => ⟨[], [((1, 0), .lv true (sqS N t)), ((2, 0), .lv true (sqS 0 (List.replicate 100 0))), ((3, 0), .lv true ([(0, .ints .u8 6 [42, 42, 92, 47, 92, 47])])), ((15, 0), .lv true (sqS N (mkT (paraG N t 4) N x)))], 18⟩)
    (fun x => x ≤ N) (fun x => N - x) 0 (by omega) ⟨[((1,0),(1,0)), ((2,0),(2,0)), ((3,0),(3,0)), ((15,0),(15,0))], rfl, ?_, ?_⟩ ?_
  · simp [wkEnv, lk, renV, renAt, renTo, mkT]
  · simp [wkMem, wkLoc, Mem.get, assoc, renBlk, renSegs, renSg, renTo, mkT]
  · intro x hx
    have wx := wrap_i64n (show x < 2 ^ 62 by omega)
    by_cases h : (x : Int) < N
    · have w := wrap_u8s (show x < 255 by omega)
      simp only [absE, absL, absF, reduceCtorEq, ↓reduceIte, Nat.reduceEqDiff, Nat.reduceAdd, Nat.reduceLT, Nat.reduceMul, Nat.reduceSub, Nat.reduceLeDiff, Int.reduceLT, Int.reduceLE, Int.reduceEq, Option.isSome_some, implies_true, false_implies, Prod.mk.injEq, ne_eq, not_false_eq_true, not_true_eq_false, ge_iff_le, gt_iff_lt, Int.toNat_natCast, Int.reduceToNat, Int.cast_ofNat_Int, Int.natCast_nonneg, wx, h]
      refine awpLoop.intro (fun y : Nat => [(1, .i .i64 4), (2, .ref (.ptr 1 0 0 0)), (4, .ref (.ptr 2 0 0 0)), (5, .ref (.sl 3 0 0 0 6 1)), (6, .b true), (7, .ref (.ptr 15 0 0 0)), (8, .i .u8 x), (9, .i .u8 y)]) (fun y => ⟨[], [((1, 0), .lv true (sqS N t)), ((2, 0), .lv true (sqS 0 (List.replicate 100 0))), ((3, 0), .lv true ([(0, .ints .u8 6 [42, 42, 92, 47, 92, 47])])), ((15, 0), .lv true (sqS N (mkIn (paraG N t 4) x (mkT (paraG N t 4) N x) y)))], 24⟩)
        (fun y => y ≤ N) (fun y => N - y) 0 (by omega) ⟨[((1,0),(1,0)), ((2,0),(2,0)), ((3,0),(3,0)), ((15,0),(15,0))], rfl, ?_, ?_⟩ ?_
      · simp [wkEnv, lk, renV, renAt, renTo, mkIn]
      · simp [wkMem, wkLoc, Mem.get, assoc, renBlk, renSegs, renSg, renTo, mkIn]
      · intro y hy
        have wy := wrap_i64n (show y < 2 ^ 62 by omega)
        by_cases h' : (y : Int) < N
        · have w' := wrap_u8s (show y < 255 by omega)
          have l3 : (x : Int) < 10 := by omega
          have l4 : (y : Int) < 10 := by omega
          have u4 : 0 + x * 10 + y * 1 + 1 ≤ 100 := by omega
          simp only [absE, absL, absF, reduceCtorEq, ↓reduceIte, Nat.reduceEqDiff, Nat.reduceAdd, Nat.reduceLT, Nat.reduceMul, Nat.reduceSub, Nat.reduceLeDiff, Int.reduceLT, Int.reduceLE, Int.reduceEq, Option.isSome_some, implies_true, false_implies, Prod.mk.injEq, ne_eq, not_false_eq_true, not_true_eq_false, ge_iff_le, gt_iff_lt, Int.toNat_natCast, Int.reduceToNat, Int.cast_ofNat_Int, Int.natCast_nonneg, wy, h']
          refine CallsX.none (l03Apply_ok N t 92 y x ht hs (by omega) (by omega)) ?_
          simp only [absE, absL, absF, reduceCtorEq, ↓reduceIte, Nat.reduceEqDiff, Nat.reduceAdd, Nat.reduceLT, Nat.reduceMul, Nat.reduceSub, Nat.reduceLeDiff, Int.reduceLT, Int.reduceLE, Int.reduceEq, Option.isSome_some, implies_true, false_implies, Prod.mk.injEq, ne_eq, not_false_eq_true, not_true_eq_false, ge_iff_le, gt_iff_lt, Int.toNat_natCast, Int.reduceToNat, Int.cast_ofNat_Int, Int.natCast_nonneg, l3, l4, u4, w']
          repeat refine ⟨by decide +kernel, ?_⟩
          refine LoopNext.intro (y + 1) (by omega) (by omega) ⟨[((1,0),(1,0)), ((2,0),(2,0)), ((3,0),(3,0)), ((15,0),(15,0))], rfl, ?_, ?_⟩
          · simp [wkEnv, lk, renV, renAt, renTo, mkIn, hg]
          · simp [wkMem, wkLoc, Mem.get, assoc, renBlk, renSegs, renSg, renTo, mkIn, hg]
        · have hyN : y = N := by omega
          subst hyN
          simp only [absE, absL, absF, reduceCtorEq, ↓reduceIte, Nat.reduceEqDiff, Nat.reduceAdd, Nat.reduceLT, Nat.reduceMul, Nat.reduceSub, Nat.reduceLeDiff, Int.reduceLT, Int.reduceLE, Int.reduceEq, Option.isSome_some, implies_true, false_implies, Prod.mk.injEq, ne_eq, not_false_eq_true, not_true_eq_false, ge_iff_le, gt_iff_lt, Int.toNat_natCast, Int.reduceToNat, Int.cast_ofNat_Int, Int.natCast_nonneg, wy, h', w]
          refine LoopNext.intro (x + 1) (by omega) (by omega) ⟨[((1,0),(1,0)), ((2,0),(2,0)), ((3,0),(3,0)), ((15,0),(15,0))], rfl, ?_, ?_⟩
          · simp [wkEnv, lk, renV, renAt, renTo, mkT]
          · simp [wkMem, wkLoc, Mem.get, assoc, renBlk, renSegs, renSg, renTo, mkT]
    · have hxN : x = N := by omega
      subst hxN
      simp only [absE, absL, absF, reduceCtorEq, ↓reduceIte, Nat.reduceEqDiff, Nat.reduceAdd, Nat.reduceLT, Nat.reduceMul, Nat.reduceSub, Nat.reduceLeDiff, Int.reduceLT, Int.reduceLE, Int.reduceEq, Option.isSome_some, implies_true, false_implies, Prod.mk.injEq, ne_eq, not_false_eq_true, not_true_eq_false, ge_iff_le, gt_iff_lt, Int.toNat_natCast, Int.reduceToNat, Int.cast_ofNat_Int, Int.natCast_nonneg, wx, h, Try.results49]
      exact ⟨[], by simp, by simp, by simp [renV, renVs, renSegs, renSg]⟩
theorem specPara5_ok (N : Nat) (t : List Int) (ht : Bytes 100 t) (hs : SqP N t) :
    ACalls Try.prog 49 [.agg (sqS N t), .i .i64 5] [] (fun v ms ns => v = .agg (sqS N (mkT (paraG N t 5) N N)) ∧ ms = [] ∧ ns = []) := by
  have hN := hs.le
  have hg : ∀ x y, paraG N t 5 x y = applyN N t 47 y x := fun x y => by simp [paraG, applyN]
  refine acalls_of_body mix Try.func49 rfl fok49 (Nat.le_of_ble_eq_true rfl) ?_
  unfold abody
  simp only [absE, absL, absF, reduceCtorEq, ↓reduceIte, Nat.reduceEqDiff, Nat.reduceAdd, Nat.reduceLT, Nat.reduceMul, Nat.reduceSub, Nat.reduceLeDiff, Int.reduceLT, Int.reduceLE, Int.reduceEq, Option.isSome_some, implies_true, false_implies, Prod.mk.injEq, ne_eq, not_false_eq_true, not_true_eq_false, ge_iff_le, gt_iff_lt, Int.toNat_natCast, Int.reduceToNat, Int.cast_ofNat_Int, Int.natCast_nonneg, Try.f49]
  refine awpLoop.intro (fun x : Nat => [(1, .i .i64 5), (2, .ref (.ptr 1 0 0 0)), (4, .ref (.ptr 2 0 0 0)), (5, .ref (.sl 3 0 0 0 6 1)), (6, .b true), (7, .ref (.ptr 15 0 0 0)), (8, .i .u8 x)]) (fun x => ⟨[], [((1, 0), .lv true (sqS N t)), ((2, 0), .lv true (sqS 0 (List.replicate 100 0))), ((3, 0), .lv true ([(0, .ints .u8 6 [42, 42, 92, 47, 92, 47])])), ((15, 0), .lv true (sqS N (mkT (paraG N t 5) N x)))], 18⟩)
    (fun x => x ≤ N) (fun x => N - x) 0 (by omega) ⟨[((1,0),(1,0)), ((2,0),(2,0)), ((3,0),(3,0)), ((15,0),(15,0))], rfl, ?_, ?_⟩ ?_
  · simp [wkEnv, lk, renV, renAt, renTo, mkT]
  · simp [wkMem, wkLoc, Mem.get, assoc, renBlk, renSegs, renSg, renTo, mkT]
  · intro x hx
    have wx := wrap_i64n (show x < 2 ^ 62 by omega)
    by_cases h : (x : Int) < N
    · have w := wrap_u8s (show x < 255 by omega)
      simp only [absE, absL, absF, reduceCtorEq, ↓reduceIte, Nat.reduceEqDiff, Nat.reduceAdd, Nat.reduceLT, Nat.reduceMul, Nat.reduceSub, Nat.reduceLeDiff, Int.reduceLT, Int.reduceLE, Int.reduceEq, Option.isSome_some, implies_true, false_implies, Prod.mk.injEq, ne_eq, not_false_eq_true, not_true_eq_false, ge_iff_le, gt_iff_lt, Int.toNat_natCast, Int.reduceToNat, Int.cast_ofNat_Int, Int.natCast_nonneg, wx, h]
      refine awpLoop.intro (fun y : Nat => [(1, .i .i64 5), (2, .ref (.ptr 1 0 0 0)), (4, .ref (.ptr 2 0 0 0)), (5, .ref (.sl 3 0 0 0 6 1)), (6, .b true), (7, .ref (.ptr 15 0 0 0)), (8, .i .u8 x), (9, .i .u8 y)]) (fun y => ⟨[], [((1, 0), .lv true (sqS N t)), ((2, 0), .lv true (sqS 0 (List.replicate 100 0))), ((3, 0), .lv true ([(0, .ints .u8 6 [42, 42, 92, 47, 92, 47])])), ((15, 0), .lv true (sqS N (mkIn (paraG N t 5) x (mkT (paraG N t 5) N x) y)))], 24⟩)
        (fun y => y ≤ N) (fun y => N - y) 0 (by omega) ⟨[((1,0),(1,0)), ((2,0),(2,0)), ((3,0),(3,0)), ((15,0),(15,0))], rfl, ?_, ?_⟩ ?_
      · simp [wkEnv, lk, renV, renAt, renTo, mkIn]
      · simp [wkMem, wkLoc, Mem.get, assoc, renBlk, renSegs, renSg, renTo, mkIn]
      · intro y hy
        have wy := wrap_i64n (show y < 2 ^ 62 by omega)
        by_cases h' : (y : Int) < N
        · have w' := wrap_u8s (show y < 255 by omega)
          have l3 : (x : Int) < 10 := by omega
          have l4 : (y : Int) < 10 := by omega
          have u4 : 0 + x * 10 + y * 1 + 1 ≤ 100 := by omega
          simp only [absE, absL, absF, reduceCtorEq, ↓reduceIte, Nat.reduceEqDiff, Nat.reduceAdd, Nat.reduceLT, Nat.reduceMul, Nat.reduceSub, Nat.reduceLeDiff, Int.reduceLT, Int.reduceLE, Int.reduceEq, Option.isSome_some, implies_true, false_implies, Prod.mk.injEq, ne_eq, not_false_eq_true, not_true_eq_false, ge_iff_le, gt_iff_lt, Int.toNat_natCast, Int.reduceToNat, Int.cast_ofNat_Int, Int.natCast_nonneg, wy, h']
          refine CallsX.none (l03Apply_ok N t 47 y x ht hs (by omega) (by omega)) ?_
          simp only [absE, absL, absF, reduceCtorEq, ↓reduceIte, Nat.reduceEqDiff, Nat.reduceAdd, Nat.reduceLT, Nat.reduceMul, Nat.reduceSub, Nat.reduceLeDiff, Int.reduceLT, Int.reduceLE, Int.reduceEq, Option.isSome_some, implies_true, false_implies, Prod.mk.injEq, ne_eq, not_false_eq_true, not_true_eq_false, ge_iff_le, gt_iff_lt, Int.toNat_natCast, Int.reduceToNat, Int.cast_ofNat_Int, Int.natCast_nonneg, l3, l4, u4, w']
          repeat refine ⟨by decide +kernel, ?_⟩
          refine LoopNext.intro (y + 1) (by omega) (by omega) ⟨[((1,0),(1,0)), ((2,0),(2,0)), ((3,0),(3,0)), ((15,0),(15,0))], rfl, ?_, ?_⟩
          · simp [wkEnv, lk, renV, renAt, renTo, mkIn, hg]
          · simp [wkMem, wkLoc, Mem.get, assoc, renBlk, renSegs, renSg, renTo, mkIn, hg]
        · have hyN : y = N := by omega
          subst hyN
          simp only [absE, absL, absF, reduceCtorEq, ↓reduceIte, Nat.reduceEqDiff, Nat.reduceAdd, Nat.reduceLT, Nat.reduceMul, Nat.reduceSub, Nat.reduceLeDiff, Int.reduceLT, Int.reduceLE, Int.reduceEq, Option.isSome_some, implies_true, false_implies, Prod.mk.injEq, ne_eq, not_false_eq_true, not_true_eq_false, ge_iff_le, gt_iff_lt, Int.toNat_natCast, Int.reduceToNat, Int.cast_ofNat_Int, Int.natCast_nonneg, wy, h', w]
          refine LoopNext.intro (x + 1) (by omega) (by omega) ⟨[((1,0),(1,0)), ((2,0),(2,0)), ((3,0),(3,0)), ((15,0),(15,0))], rfl, ?_, ?_⟩
          · simp [wkEnv, lk, renV, renAt, renTo, mkT]
          · simp [wkMem, wkLoc, Mem.get, assoc, renBlk, renSegs, renSg, renTo, mkT]
    · have hxN : x = N := by omega
      subst hxN
      simp only [absE, absL, absF, reduceCtorEq, ↓reduceIte, Nat.reduceEqDiff, Nat.reduceAdd, Nat.reduceLT, Nat.reduceMul, Nat.reduceSub, Nat.reduceLeDiff, Int.reduceLT, Int.reduceLE, Int.reduceEq, Option.isSome_some, implies_true, false_implies, Prod.mk.injEq, ne_eq, not_false_eq_true, not_true_eq_false, ge_iff_le, gt_iff_lt, Int.toNat_natCast, Int.reduceToNat, Int.cast_ofNat_Int, Int.natCast_nonneg, wx, h, Try.results49]
      exact ⟨[], by simp, by simp, by simp [renV, renVs, renSegs, renSg]⟩
theorem specPara_ok (N : Nat) (t : List Int) (k : Int) (ht : Bytes 100 t) (hs : SqP N t) (hk : 0 ≤ k ∧ k ≤ 5) :
    ACalls Try.prog 49 [.agg (sqS N t), .i .i64 k] [] (fun v ms ns => v = .agg (sqS N (mkT (paraG N t k) N N)) ∧ ms = [] ∧ ns = []) := by
  rcases para_cases hk with rfl | rfl | rfl | rfl | rfl | rfl
  · exact specPara0_ok N t ht hs
  · exact specPara1_ok N t ht hs
  · exact specPara2_ok N t ht hs
  · exact specPara3_ok N t ht hs
  · exact specPara4_ok N t ht hs
  · exact specPara5_ok N t ht hs
noncomputable def pcode (n : Int) (t : List Int) (k : Int) : Int := if sqB n t then (if 0 ≤ k ∧ k ≤ 5 then 0 else 2) else 1
noncomputable def paraAV (n : Int) (t : List Int) (k : Int) : AV := resSq (pcode n t k) n (mkT (paraG n.toNat t k) n.toNat n.toNat)
theorem para_form (n : Int) (t : List Int) (k : Int) (ht : Bytes 100 t) (hk : -2 ^ 63 ≤ k ∧ k < 2 ^ 63) : ∃ m s e, s.length = 100 ∧ paraAV n t k = .tup [.agg (sqS m s), .i .i64 e] := resSq_form _ _ mkT_len
end Go.Proofs.Ytgcfkdgdlllgjaa
