/-
Contracts of functions of the given program, by the abstract walk.
-/
import Derived.Test.YtgcfkdgdlllgjaaAbsW
import Derived.Test.YtgcfkdgdlllgjaaDb
import Derived.Test.YtgcfkdgdlllgjaaDd
namespace Go.Proofs.Ytgcfkdgdlllgjaa
open Go Go.Abs
set_option linter.unusedVariables false
set_option linter.unusedSectionVars false
set_option linter.unusedSimpArgs false
set_option maxRecDepth 100000
def turnL (N : Nat) (t : List Int) (x : Nat) : List Int := mapL (fun z => fnd (fun i => cl t i x) (cl t x z) N) N
def leftL (N : Nat) (t : List Int) (x y : Nat) : List Int := mapL (fun z => fnd (cl t (cl t y x)) (cl t y (cl t x z)) N) N
def rightL (N : Nat) (t : List Int) (x y : Nat) : List Int := mapL (fun z => fnd (fun i => cl t i (cl t x y)) (cl t (cl t z x) y) N) N

theorem implTurn1_ok (N : Nat) (t : List Int) (x z : Nat) (ht : Bytes 100 t) (hs : SqP N t) (hx : x < N) (hz : z < N) :
    ACalls Try.prog 153 [.i .u8 z, .ref (.ptr 0 0 0 0), .ref (.ptr 0 1 0 0)] [.lv true (sqS N t), .lv true [(0, .ints .u8 1 [(x : Int)])]] (fun v ms ns => v = .i .u8 (fnd (fun i => cl t i x) (cl t x z) N) ∧ ms = [.lv true (sqS N t), .lv true [(0, .ints .u8 1 [(x : Int)])]] ∧ ns = []) := by
  have hN := hs.le
  have i1 : (x : Int) < 10 := by omega
  have i2 : (z : Int) < 10 := by omega
  have u1 : 0 + x * 10 + z * 1 < 100 := by omega
  have k1 := sq_colget ht x z
  refine acalls_of_body mix Try.func153 rfl fok153 (Nat.le_of_ble_eq_true rfl) ?_
  unfold abody
  simp only [absE, absL, absF, reduceCtorEq, ↓reduceIte, Nat.reduceEqDiff, Nat.reduceAdd, Nat.reduceLT, Nat.reduceMul, Nat.reduceSub, Nat.reduceLeDiff, Int.reduceLT, Int.reduceLE, Int.reduceEq, Option.isSome_some, implies_true, false_implies, Prod.mk.injEq, ne_eq, not_false_eq_true, not_true_eq_false, ge_iff_le, gt_iff_lt, Int.toNat_natCast, Int.reduceToNat, Int.cast_ofNat_Int, Int.natCast_nonneg, i1, i2, u1, k1, Try.f153]
  refine CallsX.none (implRight_ok N t (cl t x z) x ht hs (hs.cl_lt hx hz) hx) ?_
  simp only [absE, absL, absF, reduceCtorEq, ↓reduceIte, Nat.reduceEqDiff, Nat.reduceAdd, Nat.reduceLT, Nat.reduceMul, Nat.reduceSub, Nat.reduceLeDiff, Int.reduceLT, Int.reduceLE, Int.reduceEq, Option.isSome_some, implies_true, false_implies, Prod.mk.injEq, ne_eq, not_false_eq_true, not_true_eq_false, ge_iff_le, gt_iff_lt, Int.toNat_natCast, Int.reduceToNat, Int.cast_ofNat_Int, Int.natCast_nonneg, Try.results153]
  exact ⟨[], by simp, by simp, by simp [renV, renVs, renSegs, renSg, renBlk]⟩
theorem implTurn_ok (N : Nat) (t : List Int) (x : Nat) (ht : Bytes 100 t) (hs : SqP N t) (hx : x < N) :
    ACalls Try.prog 113 [.agg (sqS N t), .i .u8 x] [] (fun v ms ns => v = .agg (plS (turnL N t x)) ∧ ms = [] ∧ ns = []) := by
  refine acalls_of_body mix Try.func113 rfl fok113 (Nat.le_of_ble_eq_true rfl) ?_
  unfold abody
  simp only [absE, absL, absF, reduceCtorEq, ↓reduceIte, Nat.reduceEqDiff, Nat.reduceAdd, Nat.reduceLT, Nat.reduceMul, Nat.reduceSub, Nat.reduceLeDiff, Int.reduceLT, Int.reduceLE, Int.reduceEq, Option.isSome_some, implies_true, false_implies, Prod.mk.injEq, ne_eq, not_false_eq_true, not_true_eq_false, ge_iff_le, gt_iff_lt, Int.toNat_natCast, Int.reduceToNat, Int.cast_ofNat_Int, Int.natCast_nonneg, Try.f113]
  refine CallsVia.args [(1, 0), (2, 0)] (mapped2_ok N t hs.le 153 (fun z => fnd (fun i => cl t i x) (cl t x z) N) (sqS N t) [(0, .ints .u8 1 [(x : Int)])] (fun ρ => by simp [renSegs, renSg]) (fun ρ => by simp [renSegs, renSg]) (fun z hz => implTurn1_ok N t x z ht hs hx hz)) (by simp) (by simp [Mem.get, assoc]) rfl rfl ?_
  rintro _ _ _ ⟨rfl, rfl, rfl⟩
  simp only [absE, absL, absF, reduceCtorEq, ↓reduceIte, Nat.reduceEqDiff, Nat.reduceAdd, Nat.reduceLT, Nat.reduceMul, Nat.reduceSub, Nat.reduceLeDiff, Int.reduceLT, Int.reduceLE, Int.reduceEq, Option.isSome_some, implies_true, false_implies, Prod.mk.injEq, ne_eq, not_false_eq_true, not_true_eq_false, ge_iff_le, gt_iff_lt, Int.toNat_natCast, Int.reduceToNat, Int.cast_ofNat_Int, Int.natCast_nonneg, Try.results113]
  exact ⟨[], by simp, by simp, by simp [renV, renVs, renSegs, renSg, turnL]⟩
theorem specTurn_ok (N : Nat) (t : List Int) (x : Nat) (ht : Bytes 100 t) (hs : SqP N t) (hx : x < N) :
    ACalls Try.prog 108 [.agg (sqS N t), .i .u8 x] [] (fun v ms ns => v = .agg (plS (turnL N t x)) ∧ ms = [] ∧ ns = []) := by
  have hN := hs.le
  have e1 : ∀ i, i < N → pl (colL N t x) i = cl t i x := fun i hi => pl_mapL hN hi
  have hc : ∀ i, i < N → pl (colL N t x) i < 10 := fun i hi => by rw [e1 i hi]; have := hs.cl_lt hi hx; omega
  have hr : ∀ i, i < N → pl (rowL t x) i < 10 := fun i hi => by rw [pl_rowL (by omega)]; have := hs.cl_lt hx hi; omega
  have key : mapL (fun i => pl (bkL (pl (colL N t x)) N) (pl (rowL t x) i)) N = turnL N t x := mapL_congr fun z hz => by
    rw [pl_rowL (by omega), bkL_congr e1]
    exact (hs.colP hx).back hN (hs.cl_lt hx hz)
  rw [← key]
  refine acalls_of_body mix Try.func108 rfl fok108 (Nat.le_of_ble_eq_true rfl) ?_
  unfold abody
  simp only [absE, absL, absF, reduceCtorEq, ↓reduceIte, Nat.reduceEqDiff, Nat.reduceAdd, Nat.reduceLT, Nat.reduceMul, Nat.reduceSub, Nat.reduceLeDiff, Int.reduceLT, Int.reduceLE, Int.reduceEq, Option.isSome_some, implies_true, false_implies, Prod.mk.injEq, ne_eq, not_false_eq_true, not_true_eq_false, ge_iff_le, gt_iff_lt, Int.toNat_natCast, Int.reduceToNat, Int.cast_ofNat_Int, Int.natCast_nonneg, Try.f108]
  refine CallsX.none (specRow_ok N t x ht (by omega)) ?_
  simp only [absE, absL, absF, reduceCtorEq, ↓reduceIte, Nat.reduceEqDiff, Nat.reduceAdd, Nat.reduceLT, Nat.reduceMul, Nat.reduceSub, Nat.reduceLeDiff, Int.reduceLT, Int.reduceLE, Int.reduceEq, Option.isSome_some, implies_true, false_implies, Prod.mk.injEq, ne_eq, not_false_eq_true, not_true_eq_false, ge_iff_le, gt_iff_lt, Int.toNat_natCast, Int.reduceToNat, Int.cast_ofNat_Int, Int.natCast_nonneg]
  refine CallsX.none (specColumn_ok N t x ht hN (by omega)) ?_
  simp only [absE, absL, absF, reduceCtorEq, ↓reduceIte, Nat.reduceEqDiff, Nat.reduceAdd, Nat.reduceLT, Nat.reduceMul, Nat.reduceSub, Nat.reduceLeDiff, Int.reduceLT, Int.reduceLE, Int.reduceEq, Option.isSome_some, implies_true, false_implies, Prod.mk.injEq, ne_eq, not_false_eq_true, not_true_eq_false, ge_iff_le, gt_iff_lt, Int.toNat_natCast, Int.reduceToNat, Int.cast_ofNat_Int, Int.natCast_nonneg]
  refine CallsX.none (specBack_ok N (colL N t x) (colL_bytes ht hN) hN hc) ?_
  simp only [absE, absL, absF, reduceCtorEq, ↓reduceIte, Nat.reduceEqDiff, Nat.reduceAdd, Nat.reduceLT, Nat.reduceMul, Nat.reduceSub, Nat.reduceLeDiff, Int.reduceLT, Int.reduceLE, Int.reduceEq, Option.isSome_some, implies_true, false_implies, Prod.mk.injEq, ne_eq, not_false_eq_true, not_true_eq_false, ge_iff_le, gt_iff_lt, Int.toNat_natCast, Int.reduceToNat, Int.cast_ofNat_Int, Int.natCast_nonneg]
  refine CallsX.none (specThen_ok N (rowL t x) (bkL (pl (colL N t x)) N) (rowL_bytes ht (by omega)) (bkL_bytes hN hc) hN hr) ?_
  simp only [absE, absL, absF, reduceCtorEq, ↓reduceIte, Nat.reduceEqDiff, Nat.reduceAdd, Nat.reduceLT, Nat.reduceMul, Nat.reduceSub, Nat.reduceLeDiff, Int.reduceLT, Int.reduceLE, Int.reduceEq, Option.isSome_some, implies_true, false_implies, Prod.mk.injEq, ne_eq, not_false_eq_true, not_true_eq_false, ge_iff_le, gt_iff_lt, Int.toNat_natCast, Int.reduceToNat, Int.cast_ofNat_Int, Int.natCast_nonneg, Try.results108]
  exact ⟨[], by simp, by simp, by simp [renV, renVs, renSegs, renSg]⟩
theorem implLeftInner1_ok (N : Nat) (t : List Int) (x y z : Nat) (ht : Bytes 100 t) (hs : SqP N t) (hx : x < N) (hy : y < N) (hz : z < N) :
    ACalls Try.prog 154 [.i .u8 z, .ref (.ptr 0 0 0 0), .ref (.ptr 0 1 0 0), .ref (.ptr 0 2 0 0)] [.lv true (sqS N t), .lv true [(0, .ints .u8 1 [(y : Int)])], .lv true [(0, .ints .u8 1 [(x : Int)])]] (fun v ms ns => v = .i .u8 (fnd (cl t (cl t y x)) (cl t y (cl t x z)) N) ∧ ms = [.lv true (sqS N t), .lv true [(0, .ints .u8 1 [(y : Int)])], .lv true [(0, .ints .u8 1 [(x : Int)])]] ∧ ns = []) := by
  have hN := hs.le
  have i1 : (x : Int) < 10 := by omega
  have i2 : (z : Int) < 10 := by omega
  have i3 : (y : Int) < 10 := by omega
  have j1 := hs.cl_lt hx hz
  have i4 : (cl t x z : Int) < 10 := by omega
  have u1 : 0 + x * 10 + z * 1 < 100 := by omega
  have u2 : 0 + y * 10 + x * 1 < 100 := by omega
  have u3 : 0 + y * 10 + cl t x z * 1 < 100 := by omega
  have k1 := sq_colget ht x z
  have k2 := sq_colget ht y x
  have k3 := sq_colget ht y (cl t x z)
  refine acalls_of_body mix Try.func154 rfl fok154 (Nat.le_of_ble_eq_true rfl) ?_
  unfold abody
  simp only [absE, absL, absF, reduceCtorEq, ↓reduceIte, Nat.reduceEqDiff, Nat.reduceAdd, Nat.reduceLT, Nat.reduceMul, Nat.reduceSub, Nat.reduceLeDiff, Int.reduceLT, Int.reduceLE, Int.reduceEq, Option.isSome_some, implies_true, false_implies, Prod.mk.injEq, ne_eq, not_false_eq_true, not_true_eq_false, ge_iff_le, gt_iff_lt, Int.toNat_natCast, Int.reduceToNat, Int.cast_ofNat_Int, Int.natCast_nonneg, i1, i2, i3, i4, u1, u2, u3, k1, k2, k3, Try.f154]
  refine CallsX.none (implLeft_ok N t (cl t y x) (cl t y (cl t x z)) ht hs (hs.cl_lt hy hx) (hs.cl_lt hy j1)) ?_
  simp only [absE, absL, absF, reduceCtorEq, ↓reduceIte, Nat.reduceEqDiff, Nat.reduceAdd, Nat.reduceLT, Nat.reduceMul, Nat.reduceSub, Nat.reduceLeDiff, Int.reduceLT, Int.reduceLE, Int.reduceEq, Option.isSome_some, implies_true, false_implies, Prod.mk.injEq, ne_eq, not_false_eq_true, not_true_eq_false, ge_iff_le, gt_iff_lt, Int.toNat_natCast, Int.reduceToNat, Int.cast_ofNat_Int, Int.natCast_nonneg, Try.results154]
  exact ⟨[], by simp, by simp, by simp [renV, renVs, renSegs, renSg, renBlk]⟩
theorem implRightInner1_ok (N : Nat) (t : List Int) (x y z : Nat) (ht : Bytes 100 t) (hs : SqP N t) (hx : x < N) (hy : y < N) (hz : z < N) :
    ACalls Try.prog 155 [.i .u8 z, .ref (.ptr 0 0 0 0), .ref (.ptr 0 1 0 0), .ref (.ptr 0 2 0 0)] [.lv true (sqS N t), .lv true [(0, .ints .u8 1 [(x : Int)])], .lv true [(0, .ints .u8 1 [(y : Int)])]] (fun v ms ns => v = .i .u8 (fnd (fun i => cl t i (cl t x y)) (cl t (cl t z x) y) N) ∧ ms = [.lv true (sqS N t), .lv true [(0, .ints .u8 1 [(x : Int)])], .lv true [(0, .ints .u8 1 [(y : Int)])]] ∧ ns = []) := by
  have hN := hs.le
  have i1 : (x : Int) < 10 := by omega
  have i2 : (z : Int) < 10 := by omega
  have i3 : (y : Int) < 10 := by omega
  have j1 := hs.cl_lt hz hx
  have i4 : (cl t z x : Int) < 10 := by omega
  have u1 : 0 + z * 10 + x * 1 < 100 := by omega
  have u2 : 0 + x * 10 + y * 1 < 100 := by omega
  have u3 : 0 + cl t z x * 10 + y * 1 < 100 := by omega
  have k1 := sq_colget ht z x
  have k2 := sq_colget ht x y
  have k3 := sq_colget ht (cl t z x) y
  refine acalls_of_body mix Try.func155 rfl fok155 (Nat.le_of_ble_eq_true rfl) ?_
  unfold abody
  simp only [absE, absL, absF, reduceCtorEq, ↓reduceIte, Nat.reduceEqDiff, Nat.reduceAdd, Nat.reduceLT, Nat.reduceMul, Nat.reduceSub, Nat.reduceLeDiff, Int.reduceLT, Int.reduceLE, Int.reduceEq, Option.isSome_some, implies_true, false_implies, Prod.mk.injEq, ne_eq, not_false_eq_true, not_true_eq_false, ge_iff_le, gt_iff_lt, Int.toNat_natCast, Int.reduceToNat, Int.cast_ofNat_Int, Int.natCast_nonneg, i1, i2, i3, i4, u1, u2, u3, k1, k2, k3, Try.f155]
  refine CallsX.none (implRight_ok N t (cl t (cl t z x) y) (cl t x y) ht hs (hs.cl_lt j1 hy) (hs.cl_lt hx hy)) ?_
  simp only [absE, absL, absF, reduceCtorEq, ↓reduceIte, Nat.reduceEqDiff, Nat.reduceAdd, Nat.reduceLT, Nat.reduceMul, Nat.reduceSub, Nat.reduceLeDiff, Int.reduceLT, Int.reduceLE, Int.reduceEq, Option.isSome_some, implies_true, false_implies, Prod.mk.injEq, ne_eq, not_false_eq_true, not_true_eq_false, ge_iff_le, gt_iff_lt, Int.toNat_natCast, Int.reduceToNat, Int.cast_ofNat_Int, Int.natCast_nonneg, Try.results155]
  exact ⟨[], by simp, by simp, by simp [renV, renVs, renSegs, renSg, renBlk]⟩
theorem implLeftInner_ok (N : Nat) (t : List Int) (x y : Nat) (ht : Bytes 100 t) (hs : SqP N t) (hx : x < N) (hy : y < N) :
    ACalls Try.prog 114 [.agg (sqS N t), .i .u8 x, .i .u8 y] [] (fun v ms ns => v = .agg (plS (leftL N t x y)) ∧ ms = [] ∧ ns = []) := by
  refine acalls_of_body mix Try.func114 rfl fok114 (Nat.le_of_ble_eq_true rfl) ?_
  unfold abody
  simp only [absE, absL, absF, reduceCtorEq, ↓reduceIte, Nat.reduceEqDiff, Nat.reduceAdd, Nat.reduceLT, Nat.reduceMul, Nat.reduceSub, Nat.reduceLeDiff, Int.reduceLT, Int.reduceLE, Int.reduceEq, Option.isSome_some, implies_true, false_implies, Prod.mk.injEq, ne_eq, not_false_eq_true, not_true_eq_false, ge_iff_le, gt_iff_lt, Int.toNat_natCast, Int.reduceToNat, Int.cast_ofNat_Int, Int.natCast_nonneg, Try.f114]
  refine CallsVia.args [(1, 0), (3, 0), (2, 0)] (mapped3_ok N t hs.le 154 (fun z => fnd (cl t (cl t y x)) (cl t y (cl t x z)) N) (sqS N t) [(0, .ints .u8 1 [(y : Int)])] [(0, .ints .u8 1 [(x : Int)])] (fun ρ => by simp [renSegs, renSg]) (fun ρ => by simp [renSegs, renSg]) (fun ρ => by simp [renSegs, renSg]) (fun z hz => implLeftInner1_ok N t x y z ht hs hx hy hz)) (by simp) (by simp [Mem.get, assoc]) rfl rfl ?_
  rintro _ _ _ ⟨rfl, rfl, rfl⟩
  simp only [absE, absL, absF, reduceCtorEq, ↓reduceIte, Nat.reduceEqDiff, Nat.reduceAdd, Nat.reduceLT, Nat.reduceMul, Nat.reduceSub, Nat.reduceLeDiff, Int.reduceLT, Int.reduceLE, Int.reduceEq, Option.isSome_some, implies_true, false_implies, Prod.mk.injEq, ne_eq, not_false_eq_true, not_true_eq_false, ge_iff_le, gt_iff_lt, Int.toNat_natCast, Int.reduceToNat, Int.cast_ofNat_Int, Int.natCast_nonneg, Try.results114]
  exact ⟨[], by simp, by simp, by simp [renV, renVs, renSegs, renSg, leftL]⟩
theorem implRightInner_ok (N : Nat) (t : List Int) (x y : Nat) (ht : Bytes 100 t) (hs : SqP N t) (hx : x < N) (hy : y < N) :
    ACalls Try.prog 115 [.agg (sqS N t), .i .u8 x, .i .u8 y] [] (fun v ms ns => v = .agg (plS (rightL N t x y)) ∧ ms = [] ∧ ns = []) := by
  refine acalls_of_body mix Try.func115 rfl fok115 (Nat.le_of_ble_eq_true rfl) ?_
  unfold abody
  simp only [absE, absL, absF, reduceCtorEq, ↓reduceIte, Nat.reduceEqDiff, Nat.reduceAdd, Nat.reduceLT, Nat.reduceMul, Nat.reduceSub, Nat.reduceLeDiff, Int.reduceLT, Int.reduceLE, Int.reduceEq, Option.isSome_some, implies_true, false_implies, Prod.mk.injEq, ne_eq, not_false_eq_true, not_true_eq_false, ge_iff_le, gt_iff_lt, Int.toNat_natCast, Int.reduceToNat, Int.cast_ofNat_Int, Int.natCast_nonneg, Try.f115]
  refine CallsVia.args [(1, 0), (2, 0), (3, 0)] (mapped3_ok N t hs.le 155 (fun z => fnd (fun i => cl t i (cl t x y)) (cl t (cl t z x) y) N) (sqS N t) [(0, .ints .u8 1 [(x : Int)])] [(0, .ints .u8 1 [(y : Int)])] (fun ρ => by simp [renSegs, renSg]) (fun ρ => by simp [renSegs, renSg]) (fun ρ => by simp [renSegs, renSg]) (fun z hz => implRightInner1_ok N t x y z ht hs hx hy hz)) (by simp) (by simp [Mem.get, assoc]) rfl rfl ?_
  rintro _ _ _ ⟨rfl, rfl, rfl⟩
  simp only [absE, absL, absF, reduceCtorEq, ↓reduceIte, Nat.reduceEqDiff, Nat.reduceAdd, Nat.reduceLT, Nat.reduceMul, Nat.reduceSub, Nat.reduceLeDiff, Int.reduceLT, Int.reduceLE, Int.reduceEq, Option.isSome_some, implies_true, false_implies, Prod.mk.injEq, ne_eq, not_false_eq_true, not_true_eq_false, ge_iff_le, gt_iff_lt, Int.toNat_natCast, Int.reduceToNat, Int.cast_ofNat_Int, Int.natCast_nonneg, Try.results115]
  exact ⟨[], by simp, by simp, by simp [renV, renVs, renSegs, renSg, rightL]⟩
theorem specLeftInner_ok (N : Nat) (t : List Int) (x y : Nat) (ht : Bytes 100 t) (hs : SqP N t) (hx : x < N) (hy : y < N) :
    ACalls Try.prog 109 [.agg (sqS N t), .i .u8 x, .i .u8 y] [] (fun v ms ns => v = .agg (plS (leftL N t x y)) ∧ ms = [] ∧ ns = []) := by
  have hN := hs.le
  have i1 : (x : Int) < 10 := by omega
  have i3 : (y : Int) < 10 := by omega
  have u2 : 0 + y * 10 + x * 1 < 100 := by omega
  have k2 := sq_colget ht y x
  have hyx := hs.cl_lt hy hx
  have r1 : ∀ i, i < N → pl (rowL t x) i < 10 := fun i hi => by rw [pl_rowL (by omega)]; have := hs.cl_lt hx hi; omega
  have e3 : ∀ i, i < N → pl (rowL t (cl t y x)) i = cl t (cl t y x) i := fun i hi => pl_rowL (by omega)
  have r3 : ∀ i, i < N → pl (rowL t (cl t y x)) i < 10 := fun i hi => by rw [e3 i hi]; have := hs.cl_lt hyx hi; omega
  have e2 : ∀ i, i < N → pl (mapL (fun i => pl (rowL t y) (pl (rowL t x) i)) N) i = cl t y (cl t x i) := fun i hi => by
    rw [pl_mapL hN hi, pl_rowL (t := t) (x := x) (show i < 10 by omega), pl_rowL (by have := hs.cl_lt hx hi; omega)]
  have r2 : ∀ i, i < N → pl (mapL (fun i => pl (rowL t y) (pl (rowL t x) i)) N) i < 10 := fun i hi => by rw [e2 i hi]; have := hs.cl_lt hy (hs.cl_lt hx hi); omega
  have m2 : Bytes 10 (mapL (fun i => pl (rowL t y) (pl (rowL t x) i)) N) := mapL_bytes hN fun i _ => (rowL_bytes ht (by omega)).place_lt _
  have key : mapL (fun i => pl (bkL (pl (rowL t (cl t y x))) N) (pl (mapL (fun i => pl (rowL t y) (pl (rowL t x) i)) N) i)) N = leftL N t x y := mapL_congr fun z hz => by
    rw [e2 z hz, bkL_congr e3]
    exact (hs.rowP hyx).back hN (hs.cl_lt hy (hs.cl_lt hx hz))
  rw [← key]
  refine acalls_of_body mix Try.func109 rfl fok109 (Nat.le_of_ble_eq_true rfl) ?_
  unfold abody
  simp only [absE, absL, absF, reduceCtorEq, ↓reduceIte, Nat.reduceEqDiff, Nat.reduceAdd, Nat.reduceLT, Nat.reduceMul, Nat.reduceSub, Nat.reduceLeDiff, Int.reduceLT, Int.reduceLE, Int.reduceEq, Option.isSome_some, implies_true, false_implies, Prod.mk.injEq, ne_eq, not_false_eq_true, not_true_eq_false, ge_iff_le, gt_iff_lt, Int.toNat_natCast, Int.reduceToNat, Int.cast_ofNat_Int, Int.natCast_nonneg, Try.f109]
  refine CallsX.none (specRow_ok N t x ht (by omega)) ?_
  simp only [absE, absL, absF, reduceCtorEq, ↓reduceIte, Nat.reduceEqDiff, Nat.reduceAdd, Nat.reduceLT, Nat.reduceMul, Nat.reduceSub, Nat.reduceLeDiff, Int.reduceLT, Int.reduceLE, Int.reduceEq, Option.isSome_some, implies_true, false_implies, Prod.mk.injEq, ne_eq, not_false_eq_true, not_true_eq_false, ge_iff_le, gt_iff_lt, Int.toNat_natCast, Int.reduceToNat, Int.cast_ofNat_Int, Int.natCast_nonneg]
  refine CallsX.none (specRow_ok N t y ht (by omega)) ?_
  simp only [absE, absL, absF, reduceCtorEq, ↓reduceIte, Nat.reduceEqDiff, Nat.reduceAdd, Nat.reduceLT, Nat.reduceMul, Nat.reduceSub, Nat.reduceLeDiff, Int.reduceLT, Int.reduceLE, Int.reduceEq, Option.isSome_some, implies_true, false_implies, Prod.mk.injEq, ne_eq, not_false_eq_true, not_true_eq_false, ge_iff_le, gt_iff_lt, Int.toNat_natCast, Int.reduceToNat, Int.cast_ofNat_Int, Int.natCast_nonneg]
  refine CallsX.none (specThen_ok N (rowL t x) (rowL t y) (rowL_bytes ht (by omega)) (rowL_bytes ht (by omega)) hN r1) ?_
  simp only [absE, absL, absF, reduceCtorEq, ↓reduceIte, Nat.reduceEqDiff, Nat.reduceAdd, Nat.reduceLT, Nat.reduceMul, Nat.reduceSub, Nat.reduceLeDiff, Int.reduceLT, Int.reduceLE, Int.reduceEq, Option.isSome_some, implies_true, false_implies, Prod.mk.injEq, ne_eq, not_false_eq_true, not_true_eq_false, ge_iff_le, gt_iff_lt, Int.toNat_natCast, Int.reduceToNat, Int.cast_ofNat_Int, Int.natCast_nonneg, i1, i3, u2, k2]
  refine CallsX.none (specRow_ok N t (cl t y x) ht (by omega)) ?_
  simp only [absE, absL, absF, reduceCtorEq, ↓reduceIte, Nat.reduceEqDiff, Nat.reduceAdd, Nat.reduceLT, Nat.reduceMul, Nat.reduceSub, Nat.reduceLeDiff, Int.reduceLT, Int.reduceLE, Int.reduceEq, Option.isSome_some, implies_true, false_implies, Prod.mk.injEq, ne_eq, not_false_eq_true, not_true_eq_false, ge_iff_le, gt_iff_lt, Int.toNat_natCast, Int.reduceToNat, Int.cast_ofNat_Int, Int.natCast_nonneg]
  refine CallsX.none (specBack_ok N (rowL t (cl t y x)) (rowL_bytes ht (by omega)) hN r3) ?_
  simp only [absE, absL, absF, reduceCtorEq, ↓reduceIte, Nat.reduceEqDiff, Nat.reduceAdd, Nat.reduceLT, Nat.reduceMul, Nat.reduceSub, Nat.reduceLeDiff, Int.reduceLT, Int.reduceLE, Int.reduceEq, Option.isSome_some, implies_true, false_implies, Prod.mk.injEq, ne_eq, not_false_eq_true, not_true_eq_false, ge_iff_le, gt_iff_lt, Int.toNat_natCast, Int.reduceToNat, Int.cast_ofNat_Int, Int.natCast_nonneg]
  refine CallsX.none (specThen_ok N _ _ m2 (bkL_bytes hN r3) hN r2) ?_
  simp only [absE, absL, absF, reduceCtorEq, ↓reduceIte, Nat.reduceEqDiff, Nat.reduceAdd, Nat.reduceLT, Nat.reduceMul, Nat.reduceSub, Nat.reduceLeDiff, Int.reduceLT, Int.reduceLE, Int.reduceEq, Option.isSome_some, implies_true, false_implies, Prod.mk.injEq, ne_eq, not_false_eq_true, not_true_eq_false, ge_iff_le, gt_iff_lt, Int.toNat_natCast, Int.reduceToNat, Int.cast_ofNat_Int, Int.natCast_nonneg, Try.results109]
  exact ⟨[], by simp, by simp, by simp [renV, renVs, renSegs, renSg]⟩
theorem specRightInner_ok (N : Nat) (t : List Int) (x y : Nat) (ht : Bytes 100 t) (hs : SqP N t) (hx : x < N) (hy : y < N) :
    ACalls Try.prog 110 [.agg (sqS N t), .i .u8 x, .i .u8 y] [] (fun v ms ns => v = .agg (plS (rightL N t x y)) ∧ ms = [] ∧ ns = []) := by
  have hN := hs.le
  have i1 : (x : Int) < 10 := by omega
  have i3 : (y : Int) < 10 := by omega
  have u2 : 0 + x * 10 + y * 1 < 100 := by omega
  have k2 := sq_colget ht x y
  have hyx := hs.cl_lt hx hy
  have r1 : ∀ i, i < N → pl (colL N t x) i < 10 := fun i hi => by unfold colL; rw [pl_mapL hN hi]; have := hs.cl_lt hi hx; omega
  have e3 : ∀ i, i < N → pl (colL N t (cl t x y)) i = cl t i (cl t x y) := fun i hi => by unfold colL; rw [pl_mapL hN hi]
  have r3 : ∀ i, i < N → pl (colL N t (cl t x y)) i < 10 := fun i hi => by rw [e3 i hi]; have := hs.cl_lt hi hyx; omega
  have e2 : ∀ i, i < N → pl (mapL (fun i => pl (colL N t y) (pl (colL N t x) i)) N) i = cl t (cl t i x) y := fun i hi => by
    rw [pl_mapL hN hi]; unfold colL; rw [pl_mapL hN hi, pl_mapL hN (hs.cl_lt hi hx)]
  have r2 : ∀ i, i < N → pl (mapL (fun i => pl (colL N t y) (pl (colL N t x) i)) N) i < 10 := fun i hi => by rw [e2 i hi]; have := hs.cl_lt (hs.cl_lt hi hx) hy; omega
  have m2 : Bytes 10 (mapL (fun i => pl (colL N t y) (pl (colL N t x) i)) N) := mapL_bytes hN fun i _ => (colL_bytes ht hN).place_lt _
  have key : mapL (fun i => pl (bkL (pl (colL N t (cl t x y))) N) (pl (mapL (fun i => pl (colL N t y) (pl (colL N t x) i)) N) i)) N = rightL N t x y := mapL_congr fun z hz => by
    rw [e2 z hz, bkL_congr e3]
    exact (hs.colP hyx).back hN (hs.cl_lt (hs.cl_lt hz hx) hy)
  rw [← key]
  refine acalls_of_body mix Try.func110 rfl fok110 (Nat.le_of_ble_eq_true rfl) ?_
  unfold abody
  simp only [absE, absL, absF, reduceCtorEq, ↓reduceIte, Nat.reduceEqDiff, Nat.reduceAdd, Nat.reduceLT, Nat.reduceMul, Nat.reduceSub, Nat.reduceLeDiff, Int.reduceLT, Int.reduceLE, Int.reduceEq, Option.isSome_some, implies_true, false_implies, Prod.mk.injEq, ne_eq, not_false_eq_true, not_true_eq_false, ge_iff_le, gt_iff_lt, Int.toNat_natCast, Int.reduceToNat, Int.cast_ofNat_Int, Int.natCast_nonneg, Try.f110]
  refine CallsX.none (specColumn_ok N t x ht hN (by omega)) ?_
  simp only [absE, absL, absF, reduceCtorEq, ↓reduceIte, Nat.reduceEqDiff, Nat.reduceAdd, Nat.reduceLT, Nat.reduceMul, Nat.reduceSub, Nat.reduceLeDiff, Int.reduceLT, Int.reduceLE, Int.reduceEq, Option.isSome_some, implies_true, false_implies, Prod.mk.injEq, ne_eq, not_false_eq_true, not_true_eq_false, ge_iff_le, gt_iff_lt, Int.toNat_natCast, Int.reduceToNat, Int.cast_ofNat_Int, Int.natCast_nonneg]
  refine CallsX.none (specColumn_ok N t y ht hN (by omega)) ?_
  simp only [absE, absL, absF, reduceCtorEq, ↓reduceIte, Nat.reduceEqDiff, Nat.reduceAdd, Nat.reduceLT, Nat.reduceMul, Nat.reduceSub, Nat.reduceLeDiff, Int.reduceLT, Int.reduceLE, Int.reduceEq, Option.isSome_some, implies_true, false_implies, Prod.mk.injEq, ne_eq, not_false_eq_true, not_true_eq_false, ge_iff_le, gt_iff_lt, Int.toNat_natCast, Int.reduceToNat, Int.cast_ofNat_Int, Int.natCast_nonneg]
  refine CallsX.none (specThen_ok N (colL N t x) (colL N t y) (colL_bytes ht hN) (colL_bytes ht hN) hN r1) ?_
  simp only [absE, absL, absF, reduceCtorEq, ↓reduceIte, Nat.reduceEqDiff, Nat.reduceAdd, Nat.reduceLT, Nat.reduceMul, Nat.reduceSub, Nat.reduceLeDiff, Int.reduceLT, Int.reduceLE, Int.reduceEq, Option.isSome_some, implies_true, false_implies, Prod.mk.injEq, ne_eq, not_false_eq_true, not_true_eq_false, ge_iff_le, gt_iff_lt, Int.toNat_natCast, Int.reduceToNat, Int.cast_ofNat_Int, Int.natCast_nonneg, i1, i3, u2, k2]
  refine CallsX.none (specColumn_ok N t (cl t x y) ht hN (by omega)) ?_
  simp only [absE, absL, absF, reduceCtorEq, ↓reduceIte, Nat.reduceEqDiff, Nat.reduceAdd, Nat.reduceLT, Nat.reduceMul, Nat.reduceSub, Nat.reduceLeDiff, Int.reduceLT, Int.reduceLE, Int.reduceEq, Option.isSome_some, implies_true, false_implies, Prod.mk.injEq, ne_eq, not_false_eq_true, not_true_eq_false, ge_iff_le, gt_iff_lt, Int.toNat_natCast, Int.reduceToNat, Int.cast_ofNat_Int, Int.natCast_nonneg]
  refine CallsX.none (specBack_ok N (colL N t (cl t x y)) (colL_bytes ht hN) hN r3) ?_
  simp only [absE, absL, absF, reduceCtorEq, ↓reduceIte, Nat.reduceEqDiff, Nat.reduceAdd, Nat.reduceLT, Nat.reduceMul, Nat.reduceSub, Nat.reduceLeDiff, Int.reduceLT, Int.reduceLE, Int.reduceEq, Option.isSome_some, implies_true, false_implies, Prod.mk.injEq, ne_eq, not_false_eq_true, not_true_eq_false, ge_iff_le, gt_iff_lt, Int.toNat_natCast, Int.reduceToNat, Int.cast_ofNat_Int, Int.natCast_nonneg]
  refine CallsX.none (specThen_ok N _ _ m2 (bkL_bytes hN r3) hN r2) ?_
  simp only [absE, absL, absF, reduceCtorEq, ↓reduceIte, Nat.reduceEqDiff, Nat.reduceAdd, Nat.reduceLT, Nat.reduceMul, Nat.reduceSub, Nat.reduceLeDiff, Int.reduceLT, Int.reduceLE, Int.reduceEq, Option.isSome_some, implies_true, false_implies, Prod.mk.injEq, ne_eq, not_false_eq_true, not_true_eq_false, ge_iff_le, gt_iff_lt, Int.toNat_natCast, Int.reduceToNat, Int.cast_ofNat_Int, Int.natCast_nonneg, Try.results110]
  exact ⟨[], by simp, by simp, by simp [renV, renVs, renSegs, renSg]⟩

end Go.Proofs.Ytgcfkdgdlllgjaa
