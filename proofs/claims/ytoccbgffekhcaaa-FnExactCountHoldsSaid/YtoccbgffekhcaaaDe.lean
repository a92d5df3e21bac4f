/-
Contracts of functions of the given program, by the abstract walk.
-/
import Derived.Test.YtoccbgffekhcaaaAbsY
import Derived.Test.YtoccbgffekhcaaaDb
import Derived.Test.YtoccbgffekhcaaaDd
namespace Go.Proofs.Ytoccbgffekhcaaa
open Go Go.Abs
set_option linter.unusedVariables false
set_option linter.unusedSectionVars false
set_option linter.unusedSimpArgs false
set_option maxRecDepth 100000
def turnL (N : Nat) (t : List Int) (x : Nat) : List Int := mapL (fun z => fnd (fun i => cl t i x) (cl t x z) N) N
def leftL (N : Nat) (t : List Int) (x y : Nat) : List Int := mapL (fun z => fnd (cl t (cl t y x)) (cl t y (cl t x z)) N) N
def rightL (N : Nat) (t : List Int) (x y : Nat) : List Int := mapL (fun z => fnd (fun i => cl t i (cl t x y)) (cl t (cl t z x) y) N) N

theorem implTurn1_ok (N : Nat) (t : List Int) (x z : Nat) (ht : Bytes 100 t) (hs : SqP N t) (hx : x < N) (hz : z < N) :
    ACalls Try.prog 176 [.i .u8 z, .ref (.ptr 0 0 0 0), .ref (.ptr 0 1 0 0)] [.lv true (sqS N t), .lv true [(0, .ints .u8 1 [(x : Int)])]] (fun v ms ns => v = .i .u8 (fnd (fun i => cl t i x) (cl t x z) N) ∧ ms = [.lv true (sqS N t), .lv true [(0, .ints .u8 1 [(x : Int)])]] ∧ ns = []) := by
  have hN := hs.le
  have i1 : (x : Int) < 10 := by omega
  have i2 : (z : Int) < 10 := by omega
  have u1 : 0 + x * 10 + z * 1 < 100 := by omega
  have k1 := sq_colget ht x z
  refine acalls_of_body mix Try.func176 rfl fok176 (Nat.le_of_ble_eq_true rfl) ?_
  unfold abody
  simp only [absE, absL, absF, reduceCtorEq, ↓reduceIte, Nat.reduceEqDiff, Nat.reduceAdd, Nat.reduceLT, Nat.reduceMul, Nat.reduceSub, Nat.reduceLeDiff, Int.reduceLT, Int.reduceLE, Int.reduceEq, Option.isSome_some, implies_true, false_implies, Prod.mk.injEq, ne_eq, not_false_eq_true, not_true_eq_false, ge_iff_le, gt_iff_lt, Int.toNat_natCast, Int.reduceToNat, Int.cast_ofNat_Int, Int.natCast_nonneg, i1, i2, u1, k1, Try.f176]
  refine CallsX.none (implRight_ok N t (cl t x z) x ht hs (hs.cl_lt hx hz) hx) ?_
  simp only [absE, absL, absF, reduceCtorEq, ↓reduceIte, Nat.reduceEqDiff, Nat.reduceAdd, Nat.reduceLT, Nat.reduceMul, Nat.reduceSub, Nat.reduceLeDiff, Int.reduceLT, Int.reduceLE, Int.reduceEq, Option.isSome_some, implies_true, false_implies, Prod.mk.injEq, ne_eq, not_false_eq_true, not_true_eq_false, ge_iff_le, gt_iff_lt, Int.toNat_natCast, Int.reduceToNat, Int.cast_ofNat_Int, Int.natCast_nonneg, Try.results176]
  exact ⟨[], by simp, by simp, by simp [renV, renVs, renSegs, renSg, renBlk]⟩
theorem implTurn_ok (N : Nat) (t : List Int) (x : Nat) (ht : Bytes 100 t) (hs : SqP N t) (hx : x < N) :
    ACalls Try.prog 156 [.agg (sqS N t), .i .u8 x] [] (fun v ms ns => v = .agg (plS (turnL N t x)) ∧ ms = [] ∧ ns = []) := by
  refine acalls_of_body mix Try.func156 rfl fok156 (Nat.le_of_ble_eq_true rfl) ?_
  unfold abody
  simp only [absE, absL, absF, reduceCtorEq, ↓reduceIte, Nat.reduceEqDiff, Nat.reduceAdd, Nat.reduceLT, Nat.reduceMul, Nat.reduceSub, Nat.reduceLeDiff, Int.reduceLT, Int.reduceLE, Int.reduceEq, Option.isSome_some, implies_true, false_implies, Prod.mk.injEq, ne_eq, not_false_eq_true, not_true_eq_false, ge_iff_le, gt_iff_lt, Int.toNat_natCast, Int.reduceToNat, Int.cast_ofNat_Int, Int.natCast_nonneg, Try.f156]
  refine CallsVia.args [(1, 0), (2, 0)] (mapped2_ok N t hs.le 176 (fun z => fnd (fun i => cl t i x) (cl t x z) N) (sqS N t) [(0, .ints .u8 1 [(x : Int)])] (fun ρ => by simp [renSegs, renSg]) (fun ρ => by simp [renSegs, renSg]) (fun z hz => implTurn1_ok N t x z ht hs hx hz)) (by simp) (by simp [Mem.get, assoc]) rfl rfl ?_
  rintro _ _ _ ⟨rfl, rfl, rfl⟩
  simp only [absE, absL, absF, reduceCtorEq, ↓reduceIte, Nat.reduceEqDiff, Nat.reduceAdd, Nat.reduceLT, Nat.reduceMul, Nat.reduceSub, Nat.reduceLeDiff, Int.reduceLT, Int.reduceLE, Int.reduceEq, Option.isSome_some, implies_true, false_implies, Prod.mk.injEq, ne_eq, not_false_eq_true, not_true_eq_false, ge_iff_le, gt_iff_lt, Int.toNat_natCast, Int.reduceToNat, Int.cast_ofNat_Int, Int.natCast_nonneg, Try.results156]
  exact ⟨[], by simp, by simp, by simp [renV, renVs, renSegs, renSg, turnL]⟩
theorem implLeftInner1_ok (N : Nat) (t : List Int) (x y z : Nat) (ht : Bytes 100 t) (hs : SqP N t) (hx : x < N) (hy : y < N) (hz : z < N) :
    ACalls Try.prog 177 [.i .u8 z, .ref (.ptr 0 0 0 0), .ref (.ptr 0 1 0 0), .ref (.ptr 0 2 0 0)] [.lv true (sqS N t), .lv true [(0, .ints .u8 1 [(y : Int)])], .lv true [(0, .ints .u8 1 [(x : Int)])]] (fun v ms ns => v = .i .u8 (fnd (cl t (cl t y x)) (cl t y (cl t x z)) N) ∧ ms = [.lv true (sqS N t), .lv true [(0, .ints .u8 1 [(y : Int)])], .lv true [(0, .ints .u8 1 [(x : Int)])]] ∧ ns = []) := by
  have hN := hs.le
  have i1 : (x : Int) < 10 := by omega
  have i2 : (z : Int) < 10 := by omega
  have i3 : (y : Int) < 10 := by omega
  have j1 := hs.cl_lt hx hz
  have i4 : (cl t x z : Int) < 10 := by omega
  have u1 : 0 + x * 10 + z * 1 < 100 := by omega
  have u2 : 0 + y * 10 + x * 1 < 100 := by omega
  have u3 : 0 + y * 10 + cl t x z * 1 < 100 := by omega
  have k1 := sq_colget ht x z
  have k2 := sq_colget ht y x
  have k3 := sq_colget ht y (cl t x z)
  refine acalls_of_body mix Try.func177 rfl fok177 (Nat.le_of_ble_eq_true rfl) ?_
  unfold abody
  simp only [absE, absL, absF, reduceCtorEq, ↓reduceIte, Nat.reduceEqDiff, Nat.reduceAdd, Nat.reduceLT, Nat.reduceMul, Nat.reduceSub, Nat.reduceLeDiff, Int.reduceLT, Int.reduceLE, Int.reduceEq, Option.isSome_some, implies_true, false_implies, Prod.mk.injEq, ne_eq, not_false_eq_true, not_true_eq_false, ge_iff_le, gt_iff_lt, Int.toNat_natCast, Int.reduceToNat, Int.cast_ofNat_Int, Int.natCast_nonneg, i1, i2, i3, i4, u1, u2, u3, k1, k2, k3, Try.f177]
  refine CallsX.none (implLeft_ok N t (cl t y x) (cl t y (cl t x z)) ht hs (hs.cl_lt hy hx) (hs.cl_lt hy j1)) ?_
  simp only [absE, absL, absF, reduceCtorEq, ↓reduceIte, Nat.reduceEqDiff, Nat.reduceAdd, Nat.reduceLT, Nat.reduceMul, Nat.reduceSub, Nat.reduceLeDiff, Int.reduceLT, Int.reduceLE, Int.reduceEq, Option.isSome_some, implies_true, false_implies, Prod.mk.injEq, ne_eq, not_false_eq_true, not_true_eq_false, ge_iff_le, gt_iff_lt, Int.toNat_natCast, Int.reduceToNat, Int.cast_ofNat_Int, Int.natCast_nonneg, Try.results177]
  exact ⟨[], by simp, by simp, by simp [renV, renVs, renSegs, renSg, renBlk]⟩
theorem implRightInner1_ok (N : Nat) (t : List Int) (x y z : Nat) (ht : Bytes 100 t) (hs : SqP N t) (hx : x < N) (hy : y < N) (hz : z < N) :
    ACalls Try.prog 178 [.i .u8 z, .ref (.ptr 0 0 0 0), .ref (.ptr 0 1 0 0), .ref (.ptr 0 2 0 0)] [.lv true (sqS N t), .lv true [(0, .ints .u8 1 [(x : Int)])], .lv true [(0, .ints .u8 1 [(y : Int)])]] (fun v ms ns => v = .i .u8 (fnd (fun i => cl t i (cl t x y)) (cl t (cl t z x) y) N) ∧ ms = [.lv true (sqS N t), .lv true [(0, .ints .u8 1 [(x : Int)])], .lv true [(0, .ints .u8 1 [(y : Int)])]] ∧ ns = []) := by
  have hN := hs.le
  have i1 : (x : Int) < 10 := by omega
  have i2 : (z : Int) < 10 := by omega
  have i3 : (y : Int) < 10 := by omega
  have j1 := hs.cl_lt hz hx
  have i4 : (cl t z x : Int) < 10 := by omega
  have u1 : 0 + z * 10 + x * 1 < 100 := by omega
  have u2 : 0 + x * 10 + y * 1 < 100 := by omega
  have u3 : 0 + cl t z x * 10 + y * 1 < 100 := by omega
  have k1 := sq_colget ht z x
  have k2 := sq_colget ht x y
  have k3 := sq_colget ht (cl t z x) y
  refine acalls_of_body mix Try.func178 rfl fok178 (Nat.le_of_ble_eq_true rfl) ?_
  unfold abody
  simp only [absE, absL, absF, reduceCtorEq, ↓reduceIte, Nat.reduceEqDiff, Nat.reduceAdd, Nat.reduceLT, Nat.reduceMul, Nat.reduceSub, Nat.reduceLeDiff, Int.reduceLT, Int.reduceLE, Int.reduceEq, Option.isSome_some, implies_true, false_implies, Prod.mk.injEq, ne_eq, not_false_eq_true, not_true_eq_false, ge_iff_le, gt_iff_lt, Int.toNat_natCast, Int.reduceToNat, Int.cast_ofNat_Int, Int.natCast_nonneg, i1, i2, i3, i4, u1, u2, u3, k1, k2, k3, Try.f178]
  refine CallsX.none (implRight_ok N t (cl t (cl t z x) y) (cl t x y) ht hs (hs.cl_lt j1 hy) (hs.cl_lt hx hy)) ?_
  simp only [absE, absL, absF, reduceCtorEq, ↓reduceIte, Nat.reduceEqDiff, Nat.reduceAdd, Nat.reduceLT, Nat.reduceMul, Nat.reduceSub, Nat.reduceLeDiff, Int.reduceLT, Int.reduceLE, Int.reduceEq, Option.isSome_some, implies_true, false_implies, Prod.mk.injEq, ne_eq, not_false_eq_true, not_true_eq_false, ge_iff_le, gt_iff_lt, Int.toNat_natCast, Int.reduceToNat, Int.cast_ofNat_Int, Int.natCast_nonneg, Try.results178]
  exact ⟨[], by simp, by simp, by simp [renV, renVs, renSegs, renSg, renBlk]⟩
theorem implLeftInner_ok (N : Nat) (t : List Int) (x y : Nat) (ht : Bytes 100 t) (hs : SqP N t) (hx : x < N) (hy : y < N) :
    ACalls Try.prog 157 [.agg (sqS N t), .i .u8 x, .i .u8 y] [] (fun v ms ns => v = .agg (plS (leftL N t x y)) ∧ ms = [] ∧ ns = []) := by
  refine acalls_of_body mix Try.func157 rfl fok157 (Nat.le_of_ble_eq_true rfl) ?_
  unfold abody
  simp only [absE, absL, absF, reduceCtorEq, ↓reduceIte, Nat.reduceEqDiff, Nat.reduceAdd, Nat.reduceLT, Nat.reduceMul, Nat.reduceSub, Nat.reduceLeDiff, Int.reduceLT, Int.reduceLE, Int.reduceEq, Option.isSome_some, implies_true, false_implies, Prod.mk.injEq, ne_eq, not_false_eq_true, not_true_eq_false, ge_iff_le, gt_iff_lt, Int.toNat_natCast, Int.reduceToNat, Int.cast_ofNat_Int, Int.natCast_nonneg, Try.f157]
  refine CallsVia.args [(1, 0), (3, 0), (2, 0)] (mapped3_ok N t hs.le 177 (fun z => fnd (cl t (cl t y x)) (cl t y (cl t x z)) N) (sqS N t) [(0, .ints .u8 1 [(y : Int)])] [(0, .ints .u8 1 [(x : Int)])] (fun ρ => by simp [renSegs, renSg]) (fun ρ => by simp [renSegs, renSg]) (fun ρ => by simp [renSegs, renSg]) (fun z hz => implLeftInner1_ok N t x y z ht hs hx hy hz)) (by simp) (by simp [Mem.get, assoc]) rfl rfl ?_
  rintro _ _ _ ⟨rfl, rfl, rfl⟩
  simp only [absE, absL, absF, reduceCtorEq, ↓reduceIte, Nat.reduceEqDiff, Nat.reduceAdd, Nat.reduceLT, Nat.reduceMul, Nat.reduceSub, Nat.reduceLeDiff, Int.reduceLT, Int.reduceLE, Int.reduceEq, Option.isSome_some, implies_true, false_implies, Prod.mk.injEq, ne_eq, not_false_eq_true, not_true_eq_false, ge_iff_le, gt_iff_lt, Int.toNat_natCast, Int.reduceToNat, Int.cast_ofNat_Int, Int.natCast_nonneg, Try.results157]
  exact ⟨[], by simp, by simp, by simp [renV, renVs, renSegs, renSg, leftL]⟩
theorem implRightInner_ok (N : Nat) (t : List Int) (x y : Nat) (ht : Bytes 100 t) (hs : SqP N t) (hx : x < N) (hy : y < N) :
    ACalls Try.prog 158 [.agg (sqS N t), .i .u8 x, .i .u8 y] [] (fun v ms ns => v = .agg (plS (rightL N t x y)) ∧ ms = [] ∧ ns = []) := by
  refine acalls_of_body mix Try.func158 rfl fok158 (Nat.le_of_ble_eq_true rfl) ?_
  unfold abody
  simp only [absE, absL, absF, reduceCtorEq, ↓reduceIte, Nat.reduceEqDiff, Nat.reduceAdd, Nat.reduceLT, Nat.reduceMul, Nat.reduceSub, Nat.reduceLeDiff, Int.reduceLT, Int.reduceLE, Int.reduceEq, Option.isSome_some, implies_true, false_implies, Prod.mk.injEq, ne_eq, not_false_eq_true, not_true_eq_false, ge_iff_le, gt_iff_lt, Int.toNat_natCast, Int.reduceToNat, Int.cast_ofNat_Int, Int.natCast_nonneg, Try.f158]
  refine CallsVia.args [(1, 0), (2, 0), (3, 0)] (mapped3_ok N t hs.le 178 (fun z => fnd (fun i => cl t i (cl t x y)) (cl t (cl t z x) y) N) (sqS N t) [(0, .ints .u8 1 [(x : Int)])] [(0, .ints .u8 1 [(y : Int)])] (fun ρ => by simp [renSegs, renSg]) (fun ρ => by simp [renSegs, renSg]) (fun ρ => by simp [renSegs, renSg]) (fun z hz => implRightInner1_ok N t x y z ht hs hx hy hz)) (by simp) (by simp [Mem.get, assoc]) rfl rfl ?_
  rintro _ _ _ ⟨rfl, rfl, rfl⟩
  simp only [absE, absL, absF, reduceCtorEq, ↓reduceIte, Nat.reduceEqDiff, Nat.reduceAdd, Nat.reduceLT, Nat.reduceMul, Nat.reduceSub, Nat.reduceLeDiff, Int.reduceLT, Int.reduceLE, Int.reduceEq, Option.isSome_some, implies_true, false_implies, Prod.mk.injEq, ne_eq, not_false_eq_true, not_true_eq_false, ge_iff_le, gt_iff_lt, Int.toNat_natCast, Int.reduceToNat, Int.cast_ofNat_Int, Int.natCast_nonneg, Try.results158]
  exact ⟨[], by simp, by simp, by simp [renV, renVs, renSegs, renSg, rightL]⟩
end Go.Proofs.Ytoccbgffekhcaaa
