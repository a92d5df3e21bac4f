/-
Contracts of functions of the given program, by the abstract walk.
-/
import Derived.Test.YtgcfkdgdlllgjaaAbsW
import Derived.Test.YtgcfkdgdlllgjaaDo
import Derived.Test.YtgcfkdgdlllgjaaDc
namespace Go.Proofs.Ytgcfkdgdlllgjaa
open Go Go.Abs
set_option linter.unusedVariables false
set_option linter.unusedSectionVars false
set_option linter.unusedSimpArgs false
set_option maxRecDepth 100000
def assoc3 (t : List Int) (x y z : Nat) : Bool := decide (cl t (cl t x y) z = cl t x (cl t y z))
theorem assoc3_true {t : List Int} {x y z : Nat} (h : cl t (cl t x y) z = cl t x (cl t y z)) : assoc3 t x y z = true := decide_eq_true h
theorem assoc3_false {t : List Int} {x y z : Nat} (h : ¬cl t (cl t x y) z = cl t x (cl t y z)) : assoc3 t x y z = false := decide_eq_false h
theorem associates_ok (N : Nat) (t : List Int) (x y z : Nat) (ht : Bytes 100 t) (hs : SqP N t) (hx : x < N) (hy : y < N) (hz : z < N) :
    ACalls Try.prog 140 [.agg (sqS N t), .i .u8 x, .i .u8 y, .i .u8 z] [] (fun v ms ns => v = .b (assoc3 t x y z) ∧ ms = [] ∧ ns = []) := by
  have hN := hs.le
  have j1 := hs.cl_lt hx hy
  have j2 := hs.cl_lt hy hz
  have i1 : (x : Int) < 10 := by omega
  have i2 : (y : Int) < 10 := by omega
  have i3 : (z : Int) < 10 := by omega
  have i4 : (cl t x y : Int) < 10 := by omega
  have i5 : (cl t y z : Int) < 10 := by omega
  have u1 : 0 + x * 10 + y * 1 < 100 := by omega
  have u2 : 0 + y * 10 + z * 1 < 100 := by omega
  have u3 : 0 + cl t x y * 10 + z * 1 < 100 := by omega
  have u4 : 0 + x * 10 + cl t y z * 1 < 100 := by omega
  have k1 := sq_colget ht x y
  have k2 := sq_colget ht y z
  have k3 := sq_colget ht (cl t x y) z
  have k4 := sq_colget ht x (cl t y z)
  refine acalls_of_body mix Try.func140 rfl fok140 (Nat.le_of_ble_eq_true rfl) ?_
  unfold abody
  by_cases hc : cl t (cl t x y) z = cl t x (cl t y z)
  · have g : (cl t (cl t x y) z : Int) = cl t x (cl t y z) := by omega
    simp only [absE, absL, absF, reduceCtorEq, ↓reduceIte, Nat.reduceEqDiff, Nat.reduceAdd, Nat.reduceLT, Nat.reduceMul, Nat.reduceSub, Nat.reduceLeDiff, Int.reduceLT, Int.reduceLE, Int.reduceEq, Option.isSome_some, implies_true, false_implies, Prod.mk.injEq, ne_eq, not_false_eq_true, not_true_eq_false, ge_iff_le, gt_iff_lt, Int.toNat_natCast, Int.reduceToNat, Int.cast_ofNat_Int, Int.natCast_nonneg, i1, i2, i3, i4, i5, u1, u2, u3, u4, k1, k2, k3, k4, g, Try.f140, Try.results140]
    exact fin_true (assoc3_true hc)
  · have g : ¬(cl t (cl t x y) z : Int) = cl t x (cl t y z) := by omega
    simp only [absE, absL, absF, reduceCtorEq, ↓reduceIte, Nat.reduceEqDiff, Nat.reduceAdd, Nat.reduceLT, Nat.reduceMul, Nat.reduceSub, Nat.reduceLeDiff, Int.reduceLT, Int.reduceLE, Int.reduceEq, Option.isSome_some, implies_true, false_implies, Prod.mk.injEq, ne_eq, not_false_eq_true, not_true_eq_false, ge_iff_le, gt_iff_lt, Int.toNat_natCast, Int.reduceToNat, Int.cast_ofNat_Int, Int.natCast_nonneg, i1, i2, i3, i4, i5, u1, u2, u3, u4, k1, k2, k3, k4, g, Try.f140, Try.results140]
    exact fin_false (assoc3_false hc)
def nucG (side : Int) (t : List Int) (a x y : Nat) : Bool := if side = 0 then assoc3 t a x y else if side = 1 then assoc3 t x a y else assoc3 t x y a
noncomputable def nucB (side : Int) (N : Nat) (t : List Int) (a : Nat) : Bool := pairsB N (nucG side t a)
theorem leftNucleus2_ok (N : Nat) (t : List Int) (a x y : Nat) (ht : Bytes 100 t) (hs : SqP N t) (ha : a < N) (hx : x < N) (hy : y < N) :
    ACalls Try.prog 166 [.i .u8 x, .i .u8 y, .ref (.ptr 0 0 0 0), .ref (.ptr 0 1 0 0)] [.lv true (sqS N t), .lv true [(0, .ints .u8 1 [(a : Int)])]] (fun v ms ns => v = .b (nucG 0 t a x y) ∧ ms = [.lv true (sqS N t), .lv true [(0, .ints .u8 1 [(a : Int)])]] ∧ ns = []) := by
  refine acalls_of_body mix Try.func166 rfl fok166 (Nat.le_of_ble_eq_true rfl) ?_
  unfold abody
  simp only [absE, absL, absF, reduceCtorEq, ↓reduceIte, Nat.reduceEqDiff, Nat.reduceAdd, Nat.reduceLT, Nat.reduceMul, Nat.reduceSub, Nat.reduceLeDiff, Int.reduceLT, Int.reduceLE, Int.reduceEq, Option.isSome_some, implies_true, false_implies, Prod.mk.injEq, ne_eq, not_false_eq_true, not_true_eq_false, ge_iff_le, gt_iff_lt, Int.toNat_natCast, Int.reduceToNat, Int.cast_ofNat_Int, Int.natCast_nonneg, Try.f166]
  refine CallsVia.none (associates_ok N t a x y ht hs ha hx hy) ?_
  rintro _ _ _ ⟨rfl, rfl, rfl⟩
  simp only [absE, absL, absF, reduceCtorEq, ↓reduceIte, Nat.reduceEqDiff, Nat.reduceAdd, Nat.reduceLT, Nat.reduceMul, Nat.reduceSub, Nat.reduceLeDiff, Int.reduceLT, Int.reduceLE, Int.reduceEq, Option.isSome_some, implies_true, false_implies, Prod.mk.injEq, ne_eq, not_false_eq_true, not_true_eq_false, ge_iff_le, gt_iff_lt, Int.toNat_natCast, Int.reduceToNat, Int.cast_ofNat_Int, Int.natCast_nonneg, Try.results166]
  exact ⟨[], by simp, by simp, by simp [renV, renVs, renSegs, renSg, renBlk, nucG]⟩
theorem leftNucleus1_ok (N : Nat) (t : List Int) (a : Nat) (ht : Bytes 100 t) (hs : SqP N t) (ha : a < N) :
    ACalls Try.prog 165 [.i .u8 a, .ref (.ptr 0 0 0 0)] [.lv true (sqS N t)] (fun v ms ns => v = .b (nucB 0 N t a) ∧ ms = [.lv true (sqS N t)] ∧ ns = []) := by
  refine acalls_of_body mix Try.func165 rfl fok165 (Nat.le_of_ble_eq_true rfl) ?_
  unfold abody
  simp only [absE, absL, absF, reduceCtorEq, ↓reduceIte, Nat.reduceEqDiff, Nat.reduceAdd, Nat.reduceLT, Nat.reduceMul, Nat.reduceSub, Nat.reduceLeDiff, Int.reduceLT, Int.reduceLE, Int.reduceEq, Option.isSome_some, implies_true, false_implies, Prod.mk.injEq, ne_eq, not_false_eq_true, not_true_eq_false, ge_iff_le, gt_iff_lt, Int.toNat_natCast, Int.reduceToNat, Int.cast_ofNat_Int, Int.natCast_nonneg, Try.f165]
  refine CallsVia.args [(0, 0), (1, 0)] (forPairs2_ok N t hs.le 166 (nucG 0 t a) (sqS N t) [(0, .ints .u8 1 [(a : Int)])] (fun ρ => by simp [renSegs, renSg]) (fun ρ => by simp [renSegs, renSg]) (fun x y hx hy => leftNucleus2_ok N t a x y ht hs ha hx hy)) (by simp) (by simp [Mem.get, assoc]) rfl rfl ?_
  rintro _ _ _ ⟨rfl, rfl, rfl⟩
  simp only [absE, absL, absF, reduceCtorEq, ↓reduceIte, Nat.reduceEqDiff, Nat.reduceAdd, Nat.reduceLT, Nat.reduceMul, Nat.reduceSub, Nat.reduceLeDiff, Int.reduceLT, Int.reduceLE, Int.reduceEq, Option.isSome_some, implies_true, false_implies, Prod.mk.injEq, ne_eq, not_false_eq_true, not_true_eq_false, ge_iff_le, gt_iff_lt, Int.toNat_natCast, Int.reduceToNat, Int.cast_ofNat_Int, Int.natCast_nonneg, Try.results165]
  exact ⟨[], by simp, by simp, by simp [renV, renVs, renSegs, renSg, renBlk, nucB]⟩
theorem leftNucleus_ok (N : Nat) (t : List Int) (ht : Bytes 100 t) (hs : SqP N t) :
    ACalls Try.prog 143 [.agg (sqS N t)] [] (fun v ms ns => v = .i .i64 (setM (nucB 0 N t) N) ∧ ms = [] ∧ ns = []) := by
  refine acalls_of_body mix Try.func143 rfl fok143 (Nat.le_of_ble_eq_true rfl) ?_
  unfold abody
  simp only [absE, absL, absF, reduceCtorEq, ↓reduceIte, Nat.reduceEqDiff, Nat.reduceAdd, Nat.reduceLT, Nat.reduceMul, Nat.reduceSub, Nat.reduceLeDiff, Int.reduceLT, Int.reduceLE, Int.reduceEq, Option.isSome_some, implies_true, false_implies, Prod.mk.injEq, ne_eq, not_false_eq_true, not_true_eq_false, ge_iff_le, gt_iff_lt, Int.toNat_natCast, Int.reduceToNat, Int.cast_ofNat_Int, Int.natCast_nonneg, Try.f143]
  refine CallsVia.args [(1, 0)] (those1_ok N t hs.le 165 (nucB 0 N t) (sqS N t) (fun ρ => by simp [renSegs, renSg]) (fun z hz => leftNucleus1_ok N t z ht hs hz)) (by simp) (by simp [Mem.get, assoc]) rfl rfl ?_
  rintro _ _ _ ⟨rfl, rfl, rfl⟩
  simp only [absE, absL, absF, reduceCtorEq, ↓reduceIte, Nat.reduceEqDiff, Nat.reduceAdd, Nat.reduceLT, Nat.reduceMul, Nat.reduceSub, Nat.reduceLeDiff, Int.reduceLT, Int.reduceLE, Int.reduceEq, Option.isSome_some, implies_true, false_implies, Prod.mk.injEq, ne_eq, not_false_eq_true, not_true_eq_false, ge_iff_le, gt_iff_lt, Int.toNat_natCast, Int.reduceToNat, Int.cast_ofNat_Int, Int.natCast_nonneg, Try.results143]
  exact ⟨[], by simp, by simp, by simp [renV, renVs, renSegs, renSg]⟩
theorem middleNucleus2_ok (N : Nat) (t : List Int) (a x y : Nat) (ht : Bytes 100 t) (hs : SqP N t) (ha : a < N) (hx : x < N) (hy : y < N) :
    ACalls Try.prog 168 [.i .u8 x, .i .u8 y, .ref (.ptr 0 0 0 0), .ref (.ptr 0 1 0 0)] [.lv true (sqS N t), .lv true [(0, .ints .u8 1 [(a : Int)])]] (fun v ms ns => v = .b (nucG 1 t a x y) ∧ ms = [.lv true (sqS N t), .lv true [(0, .ints .u8 1 [(a : Int)])]] ∧ ns = []) := by
  refine acalls_of_body mix Try.func168 rfl fok168 (Nat.le_of_ble_eq_true rfl) ?_
  unfold abody
  simp only [absE, absL, absF, reduceCtorEq, ↓reduceIte, Nat.reduceEqDiff, Nat.reduceAdd, Nat.reduceLT, Nat.reduceMul, Nat.reduceSub, Nat.reduceLeDiff, Int.reduceLT, Int.reduceLE, Int.reduceEq, Option.isSome_some, implies_true, false_implies, Prod.mk.injEq, ne_eq, not_false_eq_true, not_true_eq_false, ge_iff_le, gt_iff_lt, Int.toNat_natCast, Int.reduceToNat, Int.cast_ofNat_Int, Int.natCast_nonneg, Try.f168]
  refine CallsVia.none (associates_ok N t x a y ht hs hx ha hy) ?_
  rintro _ _ _ ⟨rfl, rfl, rfl⟩
  simp only [absE, absL, absF, reduceCtorEq, ↓reduceIte, Nat.reduceEqDiff, Nat.reduceAdd, Nat.reduceLT, Nat.reduceMul, Nat.reduceSub, Nat.reduceLeDiff, Int.reduceLT, Int.reduceLE, Int.reduceEq, Option.isSome_some, implies_true, false_implies, Prod.mk.injEq, ne_eq, not_false_eq_true, not_true_eq_false, ge_iff_le, gt_iff_lt, Int.toNat_natCast, Int.reduceToNat, Int.cast_ofNat_Int, Int.natCast_nonneg, Try.results168]
  exact ⟨[], by simp, by simp, by simp [renV, renVs, renSegs, renSg, renBlk, nucG]⟩
theorem middleNucleus1_ok (N : Nat) (t : List Int) (a : Nat) (ht : Bytes 100 t) (hs : SqP N t) (ha : a < N) :
    ACalls Try.prog 167 [.i .u8 a, .ref (.ptr 0 0 0 0)] [.lv true (sqS N t)] (fun v ms ns => v = .b (nucB 1 N t a) ∧ ms = [.lv true (sqS N t)] ∧ ns = []) := by
  refine acalls_of_body mix Try.func167 rfl fok167 (Nat.le_of_ble_eq_true rfl) ?_
  unfold abody
  simp only [absE, absL, absF, reduceCtorEq, ↓reduceIte, Nat.reduceEqDiff, Nat.reduceAdd, Nat.reduceLT, Nat.reduceMul, Nat.reduceSub, Nat.reduceLeDiff, Int.reduceLT, Int.reduceLE, Int.reduceEq, Option.isSome_some, implies_true, false_implies, Prod.mk.injEq, ne_eq, not_false_eq_true, not_true_eq_false, ge_iff_le, gt_iff_lt, Int.toNat_natCast, Int.reduceToNat, Int.cast_ofNat_Int, Int.natCast_nonneg, Try.f167]
  refine CallsVia.args [(0, 0), (1, 0)] (forPairs2_ok N t hs.le 168 (nucG 1 t a) (sqS N t) [(0, .ints .u8 1 [(a : Int)])] (fun ρ => by simp [renSegs, renSg]) (fun ρ => by simp [renSegs, renSg]) (fun x y hx hy => middleNucleus2_ok N t a x y ht hs ha hx hy)) (by simp) (by simp [Mem.get, assoc]) rfl rfl ?_
  rintro _ _ _ ⟨rfl, rfl, rfl⟩
  simp only [absE, absL, absF, reduceCtorEq, ↓reduceIte, Nat.reduceEqDiff, Nat.reduceAdd, Nat.reduceLT, Nat.reduceMul, Nat.reduceSub, Nat.reduceLeDiff, Int.reduceLT, Int.reduceLE, Int.reduceEq, Option.isSome_some, implies_true, false_implies, Prod.mk.injEq, ne_eq, not_false_eq_true, not_true_eq_false, ge_iff_le, gt_iff_lt, Int.toNat_natCast, Int.reduceToNat, Int.cast_ofNat_Int, Int.natCast_nonneg, Try.results167]
  exact ⟨[], by simp, by simp, by simp [renV, renVs, renSegs, renSg, renBlk, nucB]⟩
theorem middleNucleus_ok (N : Nat) (t : List Int) (ht : Bytes 100 t) (hs : SqP N t) :
    ACalls Try.prog 144 [.agg (sqS N t)] [] (fun v ms ns => v = .i .i64 (setM (nucB 1 N t) N) ∧ ms = [] ∧ ns = []) := by
  refine acalls_of_body mix Try.func144 rfl fok144 (Nat.le_of_ble_eq_true rfl) ?_
  unfold abody
  simp only [absE, absL, absF, reduceCtorEq, ↓reduceIte, Nat.reduceEqDiff, Nat.reduceAdd, Nat.reduceLT, Nat.reduceMul, Nat.reduceSub, Nat.reduceLeDiff, Int.reduceLT, Int.reduceLE, Int.reduceEq, Option.isSome_some, implies_true, false_implies, Prod.mk.injEq, ne_eq, not_false_eq_true, not_true_eq_false, ge_iff_le, gt_iff_lt, Int.toNat_natCast, Int.reduceToNat, Int.cast_ofNat_Int, Int.natCast_nonneg, Try.f144]
  refine CallsVia.args [(1, 0)] (those1_ok N t hs.le 167 (nucB 1 N t) (sqS N t) (fun ρ => by simp [renSegs, renSg]) (fun z hz => middleNucleus1_ok N t z ht hs hz)) (by simp) (by simp [Mem.get, assoc]) rfl rfl ?_
  rintro _ _ _ ⟨rfl, rfl, rfl⟩
  simp only [absE, absL, absF, reduceCtorEq, ↓reduceIte, Nat.reduceEqDiff, Nat.reduceAdd, Nat.reduceLT, Nat.reduceMul, Nat.reduceSub, Nat.reduceLeDiff, Int.reduceLT, Int.reduceLE, Int.reduceEq, Option.isSome_some, implies_true, false_implies, Prod.mk.injEq, ne_eq, not_false_eq_true, not_true_eq_false, ge_iff_le, gt_iff_lt, Int.toNat_natCast, Int.reduceToNat, Int.cast_ofNat_Int, Int.natCast_nonneg, Try.results144]
  exact ⟨[], by simp, by simp, by simp [renV, renVs, renSegs, renSg]⟩
theorem rightNucleus2_ok (N : Nat) (t : List Int) (a x y : Nat) (ht : Bytes 100 t) (hs : SqP N t) (ha : a < N) (hx : x < N) (hy : y < N) :
    ACalls Try.prog 170 [.i .u8 x, .i .u8 y, .ref (.ptr 0 0 0 0), .ref (.ptr 0 1 0 0)] [.lv true (sqS N t), .lv true [(0, .ints .u8 1 [(a : Int)])]] (fun v ms ns => v = .b (nucG 2 t a x y) ∧ ms = [.lv true (sqS N t), .lv true [(0, .ints .u8 1 [(a : Int)])]] ∧ ns = []) := by
  refine acalls_of_body mix Try.func170 rfl fok170 (Nat.le_of_ble_eq_true rfl) ?_
  unfold abody
  simp only [absE, absL, absF, reduceCtorEq, ↓reduceIte, Nat.reduceEqDiff, Nat.reduceAdd, Nat.reduceLT, Nat.reduceMul, Nat.reduceSub, Nat.reduceLeDiff, Int.reduceLT, Int.reduceLE, Int.reduceEq, Option.isSome_some, implies_true, false_implies, Prod.mk.injEq, ne_eq, not_false_eq_true, not_true_eq_false, ge_iff_le, gt_iff_lt, Int.toNat_natCast, Int.reduceToNat, Int.cast_ofNat_Int, Int.natCast_nonneg, Try.f170]
  refine CallsVia.none (associates_ok N t x y a ht hs hx hy ha) ?_
  rintro _ _ _ ⟨rfl, rfl, rfl⟩
  simp only [absE, absL, absF, reduceCtorEq, ↓reduceIte, Nat.reduceEqDiff, Nat.reduceAdd, Nat.reduceLT, Nat.reduceMul, Nat.reduceSub, Nat.reduceLeDiff, Int.reduceLT, Int.reduceLE, Int.reduceEq, Option.isSome_some, implies_true, false_implies, Prod.mk.injEq, ne_eq, not_false_eq_true, not_true_eq_false, ge_iff_le, gt_iff_lt, Int.toNat_natCast, Int.reduceToNat, Int.cast_ofNat_Int, Int.natCast_nonneg, Try.results170]
  exact ⟨[], by simp, by simp, by simp [renV, renVs, renSegs, renSg, renBlk, nucG]⟩
theorem rightNucleus1_ok (N : Nat) (t : List Int) (a : Nat) (ht : Bytes 100 t) (hs : SqP N t) (ha : a < N) :
    ACalls Try.prog 169 [.i .u8 a, .ref (.ptr 0 0 0 0)] [.lv true (sqS N t)] (fun v ms ns => v = .b (nucB 2 N t a) ∧ ms = [.lv true (sqS N t)] ∧ ns = []) := by
  refine acalls_of_body mix Try.func169 rfl fok169 (Nat.le_of_ble_eq_true rfl) ?_
  unfold abody
  simp only [absE, absL, absF, reduceCtorEq, ↓reduceIte, Nat.reduceEqDiff, Nat.reduceAdd, Nat.reduceLT, Nat.reduceMul, Nat.reduceSub, Nat.reduceLeDiff, Int.reduceLT, Int.reduceLE, Int.reduceEq, Option.isSome_some, implies_true, false_implies, Prod.mk.injEq, ne_eq, not_false_eq_true, not_true_eq_false, ge_iff_le, gt_iff_lt, Int.toNat_natCast, Int.reduceToNat, Int.cast_ofNat_Int, Int.natCast_nonneg, Try.f169]
  refine CallsVia.args [(0, 0), (1, 0)] (forPairs2_ok N t hs.le 170 (nucG 2 t a) (sqS N t) [(0, .ints .u8 1 [(a : Int)])] (fun ρ => by simp [renSegs, renSg]) (fun ρ => by simp [renSegs, renSg]) (fun x y hx hy => rightNucleus2_ok N t a x y ht hs ha hx hy)) (by simp) (by simp [Mem.get, assoc]) rfl rfl ?_
  rintro _ _ _ ⟨rfl, rfl, rfl⟩
  simp only [absE, absL, absF, reduceCtorEq, ↓reduceIte, Nat.reduceEqDiff, Nat.reduceAdd, Nat.reduceLT, Nat.reduceMul, Nat.reduceSub, Nat.reduceLeDiff, Int.reduceLT, Int.reduceLE, Int.reduceEq, Option.isSome_some, implies_true, false_implies, Prod.mk.injEq, ne_eq, not_false_eq_true, not_true_eq_false, ge_iff_le, gt_iff_lt, Int.toNat_natCast, Int.reduceToNat, Int.cast_ofNat_Int, Int.natCast_nonneg, Try.results169]
  exact ⟨[], by simp, by simp, by simp [renV, renVs, renSegs, renSg, renBlk, nucB]⟩
theorem rightNucleus_ok (N : Nat) (t : List Int) (ht : Bytes 100 t) (hs : SqP N t) :
    ACalls Try.prog 145 [.agg (sqS N t)] [] (fun v ms ns => v = .i .i64 (setM (nucB 2 N t) N) ∧ ms = [] ∧ ns = []) := by
  refine acalls_of_body mix Try.func145 rfl fok145 (Nat.le_of_ble_eq_true rfl) ?_
  unfold abody
  simp only [absE, absL, absF, reduceCtorEq, ↓reduceIte, Nat.reduceEqDiff, Nat.reduceAdd, Nat.reduceLT, Nat.reduceMul, Nat.reduceSub, Nat.reduceLeDiff, Int.reduceLT, Int.reduceLE, Int.reduceEq, Option.isSome_some, implies_true, false_implies, Prod.mk.injEq, ne_eq, not_false_eq_true, not_true_eq_false, ge_iff_le, gt_iff_lt, Int.toNat_natCast, Int.reduceToNat, Int.cast_ofNat_Int, Int.natCast_nonneg, Try.f145]
  refine CallsVia.args [(1, 0)] (those1_ok N t hs.le 169 (nucB 2 N t) (sqS N t) (fun ρ => by simp [renSegs, renSg]) (fun z hz => rightNucleus1_ok N t z ht hs hz)) (by simp) (by simp [Mem.get, assoc]) rfl rfl ?_
  rintro _ _ _ ⟨rfl, rfl, rfl⟩
  simp only [absE, absL, absF, reduceCtorEq, ↓reduceIte, Nat.reduceEqDiff, Nat.reduceAdd, Nat.reduceLT, Nat.reduceMul, Nat.reduceSub, Nat.reduceLeDiff, Int.reduceLT, Int.reduceLE, Int.reduceEq, Option.isSome_some, implies_true, false_implies, Prod.mk.injEq, ne_eq, not_false_eq_true, not_true_eq_false, ge_iff_le, gt_iff_lt, Int.toNat_natCast, Int.reduceToNat, Int.cast_ofNat_Int, Int.natCast_nonneg, Try.results145]
  exact ⟨[], by simp, by simp, by simp [renV, renVs, renSegs, renSg]⟩
theorem setM_list {p : Nat → Bool} {N : Nat} (hN : N ≤ 10) : memL (setM p N).testBit 10 = memL p N := by
  rw [memL_more (n := N) hN fun i hi => by rw [setM_bit, decide_eq_false (by omega), Bool.false_and]]
  exact memL_congr fun i hi => by rw [setM_bit, decide_eq_true hi, Bool.true_and]
theorem setM_small {p : Nat → Bool} {N : Nat} (hN : N ≤ 10) : setM p N < 2 ^ 62 := by
  have h := setM_lt (p := p) (k := N)
  have h2 : (2 : Nat) ^ N ≤ 2 ^ 10 := Nat.pow_le_pow_right (by decide) (by omega)
  omega
/-- What a list of elements looks like when it is handed back. -/
def listV (l : List Int) : AV := .tup [.ref (.sl 1 0 0 0 l.length 1), .i .i64 0]
def listN (l : List Int) : List Blk := [.lv true [(0, .ints .i64 l.length l)]]
theorem loopSet_yes (n : Int) (t : List Int) (f : FuncId) (s : Nat) (ht : Bytes 100 t) (h : loopB n t = true) (hs : s < 2 ^ 62)
    (hf : ACalls Try.prog f [.agg (sqS n t)] [] (fun v ms ns => v = .i .i64 s ∧ ms = [] ∧ ns = [])) :
    ACalls Try.prog 55 [.agg (sqS n t), .ref (.fn f [])] [] (fun v ms ns => v = listV (memL s.testBit 10) ∧ ms = [] ∧ ns = listN (memL s.testBit 10)) := by
  refine acalls_of_body mix Try.func55 rfl fok55 (Nat.le_of_ble_eq_true rfl) ?_
  unfold abody
  simp only [absE, absL, absF, reduceCtorEq, ↓reduceIte, Nat.reduceEqDiff, Nat.reduceAdd, Nat.reduceLT, Nat.reduceMul, Nat.reduceSub, Nat.reduceLeDiff, Int.reduceLT, Int.reduceLE, Int.reduceEq, Option.isSome_some, implies_true, false_implies, Prod.mk.injEq, ne_eq, not_false_eq_true, not_true_eq_false, ge_iff_le, gt_iff_lt, Int.toNat_natCast, Int.reduceToNat, Int.cast_ofNat_Int, Int.natCast_nonneg, Try.f55]
  refine CallsVia.none (isLoop_ok n t ht) ?_
  rintro _ _ _ ⟨rfl, rfl, rfl⟩
  simp only [absE, absL, absF, reduceCtorEq, ↓reduceIte, Nat.reduceEqDiff, Nat.reduceAdd, Nat.reduceLT, Nat.reduceMul, Nat.reduceSub, Nat.reduceLeDiff, Int.reduceLT, Int.reduceLE, Int.reduceEq, Option.isSome_some, implies_true, false_implies, Prod.mk.injEq, ne_eq, not_false_eq_true, not_true_eq_false, ge_iff_le, gt_iff_lt, Int.toNat_natCast, Int.reduceToNat, Int.cast_ofNat_Int, Int.natCast_nonneg, h]
  refine CallsVia.none (hf) ?_
  rintro _ _ _ ⟨rfl, rfl, rfl⟩
  simp only [absE, absL, absF, reduceCtorEq, ↓reduceIte, Nat.reduceEqDiff, Nat.reduceAdd, Nat.reduceLT, Nat.reduceMul, Nat.reduceSub, Nat.reduceLeDiff, Int.reduceLT, Int.reduceLE, Int.reduceEq, Option.isSome_some, implies_true, false_implies, Prod.mk.injEq, ne_eq, not_false_eq_true, not_true_eq_false, ge_iff_le, gt_iff_lt, Int.toNat_natCast, Int.reduceToNat, Int.cast_ofNat_Int, Int.natCast_nonneg]
  refine CallsVia.none (setList_ok s hs) ?_
  rintro _ _ _ ⟨rfl, rfl, rfl⟩
  simp only [absE, absL, absF, reduceCtorEq, ↓reduceIte, Nat.reduceEqDiff, Nat.reduceAdd, Nat.reduceLT, Nat.reduceMul, Nat.reduceSub, Nat.reduceLeDiff, Int.reduceLT, Int.reduceLE, Int.reduceEq, Option.isSome_some, implies_true, false_implies, Prod.mk.injEq, ne_eq, not_false_eq_true, not_true_eq_false, ge_iff_le, gt_iff_lt, Int.toNat_natCast, Int.reduceToNat, Int.cast_ofNat_Int, Int.natCast_nonneg, Try.results55]
  exact ⟨[(10, 0)], by simp, by simp, by simp [renV, renVs, renAt, renFin, idx, listV], by simp, by simp [renBlk, renSegs, renSg, Mem.get, assoc, listN]⟩
theorem loopSet_no (n : Int) (t : List Int) (f : FuncId) (ht : Bytes 100 t) (h : loopB n t = false) :
    ACalls Try.prog 55 [.agg (sqS n t), .ref (.fn f [])] [] (fun v ms ns => v = .tup [.ref .nils, .i .i64 1] ∧ ms = [] ∧ ns = []) := by
  refine acalls_of_body mix Try.func55 rfl fok55 (Nat.le_of_ble_eq_true rfl) ?_
  unfold abody
  simp only [absE, absL, absF, reduceCtorEq, ↓reduceIte, Nat.reduceEqDiff, Nat.reduceAdd, Nat.reduceLT, Nat.reduceMul, Nat.reduceSub, Nat.reduceLeDiff, Int.reduceLT, Int.reduceLE, Int.reduceEq, Option.isSome_some, implies_true, false_implies, Prod.mk.injEq, ne_eq, not_false_eq_true, not_true_eq_false, ge_iff_le, gt_iff_lt, Int.toNat_natCast, Int.reduceToNat, Int.cast_ofNat_Int, Int.natCast_nonneg, Try.f55]
  refine CallsVia.none (isLoop_ok n t ht) ?_
  rintro _ _ _ ⟨rfl, rfl, rfl⟩
  simp only [absE, absL, absF, reduceCtorEq, ↓reduceIte, Nat.reduceEqDiff, Nat.reduceAdd, Nat.reduceLT, Nat.reduceMul, Nat.reduceSub, Nat.reduceLeDiff, Int.reduceLT, Int.reduceLE, Int.reduceEq, Option.isSome_some, implies_true, false_implies, Prod.mk.injEq, ne_eq, not_false_eq_true, not_true_eq_false, ge_iff_le, gt_iff_lt, Int.toNat_natCast, Int.reduceToNat, Int.cast_ofNat_Int, Int.natCast_nonneg, h, Try.results55]
  exact ⟨[], by simp, by simp, by simp [renV, renVs, renAt]⟩

theorem nucB_iff {side : Int} {N : Nat} {t : List Int} {a : Nat} : nucB side N t a = true ↔ ∀ x, x < N → ∀ y, y < N → nucG side t a x y = true := pairsB_iff
theorem regular0_ok (N : Nat) (t : List Int) (a : Nat) (ht : Bytes 100 t) (hs : SqP N t) (ha : a < N) :
    ACalls Try.prog 98 [.agg (sqS N t), .i .u8 a, .i .i64 0] [] (fun v ms ns => v = .b (nucB 0 N t a) ∧ ms = [] ∧ ns = []) := by
  have hN := hs.le
  have hl := ht.len
  refine acalls_of_body mix Try.func98 rfl fok98 (Nat.le_of_ble_eq_true rfl) ?_
  unfold abody
  simp only [absE, absL, absF, reduceCtorEq, ↓reduceIte, Nat.reduceEqDiff, Nat.reduceAdd, Nat.reduceLT, Nat.reduceMul, Nat.reduceSub, Nat.reduceLeDiff, Int.reduceLT, Int.reduceLE, Int.reduceEq, Option.isSome_some, implies_true, false_implies, Prod.mk.injEq, ne_eq, not_false_eq_true, not_true_eq_false, ge_iff_le, gt_iff_lt, Int.toNat_natCast, Int.reduceToNat, Int.cast_ofNat_Int, Int.natCast_nonneg, Try.f98]
  refine awpLoop.intro (fun x : Nat => [(1, .i .u8 a), (2, .i .i64 0), (3, .ref (.ptr 1 0 0 0)), (7, .ref (.ptr 5 0 0 0)), (8, .i .i64 x)]) (fun x => ⟨[], [((1, 0), .lv true (sqS N t)), ((5, 0), .lv true (tbS t))], 8⟩)
    (fun x => x ≤ N ∧ ∀ j, j < x → ∀ y, y < N → nucG 0 t a j y = true) (fun x => N - x) 0 ⟨by omega, fun j hj => absurd hj (by omega)⟩ ⟨[((1,0),(1,0)), ((5,0),(5,0))], rfl, ?_, ?_⟩ ?_
  · simp [wkEnv, lk, renV, renAt, renTo, List.take_of_length_le, hl]
  · simp [wkMem, wkLoc, Mem.get, assoc, renBlk, renSegs, renSg, renTo, List.take_of_length_le, hl]
  · rintro x ⟨hx, hp⟩
    by_cases h : (x : Int) < N
    · have w := wrap_i64s (show x < 2 ^ 62 by omega)
      simp only [absE, absL, absF, reduceCtorEq, ↓reduceIte, Nat.reduceEqDiff, Nat.reduceAdd, Nat.reduceLT, Nat.reduceMul, Nat.reduceSub, Nat.reduceLeDiff, Int.reduceLT, Int.reduceLE, Int.reduceEq, Option.isSome_some, implies_true, false_implies, Prod.mk.injEq, ne_eq, not_false_eq_true, not_true_eq_false, ge_iff_le, gt_iff_lt, Int.toNat_natCast, Int.reduceToNat, Int.cast_ofNat_Int, Int.natCast_nonneg, h]
      refine awpLoop.intro (fun y : Nat => [(1, .i .u8 a), (2, .i .i64 0), (3, .ref (.ptr 1 0 0 0)), (7, .ref (.ptr 5 0 0 0)), (8, .i .i64 x), (9, .i .i64 y)]) (fun y => ⟨[], [((1, 0), .lv true (sqS N t)), ((5, 0), .lv true (tbS t))], 13⟩)
        (fun y => y ≤ N ∧ ∀ j, j < y → nucG 0 t a x j = true) (fun y => N - y) 0 ⟨by omega, fun j hj => absurd hj (by omega)⟩ ⟨[((1,0),(1,0)), ((5,0),(5,0))], rfl, ?_, ?_⟩ ?_
      · simp [wkEnv, lk, renV, renAt, renTo]
      · simp [wkMem, wkLoc, Mem.get, assoc, renBlk, renSegs, renSg, renTo]
      · rintro y ⟨hy, hq⟩
        by_cases h' : (y : Int) < N
        · have w' := wrap_i64s (show y < 2 ^ 62 by omega)
          have j1 := hs.cl_lt (show a < N by omega) (show x < N by omega)
          have j2 := hs.cl_lt (show x < N by omega) (show y < N by omega)
          have i1 : (x : Int) < 10 := by omega
          have i2 : (y : Int) < 10 := by omega
          have i3 : (a : Int) < 10 := by omega
          have i4 : (cl t a x : Int) < 10 := by omega
          have i5 : (cl t x y : Int) < 10 := by omega
          have u1 : 0 + a * 10 + x * 1 < 100 := by omega
          have u2 : 0 + x * 10 + y * 1 < 100 := by omega
          have u3 : 0 + cl t a x * 10 + y * 1 < 100 := by omega
          have u4 : 0 + a * 10 + cl t x y * 1 < 100 := by omega
          have k1 := sq_colget ht a x
          have k2 := sq_colget ht x y
          have k3 := sq_colget ht (cl t a x) y
          have k4 := sq_colget ht a (cl t x y)
          by_cases hc : cl t (cl t a x) y = cl t a (cl t x y)
          · have g : (cl t (cl t a x) y : Int) = cl t a (cl t x y) := by omega
            simp only [absE, absL, absF, reduceCtorEq, ↓reduceIte, Nat.reduceEqDiff, Nat.reduceAdd, Nat.reduceLT, Nat.reduceMul, Nat.reduceSub, Nat.reduceLeDiff, Int.reduceLT, Int.reduceLE, Int.reduceEq, Option.isSome_some, implies_true, false_implies, Prod.mk.injEq, ne_eq, not_false_eq_true, not_true_eq_false, ge_iff_le, gt_iff_lt, Int.toNat_natCast, Int.reduceToNat, Int.cast_ofNat_Int, Int.natCast_nonneg, h', i1, i2, i3, i4, i5, u1, u2, u3, u4, k1, k2, k3, k4, g]
            refine LoopNext.intro (y + 1) ⟨by omega, fun j hj => ?_⟩ (by omega) ⟨[((1,0),(1,0)), ((5,0),(5,0))], rfl, ?_, ?_⟩
            · by_cases ej : j = y
              · subst ej; exact assoc3_true hc
              · exact hq j (by omega)
            · simp [wkEnv, lk, renV, renAt, renTo, w']
            · simp [wkMem, wkLoc, Mem.get, assoc, renBlk, renSegs, renSg, renTo, w']
          · have g : ¬(cl t (cl t a x) y : Int) = cl t a (cl t x y) := by omega
            simp only [absE, absL, absF, reduceCtorEq, ↓reduceIte, Nat.reduceEqDiff, Nat.reduceAdd, Nat.reduceLT, Nat.reduceMul, Nat.reduceSub, Nat.reduceLeDiff, Int.reduceLT, Int.reduceLE, Int.reduceEq, Option.isSome_some, implies_true, false_implies, Prod.mk.injEq, ne_eq, not_false_eq_true, not_true_eq_false, ge_iff_le, gt_iff_lt, Int.toNat_natCast, Int.reduceToNat, Int.cast_ofNat_Int, Int.natCast_nonneg, h', i1, i2, i3, i4, i5, u1, u2, u3, u4, k1, k2, k3, k4, g, Try.results98]
            exact fin_false (pairsB_false fun hu => by
              have h1 : assoc3 t a x y = true := hu x (by omega) y (by omega)
              rw [assoc3_false hc] at h1; cases h1)
        · simp only [absE, absL, absF, reduceCtorEq, ↓reduceIte, Nat.reduceEqDiff, Nat.reduceAdd, Nat.reduceLT, Nat.reduceMul, Nat.reduceSub, Nat.reduceLeDiff, Int.reduceLT, Int.reduceLE, Int.reduceEq, Option.isSome_some, implies_true, false_implies, Prod.mk.injEq, ne_eq, not_false_eq_true, not_true_eq_false, ge_iff_le, gt_iff_lt, Int.toNat_natCast, Int.reduceToNat, Int.cast_ofNat_Int, Int.natCast_nonneg, h', w]
          refine LoopNext.intro (x + 1) ⟨by omega, fun j hj => ?_⟩ (by omega) ⟨[((1,0),(1,0)), ((5,0),(5,0))], rfl, ?_, ?_⟩
          · by_cases ej : j = x
            · subst ej; exact fun y hy' => hq y (by omega)
            · exact hp j (by omega)
          · simp [wkEnv, lk, renV, renAt, renTo]
          · simp [wkMem, wkLoc, Mem.get, assoc, renBlk, renSegs, renSg, renTo]
    · simp only [absE, absL, absF, reduceCtorEq, ↓reduceIte, Nat.reduceEqDiff, Nat.reduceAdd, Nat.reduceLT, Nat.reduceMul, Nat.reduceSub, Nat.reduceLeDiff, Int.reduceLT, Int.reduceLE, Int.reduceEq, Option.isSome_some, implies_true, false_implies, Prod.mk.injEq, ne_eq, not_false_eq_true, not_true_eq_false, ge_iff_le, gt_iff_lt, Int.toNat_natCast, Int.reduceToNat, Int.cast_ofNat_Int, Int.natCast_nonneg, h, Try.results98]
      exact fin_true (pairsB_true fun j hj => hp j (by omega))
theorem regular1_ok (N : Nat) (t : List Int) (a : Nat) (ht : Bytes 100 t) (hs : SqP N t) (ha : a < N) :
    ACalls Try.prog 98 [.agg (sqS N t), .i .u8 a, .i .i64 1] [] (fun v ms ns => v = .b (nucB 1 N t a) ∧ ms = [] ∧ ns = []) := by
  have hN := hs.le
  have hl := ht.len
  refine acalls_of_body mix Try.func98 rfl fok98 (Nat.le_of_ble_eq_true rfl) ?_
  unfold abody
  simp only [absE, absL, absF, reduceCtorEq, ↓reduceIte, Nat.reduceEqDiff, Nat.reduceAdd, Nat.reduceLT, Nat.reduceMul, Nat.reduceSub, Nat.reduceLeDiff, Int.reduceLT, Int.reduceLE, Int.reduceEq, Option.isSome_some, implies_true, false_implies, Prod.mk.injEq, ne_eq, not_false_eq_true, not_true_eq_false, ge_iff_le, gt_iff_lt, Int.toNat_natCast, Int.reduceToNat, Int.cast_ofNat_Int, Int.natCast_nonneg, Try.f98]
  refine awpLoop.intro (fun x : Nat => [(1, .i .u8 a), (2, .i .i64 1), (3, .ref (.ptr 1 0 0 0)), (7, .ref (.ptr 5 0 0 0)), (8, .i .i64 x)]) (fun x => ⟨[], [((1, 0), .lv true (sqS N t)), ((5, 0), .lv true (tbS t))], 8⟩)
    (fun x => x ≤ N ∧ ∀ j, j < x → ∀ y, y < N → nucG 1 t a j y = true) (fun x => N - x) 0 ⟨by omega, fun j hj => absurd hj (by omega)⟩ ⟨[((1,0),(1,0)), ((5,0),(5,0))], rfl, ?_, ?_⟩ ?_
  · simp [wkEnv, lk, renV, renAt, renTo, List.take_of_length_le, hl]
  · simp [wkMem, wkLoc, Mem.get, assoc, renBlk, renSegs, renSg, renTo, List.take_of_length_le, hl]
  · rintro x ⟨hx, hp⟩
    by_cases h : (x : Int) < N
    · have w := wrap_i64s (show x < 2 ^ 62 by omega)
      simp only [absE, absL, absF, reduceCtorEq, ↓reduceIte, Nat.reduceEqDiff, Nat.reduceAdd, Nat.reduceLT, Nat.reduceMul, Nat.reduceSub, Nat.reduceLeDiff, Int.reduceLT, Int.reduceLE, Int.reduceEq, Option.isSome_some, implies_true, false_implies, Prod.mk.injEq, ne_eq, not_false_eq_true, not_true_eq_false, ge_iff_le, gt_iff_lt, Int.toNat_natCast, Int.reduceToNat, Int.cast_ofNat_Int, Int.natCast_nonneg, h]
      refine awpLoop.intro (fun y : Nat => [(1, .i .u8 a), (2, .i .i64 1), (3, .ref (.ptr 1 0 0 0)), (7, .ref (.ptr 5 0 0 0)), (8, .i .i64 x), (9, .i .i64 y)]) (fun y => ⟨[], [((1, 0), .lv true (sqS N t)), ((5, 0), .lv true (tbS t))], 13⟩)
        (fun y => y ≤ N ∧ ∀ j, j < y → nucG 1 t a x j = true) (fun y => N - y) 0 ⟨by omega, fun j hj => absurd hj (by omega)⟩ ⟨[((1,0),(1,0)), ((5,0),(5,0))], rfl, ?_, ?_⟩ ?_
      · simp [wkEnv, lk, renV, renAt, renTo]
      · simp [wkMem, wkLoc, Mem.get, assoc, renBlk, renSegs, renSg, renTo]
      · rintro y ⟨hy, hq⟩
        by_cases h' : (y : Int) < N
        · have w' := wrap_i64s (show y < 2 ^ 62 by omega)
          have j1 := hs.cl_lt (show x < N by omega) (show a < N by omega)
          have j2 := hs.cl_lt (show a < N by omega) (show y < N by omega)
          have i1 : (x : Int) < 10 := by omega
          have i2 : (y : Int) < 10 := by omega
          have i3 : (a : Int) < 10 := by omega
          have i4 : (cl t x a : Int) < 10 := by omega
          have i5 : (cl t a y : Int) < 10 := by omega
          have u1 : 0 + x * 10 + a * 1 < 100 := by omega
          have u2 : 0 + a * 10 + y * 1 < 100 := by omega
          have u3 : 0 + cl t x a * 10 + y * 1 < 100 := by omega
          have u4 : 0 + x * 10 + cl t a y * 1 < 100 := by omega
          have k1 := sq_colget ht x a
          have k2 := sq_colget ht a y
          have k3 := sq_colget ht (cl t x a) y
          have k4 := sq_colget ht x (cl t a y)
          by_cases hc : cl t (cl t x a) y = cl t x (cl t a y)
          · have g : (cl t (cl t x a) y : Int) = cl t x (cl t a y) := by omega
            simp only [absE, absL, absF, reduceCtorEq, ↓reduceIte, Nat.reduceEqDiff, Nat.reduceAdd, Nat.reduceLT, Nat.reduceMul, Nat.reduceSub, Nat.reduceLeDiff, Int.reduceLT, Int.reduceLE, Int.reduceEq, Option.isSome_some, implies_true, false_implies, Prod.mk.injEq, ne_eq, not_false_eq_true, not_true_eq_false, ge_iff_le, gt_iff_lt, Int.toNat_natCast, Int.reduceToNat, Int.cast_ofNat_Int, Int.natCast_nonneg, h', i1, i2, i3, i4, i5, u1, u2, u3, u4, k1, k2, k3, k4, g]
            refine LoopNext.intro (y + 1) ⟨by omega, fun j hj => ?_⟩ (by omega) ⟨[((1,0),(1,0)), ((5,0),(5,0))], rfl, ?_, ?_⟩
            · by_cases ej : j = y
              · subst ej; exact assoc3_true hc
              · exact hq j (by omega)
            · simp [wkEnv, lk, renV, renAt, renTo, w']
            · simp [wkMem, wkLoc, Mem.get, assoc, renBlk, renSegs, renSg, renTo, w']
          · have g : ¬(cl t (cl t x a) y : Int) = cl t x (cl t a y) := by omega
            simp only [absE, absL, absF, reduceCtorEq, ↓reduceIte, Nat.reduceEqDiff, Nat.reduceAdd, Nat.reduceLT, Nat.reduceMul, Nat.reduceSub, Nat.reduceLeDiff, Int.reduceLT, Int.reduceLE, Int.reduceEq, Option.isSome_some, implies_true, false_implies, Prod.mk.injEq, ne_eq, not_false_eq_true, not_true_eq_false, ge_iff_le, gt_iff_lt, Int.toNat_natCast, Int.reduceToNat, Int.cast_ofNat_Int, Int.natCast_nonneg, h', i1, i2, i3, i4, i5, u1, u2, u3, u4, k1, k2, k3, k4, g, Try.results98]
            exact fin_false (pairsB_false fun hu => by
              have h1 : assoc3 t x a y = true := hu x (by omega) y (by omega)
              rw [assoc3_false hc] at h1; cases h1)
        · simp only [absE, absL, absF, reduceCtorEq, ↓reduceIte, Nat.reduceEqDiff, Nat.reduceAdd, Nat.reduceLT, Nat.reduceMul, Nat.reduceSub, Nat.reduceLeDiff, Int.reduceLT, Int.reduceLE, Int.reduceEq, Option.isSome_some, implies_true, false_implies, Prod.mk.injEq, ne_eq, not_false_eq_true, not_true_eq_false, ge_iff_le, gt_iff_lt, Int.toNat_natCast, Int.reduceToNat, Int.cast_ofNat_Int, Int.natCast_nonneg, h', w]
          refine LoopNext.intro (x + 1) ⟨by omega, fun j hj => ?_⟩ (by omega) ⟨[((1,0),(1,0)), ((5,0),(5,0))], rfl, ?_, ?_⟩
          · by_cases ej : j = x
            · subst ej; exact fun y hy' => hq y (by omega)
            · exact hp j (by omega)
          · simp [wkEnv, lk, renV, renAt, renTo]
          · simp [wkMem, wkLoc, Mem.get, assoc, renBlk, renSegs, renSg, renTo]
    · simp only [absE, absL, absF, reduceCtorEq, ↓reduceIte, Nat.reduceEqDiff, Nat.reduceAdd, Nat.reduceLT, Nat.reduceMul, Nat.reduceSub, Nat.reduceLeDiff, Int.reduceLT, Int.reduceLE, Int.reduceEq, Option.isSome_some, implies_true, false_implies, Prod.mk.injEq, ne_eq, not_false_eq_true, not_true_eq_false, ge_iff_le, gt_iff_lt, Int.toNat_natCast, Int.reduceToNat, Int.cast_ofNat_Int, Int.natCast_nonneg, h, Try.results98]
      exact fin_true (pairsB_true fun j hj => hp j (by omega))
theorem regular2_ok (N : Nat) (t : List Int) (a : Nat) (ht : Bytes 100 t) (hs : SqP N t) (ha : a < N) :
    ACalls Try.prog 98 [.agg (sqS N t), .i .u8 a, .i .i64 2] [] (fun v ms ns => v = .b (nucB 2 N t a) ∧ ms = [] ∧ ns = []) := by
  have hN := hs.le
  have hl := ht.len
  refine acalls_of_body mix Try.func98 rfl fok98 (Nat.le_of_ble_eq_true rfl) ?_
  unfold abody
  simp only [absE, absL, absF, reduceCtorEq, ↓reduceIte, Nat.reduceEqDiff, Nat.reduceAdd, Nat.reduceLT, Nat.reduceMul, Nat.reduceSub, Nat.reduceLeDiff, Int.reduceLT, Int.reduceLE, Int.reduceEq, Option.isSome_some, implies_true, false_implies, Prod.mk.injEq, ne_eq, not_false_eq_true, not_true_eq_false, ge_iff_le, gt_iff_lt, Int.toNat_natCast, Int.reduceToNat, Int.cast_ofNat_Int, Int.natCast_nonneg, Try.f98]
  refine awpLoop.intro (fun x : Nat => [(1, .i .u8 a), (2, .i .i64 2), (3, .ref (.ptr 1 0 0 0)), (7, .ref (.ptr 5 0 0 0)), (8, .i .i64 x)]) (fun x => ⟨[], [((1, 0), .lv true (sqS N t)), ((5, 0), .lv true (tbS t))], 8⟩)
    (fun x => x ≤ N ∧ ∀ j, j < x → ∀ y, y < N → nucG 2 t a j y = true) (fun x => N - x) 0 ⟨by omega, fun j hj => absurd hj (by omega)⟩ ⟨[((1,0),(1,0)), ((5,0),(5,0))], rfl, ?_, ?_⟩ ?_
  · simp [wkEnv, lk, renV, renAt, renTo, List.take_of_length_le, hl]
  · simp [wkMem, wkLoc, Mem.get, assoc, renBlk, renSegs, renSg, renTo, List.take_of_length_le, hl]
  · rintro x ⟨hx, hp⟩
    by_cases h : (x : Int) < N
    · have w := wrap_i64s (show x < 2 ^ 62 by omega)
      simp only [absE, absL, absF, reduceCtorEq, ↓reduceIte, Nat.reduceEqDiff, Nat.reduceAdd, Nat.reduceLT, Nat.reduceMul, Nat.reduceSub, Nat.reduceLeDiff, Int.reduceLT, Int.reduceLE, Int.reduceEq, Option.isSome_some, implies_true, false_implies, Prod.mk.injEq, ne_eq, not_false_eq_true, not_true_eq_false, ge_iff_le, gt_iff_lt, Int.toNat_natCast, Int.reduceToNat, Int.cast_ofNat_Int, Int.natCast_nonneg, h]
      refine awpLoop.intro (fun y : Nat => [(1, .i .u8 a), (2, .i .i64 2), (3, .ref (.ptr 1 0 0 0)), (7, .ref (.ptr 5 0 0 0)), (8, .i .i64 x), (9, .i .i64 y)]) (fun y => ⟨[], [((1, 0), .lv true (sqS N t)), ((5, 0), .lv true (tbS t))], 13⟩)
        (fun y => y ≤ N ∧ ∀ j, j < y → nucG 2 t a x j = true) (fun y => N - y) 0 ⟨by omega, fun j hj => absurd hj (by omega)⟩ ⟨[((1,0),(1,0)), ((5,0),(5,0))], rfl, ?_, ?_⟩ ?_
      · simp [wkEnv, lk, renV, renAt, renTo]
      · simp [wkMem, wkLoc, Mem.get, assoc, renBlk, renSegs, renSg, renTo]
      · rintro y ⟨hy, hq⟩
        by_cases h' : (y : Int) < N
        · have w' := wrap_i64s (show y < 2 ^ 62 by omega)
          have j1 := hs.cl_lt (show x < N by omega) (show y < N by omega)
          have j2 := hs.cl_lt (show y < N by omega) (show a < N by omega)
          have i1 : (x : Int) < 10 := by omega
          have i2 : (y : Int) < 10 := by omega
          have i3 : (a : Int) < 10 := by omega
          have i4 : (cl t x y : Int) < 10 := by omega
          have i5 : (cl t y a : Int) < 10 := by omega
          have u1 : 0 + x * 10 + y * 1 < 100 := by omega
          have u2 : 0 + y * 10 + a * 1 < 100 := by omega
          have u3 : 0 + cl t x y * 10 + a * 1 < 100 := by omega
          have u4 : 0 + x * 10 + cl t y a * 1 < 100 := by omega
          have k1 := sq_colget ht x y
          have k2 := sq_colget ht y a
          have k3 := sq_colget ht (cl t x y) a
          have k4 := sq_colget ht x (cl t y a)
          by_cases hc : cl t (cl t x y) a = cl t x (cl t y a)
          · have g : (cl t (cl t x y) a : Int) = cl t x (cl t y a) := by omega
            simp only [absE, absL, absF, reduceCtorEq, ↓reduceIte, Nat.reduceEqDiff, Nat.reduceAdd, Nat.reduceLT, Nat.reduceMul, Nat.reduceSub, Nat.reduceLeDiff, Int.reduceLT, Int.reduceLE, Int.reduceEq, Option.isSome_some, implies_true, false_implies, Prod.mk.injEq, ne_eq, not_false_eq_true, not_true_eq_false, ge_iff_le, gt_iff_lt, Int.toNat_natCast, Int.reduceToNat, Int.cast_ofNat_Int, Int.natCast_nonneg, h', i1, i2, i3, i4, i5, u1, u2, u3, u4, k1, k2, k3, k4, g]
            refine LoopNext.intro (y + 1) ⟨by omega, fun j hj => ?_⟩ (by omega) ⟨[((1,0),(1,0)), ((5,0),(5,0))], rfl, ?_, ?_⟩
            · by_cases ej : j = y
              · subst ej; exact assoc3_true hc
              · exact hq j (by omega)
            · simp [wkEnv, lk, renV, renAt, renTo, w']
            · simp [wkMem, wkLoc, Mem.get, assoc, renBlk, renSegs, renSg, renTo, w']
          · have g : ¬(cl t (cl t x y) a : Int) = cl t x (cl t y a) := by omega
            simp only [absE, absL, absF, reduceCtorEq, ↓reduceIte, Nat.reduceEqDiff, Nat.reduceAdd, Nat.reduceLT, Nat.reduceMul, Nat.reduceSub, Nat.reduceLeDiff, Int.reduceLT, Int.reduceLE, Int.reduceEq, Option.isSome_some, implies_true, false_implies, Prod.mk.injEq, ne_eq, not_false_eq_true, not_true_eq_false, ge_iff_le, gt_iff_lt, Int.toNat_natCast, Int.reduceToNat, Int.cast_ofNat_Int, Int.natCast_nonneg, h', i1, i2, i3, i4, i5, u1, u2, u3, u4, k1, k2, k3, k4, g, Try.results98]
            exact fin_false (pairsB_false fun hu => by
              have h1 : assoc3 t x y a = true := hu x (by omega) y (by omega)
              rw [assoc3_false hc] at h1; cases h1)
        · simp only [absE, absL, absF, reduceCtorEq, ↓reduceIte, Nat.reduceEqDiff, Nat.reduceAdd, Nat.reduceLT, Nat.reduceMul, Nat.reduceSub, Nat.reduceLeDiff, Int.reduceLT, Int.reduceLE, Int.reduceEq, Option.isSome_some, implies_true, false_implies, Prod.mk.injEq, ne_eq, not_false_eq_true, not_true_eq_false, ge_iff_le, gt_iff_lt, Int.toNat_natCast, Int.reduceToNat, Int.cast_ofNat_Int, Int.natCast_nonneg, h', w]
          refine LoopNext.intro (x + 1) ⟨by omega, fun j hj => ?_⟩ (by omega) ⟨[((1,0),(1,0)), ((5,0),(5,0))], rfl, ?_, ?_⟩
          · by_cases ej : j = x
            · subst ej; exact fun y hy' => hq y (by omega)
            · exact hp j (by omega)
          · simp [wkEnv, lk, renV, renAt, renTo]
          · simp [wkMem, wkLoc, Mem.get, assoc, renBlk, renSegs, renSg, renTo]
    · simp only [absE, absL, absF, reduceCtorEq, ↓reduceIte, Nat.reduceEqDiff, Nat.reduceAdd, Nat.reduceLT, Nat.reduceMul, Nat.reduceSub, Nat.reduceLeDiff, Int.reduceLT, Int.reduceLE, Int.reduceEq, Option.isSome_some, implies_true, false_implies, Prod.mk.injEq, ne_eq, not_false_eq_true, not_true_eq_false, ge_iff_le, gt_iff_lt, Int.toNat_natCast, Int.reduceToNat, Int.cast_ofNat_Int, Int.natCast_nonneg, h, Try.results98]
      exact fin_true (pairsB_true fun j hj => hp j (by omega))
theorem nucList_len {n : Int} {t : List Int} (h : loopB n t = true) {p : Nat → Bool} : (memL p n.toNat).length < 2 ^ 40 := by
  simp only [loopB, Bool.and_eq_true] at h
  have := (sqB_iff.1 h.1).2.1
  have := memL_len (p := p) (k := n.toNat)
  omega

end Go.Proofs.Ytgcfkdgdlllgjaa
