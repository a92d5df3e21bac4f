/-
Contracts of functions of the given program, by the abstract walk.
-/
import Derived.Test.YtopkdpgbjpjgjaaAbsW
import Derived.Test.YtopkdpgbjpjgjaaDh
import Derived.Test.YtopkdpgbjpjgjaaDq
import Derived.Test.YtopkdpgbjpjgjaaCe
namespace Go.Proofs.Ytopkdpgbjpjgjaa
open Go Go.Abs
set_option linter.unusedVariables false
set_option linter.unusedSectionVars false
set_option linter.unusedSimpArgs false
set_option maxRecDepth 100000
def cycG (N : Nat) (x y : Nat) : Nat := (x + y) % N
theorem implCyclic1_ok (N x y : Nat) (h1 : 1 ≤ N) (hN : N ≤ 10) (hx : x < N) (hy : y < N) :
    ACalls Try.prog 105 [.i .u8 x, .i .u8 y, .ref (.ptr 0 0 0 0)] [.lv true [(0, .ints .i64 1 [(N : Int)])]] (fun v ms ns => v = .i .u8 (cycG N x y) ∧ ms = [.lv true [(0, .ints .i64 1 [(N : Int)])]] ∧ ns = []) := by
  have w1 : IntKind.u8.wrap ((x : Int) + y) = ((x + y : Nat) : Int) := by rw [← Int.natCast_add]; exact wrap_u8n (by omega)
  have w2 := wrap_u8n (show N < 256 by omega)
  have m1 : Int.tmod ((x + y : Nat) : Int) N = (cycG N x y : Int) := rfl
  have n0 : ¬ (N : Int) = 0 := by omega
  refine acalls_of_body mix Try.func105 rfl fok105 (Nat.le_of_ble_eq_true rfl) ?_
  unfold abody
  simp only [absE, absL, absF, reduceCtorEq, ↓reduceIte, Nat.reduceEqDiff, Nat.reduceAdd, Nat.reduceLT, Nat.reduceMul, Nat.reduceSub, Nat.reduceLeDiff, Int.reduceLT, Int.reduceLE, Int.reduceEq, Option.isSome_some, implies_true, false_implies, Prod.mk.injEq, ne_eq, not_false_eq_true, not_true_eq_false, ge_iff_le, gt_iff_lt, Int.toNat_natCast, Int.reduceToNat, Int.cast_ofNat_Int, Int.natCast_nonneg, w1, w2, m1, n0, Try.f105, Try.results105]
  exact ⟨[], by simp, by simp, by simp [renV, renVs, renSegs, renSg, renBlk]⟩
theorem implCyclic_ok (N : Nat) (h1 : 1 ≤ N) (hN : N ≤ 10) : ACalls Try.prog 54 [.i .i64 N] [] (fun v ms ns => v = .agg (sqS N (mkT (cycG N) N N)) ∧ ms = [] ∧ ns = []) := by
  refine acalls_of_body mix Try.func54 rfl fok54 (Nat.le_of_ble_eq_true rfl) ?_
  unfold abody
  simp only [absE, absL, absF, reduceCtorEq, ↓reduceIte, Nat.reduceEqDiff, Nat.reduceAdd, Nat.reduceLT, Nat.reduceMul, Nat.reduceSub, Nat.reduceLeDiff, Int.reduceLT, Int.reduceLE, Int.reduceEq, Option.isSome_some, implies_true, false_implies, Prod.mk.injEq, ne_eq, not_false_eq_true, not_true_eq_false, ge_iff_le, gt_iff_lt, Int.toNat_natCast, Int.reduceToNat, Int.cast_ofNat_Int, Int.natCast_nonneg, Try.f54]
  refine CallsVia.args [(1, 0)] (made1_ok N hN 105 (cycG N) [(0, .ints .i64 1 [(N : Int)])] (fun ρ => by simp [renSegs, renSg]) (fun x y hx hy => implCyclic1_ok N x y h1 hN hx hy)) (by simp) (by simp [Mem.get, assoc]) rfl rfl ?_
  rintro _ _ _ ⟨rfl, rfl, rfl⟩
  simp only [absE, absL, absF, reduceCtorEq, ↓reduceIte, Nat.reduceEqDiff, Nat.reduceAdd, Nat.reduceLT, Nat.reduceMul, Nat.reduceSub, Nat.reduceLeDiff, Int.reduceLT, Int.reduceLE, Int.reduceEq, Option.isSome_some, implies_true, false_implies, Prod.mk.injEq, ne_eq, not_false_eq_true, not_true_eq_false, ge_iff_le, gt_iff_lt, Int.toNat_natCast, Int.reduceToNat, Int.cast_ofNat_Int, Int.natCast_nonneg, Try.results54]
  exact ⟨[], by simp, by simp, by simp [renV, renVs, renSegs, renSg]⟩
theorem specCyclic_ok (N : Nat) (h1 : 1 ≤ N) (hN : N ≤ 10) : ACalls Try.prog 104 [.i .i64 N] [] (fun v ms ns => v = .agg (sqS N (mkT (cycG N) N N)) ∧ ms = [] ∧ ns = []) := by
  have n0 : ¬ (N : Int) = 0 := by omega
  refine acalls_of_body mix Try.func104 rfl fok104 (Nat.le_of_ble_eq_true rfl) ?_
  unfold abody
  simp only [absE, absL, absF, reduceCtorEq, ↓reduceIte, Nat.reduceEqDiff, Nat.reduceAdd, Nat.reduceLT, Nat.reduceMul, Nat.reduceSub, Nat.reduceLeDiff, Int.reduceLT, Int.reduceLE, Int.reduceEq, Option.isSome_some, implies_true, false_implies, Prod.mk.injEq, ne_eq, not_false_eq_true, not_true_eq_false, ge_iff_le, gt_iff_lt, Int.toNat_natCast, Int.reduceToNat, Int.cast_ofNat_Int, Int.natCast_nonneg, Try.f104]
  refine awpLoop.intro (fun x : Nat => [(0, .i .i64 N), (2, .ref (.ptr 1 0 0 0)), (3, .ref (.ptr 4 0 0 0)), (4, .i .i64 x)]) (fun x => ⟨[], [((1, 0), .lv true (sqS 0 (List.replicate 100 0))), ((4, 0), .lv true (sqS N (mkT (cycG N) N x)))], 7⟩)
    (fun x => x ≤ N) (fun x => N - x) 0 (by omega) ⟨[((1,0),(1,0)), ((4,0),(4,0))], rfl, ?_, ?_⟩ ?_
  · simp [wkEnv, lk, renV, renAt, renTo, mkT]
  · simp [wkMem, wkLoc, Mem.get, assoc, renBlk, renSegs, renSg, renTo, mkT]
  · intro x hx
    by_cases h : (x : Int) < N
    · have w := wrap_i64s (show x < 2 ^ 62 by omega)
      simp only [absE, absL, absF, reduceCtorEq, ↓reduceIte, Nat.reduceEqDiff, Nat.reduceAdd, Nat.reduceLT, Nat.reduceMul, Nat.reduceSub, Nat.reduceLeDiff, Int.reduceLT, Int.reduceLE, Int.reduceEq, Option.isSome_some, implies_true, false_implies, Prod.mk.injEq, ne_eq, not_false_eq_true, not_true_eq_false, ge_iff_le, gt_iff_lt, Int.toNat_natCast, Int.reduceToNat, Int.cast_ofNat_Int, Int.natCast_nonneg, h]
      refine awpLoop.intro (fun y : Nat => [(0, .i .i64 N), (2, .ref (.ptr 1 0 0 0)), (3, .ref (.ptr 4 0 0 0)), (4, .i .i64 x), (5, .i .i64 y)]) (fun y => ⟨[], [((1, 0), .lv true (sqS 0 (List.replicate 100 0))), ((4, 0), .lv true (sqS N (mkIn (cycG N) x (mkT (cycG N) N x) y)))], 11⟩)
        (fun y => y ≤ N) (fun y => N - y) 0 (by omega) ⟨[((1,0),(1,0)), ((4,0),(4,0))], rfl, ?_, ?_⟩ ?_
      · simp [wkEnv, lk, renV, renAt, renTo, mkIn]
      · simp [wkMem, wkLoc, Mem.get, assoc, renBlk, renSegs, renSg, renTo, mkIn]
      · intro y hy
        by_cases h' : (y : Int) < N
        · have w' := wrap_i64s (show y < 2 ^ 62 by omega)
          have w1 : IntKind.i64.wrap ((x : Int) + y) = ((x + y : Nat) : Int) := by rw [← Int.natCast_add]; exact wrap_i64n (by omega)
          have m1 : Int.tmod ((x + y : Nat) : Int) N = (cycG N x y : Int) := rfl
          have m2 : cycG N x y < N := Nat.mod_lt _ (by omega)
          have w2 := wrap_u8n (show cycG N x y < 256 by omega)
          have i1 : (x : Int) < 10 := by omega
          have i2 : (y : Int) < 10 := by omega
          have u2 : 0 + x * 10 + y * 1 + 1 ≤ 100 := by omega
          simp only [absE, absL, absF, reduceCtorEq, ↓reduceIte, Nat.reduceEqDiff, Nat.reduceAdd, Nat.reduceLT, Nat.reduceMul, Nat.reduceSub, Nat.reduceLeDiff, Int.reduceLT, Int.reduceLE, Int.reduceEq, Option.isSome_some, implies_true, false_implies, Prod.mk.injEq, ne_eq, not_false_eq_true, not_true_eq_false, ge_iff_le, gt_iff_lt, Int.toNat_natCast, Int.reduceToNat, Int.cast_ofNat_Int, Int.natCast_nonneg, h', w1, m1, w2, n0, i1, i2, u2]
          repeat refine ⟨by decide +kernel, ?_⟩
          refine LoopNext.intro (y + 1) (by omega) (by omega) ⟨[((1,0),(1,0)), ((4,0),(4,0))], rfl, ?_, ?_⟩
          · simp [wkEnv, lk, renV, renAt, renTo, w', mkIn]
          · simp [wkMem, wkLoc, Mem.get, assoc, renBlk, renSegs, renSg, renTo, w', mkIn]
        · have hyN : y = N := by omega
          subst hyN
          simp only [absE, absL, absF, reduceCtorEq, ↓reduceIte, Nat.reduceEqDiff, Nat.reduceAdd, Nat.reduceLT, Nat.reduceMul, Nat.reduceSub, Nat.reduceLeDiff, Int.reduceLT, Int.reduceLE, Int.reduceEq, Option.isSome_some, implies_true, false_implies, Prod.mk.injEq, ne_eq, not_false_eq_true, not_true_eq_false, ge_iff_le, gt_iff_lt, Int.toNat_natCast, Int.reduceToNat, Int.cast_ofNat_Int, Int.natCast_nonneg, h', w]
          refine LoopNext.intro (x + 1) (by omega) (by omega) ⟨[((1,0),(1,0)), ((4,0),(4,0))], rfl, ?_, ?_⟩
          · simp [wkEnv, lk, renV, renAt, renTo, mkT]
          · simp [wkMem, wkLoc, Mem.get, assoc, renBlk, renSegs, renSg, renTo, mkT]
    · have hxN : x = N := by omega
      subst hxN
      simp only [absE, absL, absF, reduceCtorEq, ↓reduceIte, Nat.reduceEqDiff, Nat.reduceAdd, Nat.reduceLT, Nat.reduceMul, Nat.reduceSub, Nat.reduceLeDiff, Int.reduceLT, Int.reduceLE, Int.reduceEq, Option.isSome_some, implies_true, false_implies, Prod.mk.injEq, ne_eq, not_false_eq_true, not_true_eq_false, ge_iff_le, gt_iff_lt, Int.toNat_natCast, Int.reduceToNat, Int.cast_ofNat_Int, Int.natCast_nonneg, h, Try.results104]
      exact ⟨[], by simp, by simp, by simp [renV, renVs, renSegs, renSg]⟩
abbrev deskS (T : List Int) (a : Atom) : Segs := [(0, .ints .i64 1 [3]), (1, .ints .u8 100 T), (101, .ints .i64 1 [3]), (102, .ints .u8 100 T), (202, .cells 1 [a]), (203, .cells 1 [.nils]), (204, .cells 1 [.nils])]
def cyc3 : List Int := mkT (cycG 3) 3 3
theorem implCyc3 : ACalls Try.prog 54 [.i .i64 3] [] (fun v ms ns => v = .agg (sqS 3 cyc3) ∧ ms = [] ∧ ns = []) := implCyclic_ok 3 (by omega) (by omega)
theorem specCyc3 : ACalls Try.prog 104 [.i .i64 3] [] (fun v ms ns => v = .agg (sqS 3 cyc3) ∧ ms = [] ∧ ns = []) := specCyclic_ok 3 (by omega) (by omega)
theorem implDesk_ok : ACalls Try.prog 20 [] [] (fun v ms ns => v = .agg (deskS cyc3 (.sl 1 0 0 0 1 1)) ∧ ms = [] ∧ ns = [.lv true [(0, .ints .i64 1 [0])]]) := by
  refine acalls_of_body mix Try.func20 rfl fok20 (Nat.le_of_ble_eq_true rfl) ?_
  unfold abody
  simp only [absE, absL, absF, reduceCtorEq, ↓reduceIte, Nat.reduceEqDiff, Nat.reduceAdd, Nat.reduceLT, Nat.reduceMul, Nat.reduceSub, Nat.reduceLeDiff, Int.reduceLT, Int.reduceLE, Int.reduceEq, Option.isSome_some, implies_true, false_implies, Prod.mk.injEq, ne_eq, not_false_eq_true, not_true_eq_false, ge_iff_le, gt_iff_lt, Int.toNat_natCast, Int.reduceToNat, Int.cast_ofNat_Int, Int.natCast_nonneg, Try.f20]
  refine CallsVia.none (implCyc3) ?_
  rintro _ _ _ ⟨rfl, rfl, rfl⟩
  simp only [absE, absL, absF, reduceCtorEq, ↓reduceIte, Nat.reduceEqDiff, Nat.reduceAdd, Nat.reduceLT, Nat.reduceMul, Nat.reduceSub, Nat.reduceLeDiff, Int.reduceLT, Int.reduceLE, Int.reduceEq, Option.isSome_some, implies_true, false_implies, Prod.mk.injEq, ne_eq, not_false_eq_true, not_true_eq_false, ge_iff_le, gt_iff_lt, Int.toNat_natCast, Int.reduceToNat, Int.cast_ofNat_Int, Int.natCast_nonneg]
  refine CallsVia.none (implCyc3) ?_
  rintro _ _ _ ⟨rfl, rfl, rfl⟩
  simp only [absE, absL, absF, reduceCtorEq, ↓reduceIte, Nat.reduceEqDiff, Nat.reduceAdd, Nat.reduceLT, Nat.reduceMul, Nat.reduceSub, Nat.reduceLeDiff, Int.reduceLT, Int.reduceLE, Int.reduceEq, Option.isSome_some, implies_true, false_implies, Prod.mk.injEq, ne_eq, not_false_eq_true, not_true_eq_false, ge_iff_le, gt_iff_lt, Int.toNat_natCast, Int.reduceToNat, Int.cast_ofNat_Int, Int.natCast_nonneg, Try.results20]
  exact ⟨[(4, 0)], by simp, by simp, by simp [renV, renSegs, renSg, renAt, renFin, idx], by simp, by simp [renBlk, renSegs, renSg, Mem.get, assoc]⟩
theorem specDesk1_ok : ACalls Try.prog 53 [] [] (fun v ms ns => v = .agg (deskS cyc3 (.sl 1 0 0 0 1 1)) ∧ ms = [] ∧ ns = [.lv true [(0, .ints .i64 1 [0])]]) := by
  refine acalls_of_body mix Try.func53 rfl fok53 (Nat.le_of_ble_eq_true rfl) ?_
  unfold abody
  simp only [absE, absL, absF, reduceCtorEq, ↓reduceIte, Nat.reduceEqDiff, Nat.reduceAdd, Nat.reduceLT, Nat.reduceMul, Nat.reduceSub, Nat.reduceLeDiff, Int.reduceLT, Int.reduceLE, Int.reduceEq, Option.isSome_some, implies_true, false_implies, Prod.mk.injEq, ne_eq, not_false_eq_true, not_true_eq_false, ge_iff_le, gt_iff_lt, Int.toNat_natCast, Int.reduceToNat, Int.cast_ofNat_Int, Int.natCast_nonneg, Try.f53]
  refine CallsVia.none (specCyc3) ?_
  rintro _ _ _ ⟨rfl, rfl, rfl⟩
  simp only [absE, absL, absF, reduceCtorEq, ↓reduceIte, Nat.reduceEqDiff, Nat.reduceAdd, Nat.reduceLT, Nat.reduceMul, Nat.reduceSub, Nat.reduceLeDiff, Int.reduceLT, Int.reduceLE, Int.reduceEq, Option.isSome_some, implies_true, false_implies, Prod.mk.injEq, ne_eq, not_false_eq_true, not_true_eq_false, ge_iff_le, gt_iff_lt, Int.toNat_natCast, Int.reduceToNat, Int.cast_ofNat_Int, Int.natCast_nonneg]
  refine CallsVia.none (specCyc3) ?_
  rintro _ _ _ ⟨rfl, rfl, rfl⟩
  simp only [absE, absL, absF, reduceCtorEq, ↓reduceIte, Nat.reduceEqDiff, Nat.reduceAdd, Nat.reduceLT, Nat.reduceMul, Nat.reduceSub, Nat.reduceLeDiff, Int.reduceLT, Int.reduceLE, Int.reduceEq, Option.isSome_some, implies_true, false_implies, Prod.mk.injEq, ne_eq, not_false_eq_true, not_true_eq_false, ge_iff_le, gt_iff_lt, Int.toNat_natCast, Int.reduceToNat, Int.cast_ofNat_Int, Int.natCast_nonneg, Try.results53]
  exact ⟨[(4, 0)], by simp, by simp, by simp [renV, renSegs, renSg, renAt, renFin, idx], by simp, by simp [renBlk, renSegs, renSg, Mem.get, assoc]⟩
theorem specDesk_ok : ACalls Try.prog 19 [] [] (fun v ms ns => v = .agg (deskS cyc3 (.sl 1 0 0 0 1 1)) ∧ ms = [] ∧ ns = [.lv true [(0, .ints .i64 1 [0])]]) := by
  refine acalls_of_body mix Try.func19 rfl fok19 (Nat.le_of_ble_eq_true rfl) ?_
  unfold abody
  simp only [absE, absL, absF, reduceCtorEq, ↓reduceIte, Nat.reduceEqDiff, Nat.reduceAdd, Nat.reduceLT, Nat.reduceMul, Nat.reduceSub, Nat.reduceLeDiff, Int.reduceLT, Int.reduceLE, Int.reduceEq, Option.isSome_some, implies_true, false_implies, Prod.mk.injEq, ne_eq, not_false_eq_true, not_true_eq_false, ge_iff_le, gt_iff_lt, Int.toNat_natCast, Int.reduceToNat, Int.cast_ofNat_Int, Int.natCast_nonneg, Try.f19]
  refine CallsVia.none (specDesk1_ok) ?_
  rintro _ _ _ ⟨rfl, rfl, rfl⟩
  simp only [absE, absL, absF, reduceCtorEq, ↓reduceIte, Nat.reduceEqDiff, Nat.reduceAdd, Nat.reduceLT, Nat.reduceMul, Nat.reduceSub, Nat.reduceLeDiff, Int.reduceLT, Int.reduceLE, Int.reduceEq, Option.isSome_some, implies_true, false_implies, Prod.mk.injEq, ne_eq, not_false_eq_true, not_true_eq_false, ge_iff_le, gt_iff_lt, Int.toNat_natCast, Int.reduceToNat, Int.cast_ofNat_Int, Int.natCast_nonneg, Try.results19]
  exact ⟨[(2, 0)], by simp, by simp, by simp [renV, renSegs, renSg, renAt, renFin, idx], by simp, by simp [renBlk, renSegs, renSg, Mem.get, assoc]⟩
theorem eqStrs_nil : ACalls Try.prog 106 [.ref .nils, .ref .nils] [] (fun v ms ns => v = .b true ∧ ms = [] ∧ ns = []) := by
  refine acalls_of_body mix Try.func106 rfl fok106 (Nat.le_of_ble_eq_true rfl) ?_
  unfold abody
  simp only [absE, absL, absF, reduceCtorEq, ↓reduceIte, Nat.reduceEqDiff, Nat.reduceAdd, Nat.reduceLT, Nat.reduceMul, Nat.reduceSub, Nat.reduceLeDiff, Int.reduceLT, Int.reduceLE, Int.reduceEq, Option.isSome_some, implies_true, false_implies, Prod.mk.injEq, ne_eq, not_false_eq_true, not_true_eq_false, ge_iff_le, gt_iff_lt, Int.toNat_natCast, Int.reduceToNat, Int.cast_ofNat_Int, Int.natCast_nonneg, Try.f106]
  refine awpLoop.intro (fun i : Nat => [(0, .ref .nils), (1, .ref .nils), (5, .i .i64 i)]) (fun i => ⟨[], [], 8⟩) (fun i => i = 0) (fun i => 0) 0 rfl ⟨[], rfl, ?_, ?_⟩ ?_
  · simp [wkEnv, lk, renV, renAt, renTo]
  · simp [wkMem, wkLoc, Mem.get, assoc, renBlk, renSegs, renSg, renTo]
  · rintro i rfl
    simp only [absE, absL, absF, reduceCtorEq, ↓reduceIte, Nat.reduceEqDiff, Nat.reduceAdd, Nat.reduceLT, Nat.reduceMul, Nat.reduceSub, Nat.reduceLeDiff, Int.reduceLT, Int.reduceLE, Int.reduceEq, Option.isSome_some, implies_true, false_implies, Prod.mk.injEq, ne_eq, not_false_eq_true, not_true_eq_false, ge_iff_le, gt_iff_lt, Int.toNat_natCast, Int.reduceToNat, Int.cast_ofNat_Int, Int.natCast_nonneg, Int.lt_irrefl, Try.results106]
    exact fin_true rfl
theorem eqSqs_nil : ACalls Try.prog 107 [.ref .nils, .ref .nils] [] (fun v ms ns => v = .b true ∧ ms = [] ∧ ns = []) := by
  refine acalls_of_body mix Try.func107 rfl fok107 (Nat.le_of_ble_eq_true rfl) ?_
  unfold abody
  simp only [absE, absL, absF, reduceCtorEq, ↓reduceIte, Nat.reduceEqDiff, Nat.reduceAdd, Nat.reduceLT, Nat.reduceMul, Nat.reduceSub, Nat.reduceLeDiff, Int.reduceLT, Int.reduceLE, Int.reduceEq, Option.isSome_some, implies_true, false_implies, Prod.mk.injEq, ne_eq, not_false_eq_true, not_true_eq_false, ge_iff_le, gt_iff_lt, Int.toNat_natCast, Int.reduceToNat, Int.cast_ofNat_Int, Int.natCast_nonneg, Try.f107]
  refine awpLoop.intro (fun i : Nat => [(0, .ref .nils), (1, .ref .nils), (5, .i .i64 i)]) (fun i => ⟨[], [], 8⟩) (fun i => i = 0) (fun i => 0) 0 rfl ⟨[], rfl, ?_, ?_⟩ ?_
  · simp [wkEnv, lk, renV, renAt, renTo]
  · simp [wkMem, wkLoc, Mem.get, assoc, renBlk, renSegs, renSg, renTo]
  · rintro i rfl
    simp only [absE, absL, absF, reduceCtorEq, ↓reduceIte, Nat.reduceEqDiff, Nat.reduceAdd, Nat.reduceLT, Nat.reduceMul, Nat.reduceSub, Nat.reduceLeDiff, Int.reduceLT, Int.reduceLE, Int.reduceEq, Option.isSome_some, implies_true, false_implies, Prod.mk.injEq, ne_eq, not_false_eq_true, not_true_eq_false, ge_iff_le, gt_iff_lt, Int.toNat_natCast, Int.reduceToNat, Int.cast_ofNat_Int, Int.natCast_nonneg, Int.lt_irrefl, Try.results107]
    exact fin_true rfl
theorem markStrs_nil (m : Nat) : ACalls Try.prog 108 [.ref .nils, .i .i64 m] [] (fun v ms ns => v = .i .i64 m ∧ ms = [] ∧ ns = []) := by
  refine acalls_of_body mix Try.func108 rfl fok108 (Nat.le_of_ble_eq_true rfl) ?_
  unfold abody
  simp only [absE, absL, absF, reduceCtorEq, ↓reduceIte, Nat.reduceEqDiff, Nat.reduceAdd, Nat.reduceLT, Nat.reduceMul, Nat.reduceSub, Nat.reduceLeDiff, Int.reduceLT, Int.reduceLE, Int.reduceEq, Option.isSome_some, implies_true, false_implies, Prod.mk.injEq, ne_eq, not_false_eq_true, not_true_eq_false, ge_iff_le, gt_iff_lt, Int.toNat_natCast, Int.reduceToNat, Int.cast_ofNat_Int, Int.natCast_nonneg, Try.f108]
  refine awpLoop.intro (fun i : Nat => [(0, .ref .nils), (1, .i .i64 m), (5, .i .i64 i)]) (fun i => ⟨[], [], 3⟩) (fun i => i = 0) (fun i => 0) 0 rfl ⟨[], rfl, ?_, ?_⟩ ?_
  · simp [wkEnv, lk, renV, renAt, renTo]
  · simp [wkMem, wkLoc, Mem.get, assoc, renBlk, renSegs, renSg, renTo]
  · rintro i rfl
    simp only [absE, absL, absF, reduceCtorEq, ↓reduceIte, Nat.reduceEqDiff, Nat.reduceAdd, Nat.reduceLT, Nat.reduceMul, Nat.reduceSub, Nat.reduceLeDiff, Int.reduceLT, Int.reduceLE, Int.reduceEq, Option.isSome_some, implies_true, false_implies, Prod.mk.injEq, ne_eq, not_false_eq_true, not_true_eq_false, ge_iff_le, gt_iff_lt, Int.toNat_natCast, Int.reduceToNat, Int.cast_ofNat_Int, Int.natCast_nonneg, Int.lt_irrefl, Try.results108]
    exact ⟨[], by simp, by simp, by simp [renV, renVs, renSegs, renSg]⟩
theorem markSqs_nil (m : Nat) : ACalls Try.prog 109 [.ref .nils, .i .i64 m] [] (fun v ms ns => v = .i .i64 m ∧ ms = [] ∧ ns = []) := by
  refine acalls_of_body mix Try.func109 rfl fok109 (Nat.le_of_ble_eq_true rfl) ?_
  unfold abody
  simp only [absE, absL, absF, reduceCtorEq, ↓reduceIte, Nat.reduceEqDiff, Nat.reduceAdd, Nat.reduceLT, Nat.reduceMul, Nat.reduceSub, Nat.reduceLeDiff, Int.reduceLT, Int.reduceLE, Int.reduceEq, Option.isSome_some, implies_true, false_implies, Prod.mk.injEq, ne_eq, not_false_eq_true, not_true_eq_false, ge_iff_le, gt_iff_lt, Int.toNat_natCast, Int.reduceToNat, Int.cast_ofNat_Int, Int.natCast_nonneg, Try.f109]
  refine awpLoop.intro (fun i : Nat => [(0, .ref .nils), (1, .i .i64 m), (5, .i .i64 i)]) (fun i => ⟨[], [], 3⟩) (fun i => i = 0) (fun i => 0) 0 rfl ⟨[], rfl, ?_, ?_⟩ ?_
  · simp [wkEnv, lk, renV, renAt, renTo]
  · simp [wkMem, wkLoc, Mem.get, assoc, renBlk, renSegs, renSg, renTo]
  · rintro i rfl
    simp only [absE, absL, absF, reduceCtorEq, ↓reduceIte, Nat.reduceEqDiff, Nat.reduceAdd, Nat.reduceLT, Nat.reduceMul, Nat.reduceSub, Nat.reduceLeDiff, Int.reduceLT, Int.reduceLE, Int.reduceEq, Option.isSome_some, implies_true, false_implies, Prod.mk.injEq, ne_eq, not_false_eq_true, not_true_eq_false, ge_iff_le, gt_iff_lt, Int.toNat_natCast, Int.reduceToNat, Int.cast_ofNat_Int, Int.natCast_nonneg, Int.lt_irrefl, Try.results109]
    exact ⟨[], by simp, by simp, by simp [renV, renVs, renSegs, renSg]⟩
theorem heldStrs_nil (m : Nat) : ACalls Try.prog 110 [.ref .nils, .i .i64 m] [] (fun v ms ns => v = .i .i64 m ∧ ms = [] ∧ ns = []) := by
  refine acalls_of_body mix Try.func110 rfl fok110 (Nat.le_of_ble_eq_true rfl) ?_
  unfold abody
  simp only [absE, absL, absF, reduceCtorEq, ↓reduceIte, Nat.reduceEqDiff, Nat.reduceAdd, Nat.reduceLT, Nat.reduceMul, Nat.reduceSub, Nat.reduceLeDiff, Int.reduceLT, Int.reduceLE, Int.reduceEq, Option.isSome_some, implies_true, false_implies, Prod.mk.injEq, ne_eq, not_false_eq_true, not_true_eq_false, ge_iff_le, gt_iff_lt, Int.toNat_natCast, Int.reduceToNat, Int.cast_ofNat_Int, Int.natCast_nonneg, Try.f110]
  refine awpLoop.intro (fun i : Nat => [(0, .ref .nils), (1, .i .i64 m), (5, .i .i64 i)]) (fun i => ⟨[], [], 3⟩) (fun i => i = 0) (fun i => 0) 0 rfl ⟨[], rfl, ?_, ?_⟩ ?_
  · simp [wkEnv, lk, renV, renAt, renTo]
  · simp [wkMem, wkLoc, Mem.get, assoc, renBlk, renSegs, renSg, renTo]
  · rintro i rfl
    simp only [absE, absL, absF, reduceCtorEq, ↓reduceIte, Nat.reduceEqDiff, Nat.reduceAdd, Nat.reduceLT, Nat.reduceMul, Nat.reduceSub, Nat.reduceLeDiff, Int.reduceLT, Int.reduceLE, Int.reduceEq, Option.isSome_some, implies_true, false_implies, Prod.mk.injEq, ne_eq, not_false_eq_true, not_true_eq_false, ge_iff_le, gt_iff_lt, Int.toNat_natCast, Int.reduceToNat, Int.cast_ofNat_Int, Int.natCast_nonneg, Int.lt_irrefl, Try.results110]
    exact ⟨[], by simp, by simp, by simp [renV, renVs, renSegs, renSg]⟩
theorem heldSqs_nil (m : Nat) : ACalls Try.prog 111 [.ref .nils, .i .i64 m] [] (fun v ms ns => v = .i .i64 m ∧ ms = [] ∧ ns = []) := by
  refine acalls_of_body mix Try.func111 rfl fok111 (Nat.le_of_ble_eq_true rfl) ?_
  unfold abody
  simp only [absE, absL, absF, reduceCtorEq, ↓reduceIte, Nat.reduceEqDiff, Nat.reduceAdd, Nat.reduceLT, Nat.reduceMul, Nat.reduceSub, Nat.reduceLeDiff, Int.reduceLT, Int.reduceLE, Int.reduceEq, Option.isSome_some, implies_true, false_implies, Prod.mk.injEq, ne_eq, not_false_eq_true, not_true_eq_false, ge_iff_le, gt_iff_lt, Int.toNat_natCast, Int.reduceToNat, Int.cast_ofNat_Int, Int.natCast_nonneg, Try.f111]
  refine awpLoop.intro (fun i : Nat => [(0, .ref .nils), (1, .i .i64 m), (5, .i .i64 i)]) (fun i => ⟨[], [], 3⟩) (fun i => i = 0) (fun i => 0) 0 rfl ⟨[], rfl, ?_, ?_⟩ ?_
  · simp [wkEnv, lk, renV, renAt, renTo]
  · simp [wkMem, wkLoc, Mem.get, assoc, renBlk, renSegs, renSg, renTo]
  · rintro i rfl
    simp only [absE, absL, absF, reduceCtorEq, ↓reduceIte, Nat.reduceEqDiff, Nat.reduceAdd, Nat.reduceLT, Nat.reduceMul, Nat.reduceSub, Nat.reduceLeDiff, Int.reduceLT, Int.reduceLE, Int.reduceEq, Option.isSome_some, implies_true, false_implies, Prod.mk.injEq, ne_eq, not_false_eq_true, not_true_eq_false, ge_iff_le, gt_iff_lt, Int.toNat_natCast, Int.reduceToNat, Int.cast_ofNat_Int, Int.natCast_nonneg, Int.lt_irrefl, Try.results111]
    exact ⟨[], by simp, by simp, by simp [renV, renVs, renSegs, renSg]⟩
abbrev bookS : Segs := [(0, .cells 1 [.nils]), (1, .cells 1 [.nils])]
theorem eqBook_nil : ACalls Try.prog 55 [.agg bookS, .agg bookS] [] (fun v ms ns => v = .b true ∧ ms = [] ∧ ns = []) := by
  refine acalls_of_body mix Try.func55 rfl fok55 (Nat.le_of_ble_eq_true rfl) ?_
  unfold abody
  simp only [absE, absL, absF, reduceCtorEq, ↓reduceIte, Nat.reduceEqDiff, Nat.reduceAdd, Nat.reduceLT, Nat.reduceMul, Nat.reduceSub, Nat.reduceLeDiff, Int.reduceLT, Int.reduceLE, Int.reduceEq, Option.isSome_some, implies_true, false_implies, Prod.mk.injEq, ne_eq, not_false_eq_true, not_true_eq_false, ge_iff_le, gt_iff_lt, Int.toNat_natCast, Int.reduceToNat, Int.cast_ofNat_Int, Int.natCast_nonneg, Try.f55]
  refine CallsVia.none (eqStrs_nil) ?_
  rintro _ _ _ ⟨rfl, rfl, rfl⟩
  simp only [absE, absL, absF, reduceCtorEq, ↓reduceIte, Nat.reduceEqDiff, Nat.reduceAdd, Nat.reduceLT, Nat.reduceMul, Nat.reduceSub, Nat.reduceLeDiff, Int.reduceLT, Int.reduceLE, Int.reduceEq, Option.isSome_some, implies_true, false_implies, Prod.mk.injEq, ne_eq, not_false_eq_true, not_true_eq_false, ge_iff_le, gt_iff_lt, Int.toNat_natCast, Int.reduceToNat, Int.cast_ofNat_Int, Int.natCast_nonneg]
  refine CallsVia.none (eqSqs_nil) ?_
  rintro _ _ _ ⟨rfl, rfl, rfl⟩
  simp only [absE, absL, absF, reduceCtorEq, ↓reduceIte, Nat.reduceEqDiff, Nat.reduceAdd, Nat.reduceLT, Nat.reduceMul, Nat.reduceSub, Nat.reduceLeDiff, Int.reduceLT, Int.reduceLE, Int.reduceEq, Option.isSome_some, implies_true, false_implies, Prod.mk.injEq, ne_eq, not_false_eq_true, not_true_eq_false, ge_iff_le, gt_iff_lt, Int.toNat_natCast, Int.reduceToNat, Int.cast_ofNat_Int, Int.natCast_nonneg, Try.results55]
  exact fin_true rfl
theorem markBook_nil (m : Nat) : ACalls Try.prog 56 [.agg bookS, .i .i64 m] [] (fun v ms ns => v = .i .i64 m ∧ ms = [] ∧ ns = []) := by
  refine acalls_of_body mix Try.func56 rfl fok56 (Nat.le_of_ble_eq_true rfl) ?_
  unfold abody
  simp only [absE, absL, absF, reduceCtorEq, ↓reduceIte, Nat.reduceEqDiff, Nat.reduceAdd, Nat.reduceLT, Nat.reduceMul, Nat.reduceSub, Nat.reduceLeDiff, Int.reduceLT, Int.reduceLE, Int.reduceEq, Option.isSome_some, implies_true, false_implies, Prod.mk.injEq, ne_eq, not_false_eq_true, not_true_eq_false, ge_iff_le, gt_iff_lt, Int.toNat_natCast, Int.reduceToNat, Int.cast_ofNat_Int, Int.natCast_nonneg, Try.f56]
  refine CallsVia.none (markStrs_nil m) ?_
  rintro _ _ _ ⟨rfl, rfl, rfl⟩
  simp only [absE, absL, absF, reduceCtorEq, ↓reduceIte, Nat.reduceEqDiff, Nat.reduceAdd, Nat.reduceLT, Nat.reduceMul, Nat.reduceSub, Nat.reduceLeDiff, Int.reduceLT, Int.reduceLE, Int.reduceEq, Option.isSome_some, implies_true, false_implies, Prod.mk.injEq, ne_eq, not_false_eq_true, not_true_eq_false, ge_iff_le, gt_iff_lt, Int.toNat_natCast, Int.reduceToNat, Int.cast_ofNat_Int, Int.natCast_nonneg]
  refine CallsVia.none (markSqs_nil m) ?_
  rintro _ _ _ ⟨rfl, rfl, rfl⟩
  simp only [absE, absL, absF, reduceCtorEq, ↓reduceIte, Nat.reduceEqDiff, Nat.reduceAdd, Nat.reduceLT, Nat.reduceMul, Nat.reduceSub, Nat.reduceLeDiff, Int.reduceLT, Int.reduceLE, Int.reduceEq, Option.isSome_some, implies_true, false_implies, Prod.mk.injEq, ne_eq, not_false_eq_true, not_true_eq_false, ge_iff_le, gt_iff_lt, Int.toNat_natCast, Int.reduceToNat, Int.cast_ofNat_Int, Int.natCast_nonneg, Try.results56]
  exact ⟨[], by simp, by simp, by simp [renV, renVs, renSegs, renSg]⟩
theorem heldBook_nil (m : Nat) : ACalls Try.prog 57 [.agg bookS, .i .i64 m] [] (fun v ms ns => v = .i .i64 m ∧ ms = [] ∧ ns = []) := by
  have h1 : ¬ (m : Int) < 0 := by omega
  refine acalls_of_body mix Try.func57 rfl fok57 (Nat.le_of_ble_eq_true rfl) ?_
  unfold abody
  simp only [absE, absL, absF, reduceCtorEq, ↓reduceIte, Nat.reduceEqDiff, Nat.reduceAdd, Nat.reduceLT, Nat.reduceMul, Nat.reduceSub, Nat.reduceLeDiff, Int.reduceLT, Int.reduceLE, Int.reduceEq, Option.isSome_some, implies_true, false_implies, Prod.mk.injEq, ne_eq, not_false_eq_true, not_true_eq_false, ge_iff_le, gt_iff_lt, Int.toNat_natCast, Int.reduceToNat, Int.cast_ofNat_Int, Int.natCast_nonneg, Try.f57]
  refine CallsVia.none (heldStrs_nil m) ?_
  rintro _ _ _ ⟨rfl, rfl, rfl⟩
  simp only [absE, absL, absF, reduceCtorEq, ↓reduceIte, Nat.reduceEqDiff, Nat.reduceAdd, Nat.reduceLT, Nat.reduceMul, Nat.reduceSub, Nat.reduceLeDiff, Int.reduceLT, Int.reduceLE, Int.reduceEq, Option.isSome_some, implies_true, false_implies, Prod.mk.injEq, ne_eq, not_false_eq_true, not_true_eq_false, ge_iff_le, gt_iff_lt, Int.toNat_natCast, Int.reduceToNat, Int.cast_ofNat_Int, Int.natCast_nonneg, h1]
  refine CallsVia.none (heldSqs_nil m) ?_
  rintro _ _ _ ⟨rfl, rfl, rfl⟩
  simp only [absE, absL, absF, reduceCtorEq, ↓reduceIte, Nat.reduceEqDiff, Nat.reduceAdd, Nat.reduceLT, Nat.reduceMul, Nat.reduceSub, Nat.reduceLeDiff, Int.reduceLT, Int.reduceLE, Int.reduceEq, Option.isSome_some, implies_true, false_implies, Prod.mk.injEq, ne_eq, not_false_eq_true, not_true_eq_false, ge_iff_le, gt_iff_lt, Int.toNat_natCast, Int.reduceToNat, Int.cast_ofNat_Int, Int.natCast_nonneg, h1, Try.results57]
  exact ⟨[], by simp, by simp, by simp [renV, renVs, renSegs, renSg]⟩
theorem cyc3_len : cyc3.length = 100 := mkT_len
theorem eqDesk_ok (x : Int) : ACalls Try.prog 21 [.agg (deskS cyc3 (.sl 0 0 0 0 1 1)), .agg (deskS cyc3 (.sl 0 1 0 0 1 1))] [.lv true [(0, .ints .i64 1 [x])], .lv true [(0, .ints .i64 1 [x])]] (fun v ms ns => v = .b true ∧ ms = [.lv true [(0, .ints .i64 1 [x])], .lv true [(0, .ints .i64 1 [x])]] ∧ ns = []) := by
  refine acalls_of_body mix Try.func21 rfl fok21 (Nat.le_of_ble_eq_true rfl) ?_
  unfold abody
  simp only [absE, absL, absF, reduceCtorEq, ↓reduceIte, Nat.reduceEqDiff, Nat.reduceAdd, Nat.reduceLT, Nat.reduceMul, Nat.reduceSub, Nat.reduceLeDiff, Int.reduceLT, Int.reduceLE, Int.reduceEq, Option.isSome_some, implies_true, false_implies, Prod.mk.injEq, ne_eq, not_false_eq_true, not_true_eq_false, ge_iff_le, gt_iff_lt, Int.toNat_natCast, Int.reduceToNat, Int.cast_ofNat_Int, Int.natCast_nonneg, Try.f21]
  refine CallsVia.none (eqSquare_ok 3 3 _ _ cyc3_len cyc3_len) ?_
  rintro _ _ _ ⟨rfl, rfl, rfl⟩
  simp only [absE, absL, absF, reduceCtorEq, ↓reduceIte, Nat.reduceEqDiff, Nat.reduceAdd, Nat.reduceLT, Nat.reduceMul, Nat.reduceSub, Nat.reduceLeDiff, Int.reduceLT, Int.reduceLE, Int.reduceEq, Option.isSome_some, implies_true, false_implies, Prod.mk.injEq, ne_eq, not_false_eq_true, not_true_eq_false, ge_iff_le, gt_iff_lt, Int.toNat_natCast, Int.reduceToNat, Int.cast_ofNat_Int, Int.natCast_nonneg, and_self]
  refine CallsVia.none (eqSquare_ok 3 3 _ _ cyc3_len cyc3_len) ?_
  rintro _ _ _ ⟨rfl, rfl, rfl⟩
  simp only [absE, absL, absF, reduceCtorEq, ↓reduceIte, Nat.reduceEqDiff, Nat.reduceAdd, Nat.reduceLT, Nat.reduceMul, Nat.reduceSub, Nat.reduceLeDiff, Int.reduceLT, Int.reduceLE, Int.reduceEq, Option.isSome_some, implies_true, false_implies, Prod.mk.injEq, ne_eq, not_false_eq_true, not_true_eq_false, ge_iff_le, gt_iff_lt, Int.toNat_natCast, Int.reduceToNat, Int.cast_ofNat_Int, Int.natCast_nonneg, and_self]
  refine CallsVia.args [(0, 0), (0, 1)] (eqInts_ok 1 [x] rfl (by omega)) (by simp) (by simp [Mem.get]) rfl rfl ?_
  rintro _ _ _ ⟨rfl, rfl, rfl⟩
  simp only [absE, absL, absF, reduceCtorEq, ↓reduceIte, Nat.reduceEqDiff, Nat.reduceAdd, Nat.reduceLT, Nat.reduceMul, Nat.reduceSub, Nat.reduceLeDiff, Int.reduceLT, Int.reduceLE, Int.reduceEq, Option.isSome_some, implies_true, false_implies, Prod.mk.injEq, ne_eq, not_false_eq_true, not_true_eq_false, ge_iff_le, gt_iff_lt, Int.toNat_natCast, Int.reduceToNat, Int.cast_ofNat_Int, Int.natCast_nonneg]
  refine CallsVia.none (eqBook_nil) ?_
  rintro _ _ _ ⟨rfl, rfl, rfl⟩
  simp only [absE, absL, absF, reduceCtorEq, ↓reduceIte, Nat.reduceEqDiff, Nat.reduceAdd, Nat.reduceLT, Nat.reduceMul, Nat.reduceSub, Nat.reduceLeDiff, Int.reduceLT, Int.reduceLE, Int.reduceEq, Option.isSome_some, implies_true, false_implies, Prod.mk.injEq, ne_eq, not_false_eq_true, not_true_eq_false, ge_iff_le, gt_iff_lt, Int.toNat_natCast, Int.reduceToNat, Int.cast_ofNat_Int, Int.natCast_nonneg, Try.results21]
  exact ⟨[], by simp, by simp, by simp [renV, renBlk, renSegs, renSg]⟩
theorem markDesk_ok (m : Nat) (x : Int) (hm : m < 2 ^ 30) : ACalls Try.prog 22 [.agg (deskS cyc3 (.sl 0 0 0 0 1 1)), .i .i64 m] [.lv true [(0, .ints .i64 1 [x])]] (fun v ms ns => v = .i .i64 (m + 1 : Nat) ∧ ms = [.lv true [(0, .ints .i64 1 (marksL m 1))]] ∧ ns = []) := by
  refine acalls_of_body mix Try.func22 rfl fok22 (Nat.le_of_ble_eq_true rfl) ?_
  unfold abody
  simp only [absE, absL, absF, reduceCtorEq, ↓reduceIte, Nat.reduceEqDiff, Nat.reduceAdd, Nat.reduceLT, Nat.reduceMul, Nat.reduceSub, Nat.reduceLeDiff, Int.reduceLT, Int.reduceLE, Int.reduceEq, Option.isSome_some, implies_true, false_implies, Prod.mk.injEq, ne_eq, not_false_eq_true, not_true_eq_false, ge_iff_le, gt_iff_lt, Int.toNat_natCast, Int.reduceToNat, Int.cast_ofNat_Int, Int.natCast_nonneg, Try.f22]
  refine CallsVia.args [(0, 0)] (markInts_ok 1 m [x] rfl (by omega) (by omega)) (by simp) (by simp [Mem.get]) rfl rfl ?_
  rintro _ _ _ ⟨rfl, rfl, rfl⟩
  simp only [absE, absL, absF, reduceCtorEq, ↓reduceIte, Nat.reduceEqDiff, Nat.reduceAdd, Nat.reduceLT, Nat.reduceMul, Nat.reduceSub, Nat.reduceLeDiff, Int.reduceLT, Int.reduceLE, Int.reduceEq, Option.isSome_some, implies_true, false_implies, Prod.mk.injEq, ne_eq, not_false_eq_true, not_true_eq_false, ge_iff_le, gt_iff_lt, Int.toNat_natCast, Int.reduceToNat, Int.cast_ofNat_Int, Int.natCast_nonneg]
  refine CallsVia.none (markBook_nil (m + 1)) ?_
  rintro _ _ _ ⟨rfl, rfl, rfl⟩
  simp only [absE, absL, absF, reduceCtorEq, ↓reduceIte, Nat.reduceEqDiff, Nat.reduceAdd, Nat.reduceLT, Nat.reduceMul, Nat.reduceSub, Nat.reduceLeDiff, Int.reduceLT, Int.reduceLE, Int.reduceEq, Option.isSome_some, implies_true, false_implies, Prod.mk.injEq, ne_eq, not_false_eq_true, not_true_eq_false, ge_iff_le, gt_iff_lt, Int.toNat_natCast, Int.reduceToNat, Int.cast_ofNat_Int, Int.natCast_nonneg, Try.results22]
  exact ⟨[], by simp, by simp, by simp [renV, renBlk, renSegs, renSg]⟩
theorem heldDesk_ok (m : Nat) (hm : m < 2 ^ 30) : ACalls Try.prog 23 [.agg (deskS cyc3 (.sl 0 0 0 0 1 1)), .i .i64 m] [.lv true [(0, .ints .i64 1 (marksL m 1))]] (fun v ms ns => v = .i .i64 (m + 1 : Nat) ∧ ms = [.lv true [(0, .ints .i64 1 (marksL m 1))]] ∧ ns = []) := by
  have h1 : ¬ ((m + 1 : Nat) : Int) < 0 := by omega
  refine acalls_of_body mix Try.func23 rfl fok23 (Nat.le_of_ble_eq_true rfl) ?_
  unfold abody
  simp only [absE, absL, absF, reduceCtorEq, ↓reduceIte, Nat.reduceEqDiff, Nat.reduceAdd, Nat.reduceLT, Nat.reduceMul, Nat.reduceSub, Nat.reduceLeDiff, Int.reduceLT, Int.reduceLE, Int.reduceEq, Option.isSome_some, implies_true, false_implies, Prod.mk.injEq, ne_eq, not_false_eq_true, not_true_eq_false, ge_iff_le, gt_iff_lt, Int.toNat_natCast, Int.reduceToNat, Int.cast_ofNat_Int, Int.natCast_nonneg, Try.f23]
  refine CallsVia.args [(0, 0)] (heldInts_ok 1 m (by omega) (by omega)) (by simp) (by simp [Mem.get]) rfl rfl ?_
  rintro _ _ _ ⟨rfl, rfl, rfl⟩
  simp only [absE, absL, absF, reduceCtorEq, ↓reduceIte, Nat.reduceEqDiff, Nat.reduceAdd, Nat.reduceLT, Nat.reduceMul, Nat.reduceSub, Nat.reduceLeDiff, Int.reduceLT, Int.reduceLE, Int.reduceEq, Option.isSome_some, implies_true, false_implies, Prod.mk.injEq, ne_eq, not_false_eq_true, not_true_eq_false, ge_iff_le, gt_iff_lt, Int.toNat_natCast, Int.reduceToNat, Int.cast_ofNat_Int, Int.natCast_nonneg, h1]
  refine CallsVia.none (heldBook_nil (m + 1)) ?_
  rintro _ _ _ ⟨rfl, rfl, rfl⟩
  simp only [absE, absL, absF, reduceCtorEq, ↓reduceIte, Nat.reduceEqDiff, Nat.reduceAdd, Nat.reduceLT, Nat.reduceMul, Nat.reduceSub, Nat.reduceLeDiff, Int.reduceLT, Int.reduceLE, Int.reduceEq, Option.isSome_some, implies_true, false_implies, Prod.mk.injEq, ne_eq, not_false_eq_true, not_true_eq_false, ge_iff_le, gt_iff_lt, Int.toNat_natCast, Int.reduceToNat, Int.cast_ofNat_Int, Int.natCast_nonneg, h1, Try.results23]
  exact ⟨[], by simp, by simp, by simp [renV, renBlk, renSegs, renSg]⟩

end Go.Proofs.Ytopkdpgbjpjgjaa
