/-
Contracts of functions of the given program, by the abstract walk.
-/
import Derived.Test.YtoccbgffekhcaaaAbsY
import Derived.Test.YtoccbgffekhcaaaDa
namespace Go.Proofs.Ytoccbgffekhcaaa
open Go Go.Abs
set_option linter.unusedVariables false
set_option linter.unusedSectionVars false
set_option linter.unusedSimpArgs false
set_option maxRecDepth 100000
theorem setHas_ok (s x : Nat) (hs : s < 2 ^ 62) (hx : x < 64) : ACalls Try.prog 119 [.i .i64 s, .i .u8 x] [] (fun v ms ns => v = .b (s.testBit x) ∧ ms = [] ∧ ns = []) := by
  refine acalls_of_body mix Try.func119 rfl fok119 (Nat.le_of_ble_eq_true rfl) ?_
  unfold abody
  simp only [absE, absL, absF, reduceCtorEq, ↓reduceIte, Nat.reduceEqDiff, Nat.reduceAdd, Nat.reduceLT, Nat.reduceMul, Nat.reduceSub, Nat.reduceLeDiff, Int.reduceLT, Int.reduceLE, Int.reduceEq, Option.isSome_some, implies_true, false_implies, Prod.mk.injEq, ne_eq, not_false_eq_true, not_true_eq_false, ge_iff_le, gt_iff_lt, Int.toNat_natCast, Int.reduceToNat, Int.cast_ofNat_Int, Int.natCast_nonneg, shr_bit hs hx, Try.f119, Try.results119]
  exact ⟨[], by simp, by simp, by simp [renV, renVs, renSegs, renSg]⟩
theorem setList_ok (s : Nat) (hs : s < 2 ^ 62) : ACalls Try.prog 64 [.i .i64 s] [] (fun v ms ns => v = .ref (.sl 1 0 0 0 (memL s.testBit 10).length 1) ∧ ms = [] ∧ ns = [.lv true [(0, .ints .i64 (memL s.testBit 10).length (memL s.testBit 10))]]) := by
  refine acalls_of_body mix Try.func64 rfl fok64 (Nat.le_of_ble_eq_true rfl) ?_
  unfold abody
  simp only [absE, absL, absF, reduceCtorEq, ↓reduceIte, Nat.reduceEqDiff, Nat.reduceAdd, Nat.reduceLT, Nat.reduceMul, Nat.reduceSub, Nat.reduceLeDiff, Int.reduceLT, Int.reduceLE, Int.reduceEq, Option.isSome_some, implies_true, false_implies, Prod.mk.injEq, ne_eq, not_false_eq_true, not_true_eq_false, ge_iff_le, gt_iff_lt, Int.toNat_natCast, Int.reduceToNat, Int.cast_ofNat_Int, Int.natCast_nonneg, Try.f64]
  refine awpLoop.intro (fun x : Nat => [(0, .i .i64 s), (3, .ref (.sl 2 0 0 0 (memL s.testBit x).length 1)), (6, .i .i64 x)]) (fun x => ⟨[], [((2, 0), .lv true ([(0, .ints .i64 (memL s.testBit x).length (memL s.testBit x))]))], 5⟩)
    (fun x => x ≤ 10) (fun x => 10 - x) 0 (by omega) ⟨[((2,0),(2,0))], rfl, ?_, ?_⟩ ?_
  · simp [wkEnv, lk, renV, renAt, renTo, memL]
  · simp [wkMem, wkLoc, Mem.get, assoc, renBlk, renSegs, renSg, renTo, memL]
  · intro x hx
    have hl := memL_len (p := s.testBit) (k := x)
    by_cases h : (x : Int) < 10
    · have w := wrap_i64s (show x < 2 ^ 62 by omega)
      have w8 := wrap_u8n (show x < 256 by omega)
      simp only [absE, absL, absF, reduceCtorEq, ↓reduceIte, Nat.reduceEqDiff, Nat.reduceAdd, Nat.reduceLT, Nat.reduceMul, Nat.reduceSub, Nat.reduceLeDiff, Int.reduceLT, Int.reduceLE, Int.reduceEq, Option.isSome_some, implies_true, false_implies, Prod.mk.injEq, ne_eq, not_false_eq_true, not_true_eq_false, ge_iff_le, gt_iff_lt, Int.toNat_natCast, Int.reduceToNat, Int.cast_ofNat_Int, Int.natCast_nonneg, h, w8]
      refine CallsVia.none (setHas_ok s x hs (by omega)) ?_
      rintro _ _ _ ⟨rfl, rfl, rfl⟩
      cases hb : s.testBit x
      · simp only [absE, absL, absF, reduceCtorEq, ↓reduceIte, Nat.reduceEqDiff, Nat.reduceAdd, Nat.reduceLT, Nat.reduceMul, Nat.reduceSub, Nat.reduceLeDiff, Int.reduceLT, Int.reduceLE, Int.reduceEq, Option.isSome_some, implies_true, false_implies, Prod.mk.injEq, ne_eq, not_false_eq_true, not_true_eq_false, ge_iff_le, gt_iff_lt, Int.toNat_natCast, Int.reduceToNat, Int.cast_ofNat_Int, Int.natCast_nonneg]
        refine LoopNext.intro (x + 1) (by omega) (by omega) ⟨[((2,0),(2,0))], rfl, ?_, ?_⟩
        · simp [wkEnv, lk, renV, renAt, renTo, w, memL, hb]
        · simp [wkMem, wkLoc, Mem.get, assoc, renBlk, renSegs, renSg, renTo, w, memL, hb]
      · have mx : (memL s.testBit x).length * 1 = (memL s.testBit x).length := Nat.mul_one _
        simp only [absE, absL, absF, reduceCtorEq, ↓reduceIte, Nat.reduceEqDiff, Nat.reduceAdd, Nat.reduceLT, Nat.reduceMul, Nat.reduceSub, Nat.reduceLeDiff, Int.reduceLT, Int.reduceLE, Int.reduceEq, Option.isSome_some, implies_true, false_implies, Prod.mk.injEq, ne_eq, not_false_eq_true, not_true_eq_false, ge_iff_le, gt_iff_lt, Int.toNat_natCast, Int.reduceToNat, Int.cast_ofNat_Int, Int.natCast_nonneg, mx]
        refine ⟨by omega, by omega, LoopNext.intro (x + 1) (by omega) (by omega) ⟨[((15,0),(2,0))], rfl, ?_, ?_⟩⟩
        · simp [wkEnv, lk, renV, renAt, renTo, w, memL, hb]
        · simp [wkMem, wkLoc, Mem.get, assoc, renBlk, renSegs, renSg, renTo, w, memL, hb]
    · have hxN : x = 10 := by omega
      subst hxN
      simp only [absE, absL, absF, reduceCtorEq, ↓reduceIte, Nat.reduceEqDiff, Nat.reduceAdd, Nat.reduceLT, Nat.reduceMul, Nat.reduceSub, Nat.reduceLeDiff, Int.reduceLT, Int.reduceLE, Int.reduceEq, Option.isSome_some, implies_true, false_implies, Prod.mk.injEq, ne_eq, not_false_eq_true, not_true_eq_false, ge_iff_le, gt_iff_lt, Int.toNat_natCast, Int.reduceToNat, Int.cast_ofNat_Int, Int.natCast_nonneg, h, Try.results64]
      exact ⟨[(2, 0)], by simp, by simp, by simp [renV, renAt, renFin, idx], by simp, by simp [renBlk, renSegs, renSg, Mem.get, assoc]⟩
def pairsP (N : Nat) (g : Nat → Nat → Bool) : Prop := ∀ x, x < N → ∀ y, y < N → g x y = true
open Classical in
noncomputable def pairsB (N : Nat) (g : Nat → Nat → Bool) : Bool := decide (pairsP N g)
theorem pairsB_true {N : Nat} {g : Nat → Nat → Bool} (h : pairsP N g) : pairsB N g = true := by unfold pairsB; exact @decide_eq_true _ (_) h
theorem pairsB_false {N : Nat} {g : Nat → Nat → Bool} (h : ¬pairsP N g) : pairsB N g = false := by unfold pairsB; exact @decide_eq_false _ (_) h
theorem pairsB_iff {N : Nat} {g : Nat → Nat → Bool} : pairsB N g = true ↔ pairsP N g := by unfold pairsB; exact @decide_eq_true_iff _ (_)
theorem forPairs1_ok (N : Nat) (t : List Int) (hN : N ≤ 10) (f : FuncId) (g : Nat → Nat → Bool) (g0 : Segs) (e0 : ∀ ρ, renSegs ρ g0 = g0)
    (hf : ∀ x y, x < N → y < N → ACalls Try.prog f (.i .u8 x :: .i .u8 y :: [.ref (.ptr 0 0 0 0)]) [.lv true g0] (fun v ms ns => v = .b (g x y) ∧ ms = [.lv true g0] ∧ ns = [])) :
    ACalls Try.prog 123 [.agg (sqS N t), .ref (.fn f [(0, 0, 0, 0)])] [.lv true g0] (fun v ms ns => v = .b (pairsB N g) ∧ ms = [.lv true g0] ∧ ns = []) := by
  refine acalls_of_body mix Try.func123 rfl fok123 (Nat.le_of_ble_eq_true rfl) ?_
  unfold abody
  simp only [absE, absL, absF, reduceCtorEq, ↓reduceIte, Nat.reduceEqDiff, Nat.reduceAdd, Nat.reduceLT, Nat.reduceMul, Nat.reduceSub, Nat.reduceLeDiff, Int.reduceLT, Int.reduceLE, Int.reduceEq, Option.isSome_some, implies_true, false_implies, Prod.mk.injEq, ne_eq, not_false_eq_true, not_true_eq_false, ge_iff_le, gt_iff_lt, Int.toNat_natCast, Int.reduceToNat, Int.cast_ofNat_Int, Int.natCast_nonneg, Try.f123]
  refine CallsVia.none (elements_ok N t hN) ?_
  rintro _ _ _ ⟨rfl, rfl, rfl⟩
  simp only [absE, absL, absF, reduceCtorEq, ↓reduceIte, Nat.reduceEqDiff, Nat.reduceAdd, Nat.reduceLT, Nat.reduceMul, Nat.reduceSub, Nat.reduceLeDiff, Int.reduceLT, Int.reduceLE, Int.reduceEq, Option.isSome_some, implies_true, false_implies, Prod.mk.injEq, ne_eq, not_false_eq_true, not_true_eq_false, ge_iff_le, gt_iff_lt, Int.toNat_natCast, Int.reduceToNat, Int.cast_ofNat_Int, Int.natCast_nonneg]
  refine awpLoop.intro (fun x : Nat => [(1, .ref (.fn f [(0, 0, 0, 0)])), (2, .ref (.ptr 1 0 0 0)), (10, .ref (.sl 4 0 0 0 N 1)), (11, .i .i64 N), (12, .i .i64 x)]) (fun x => ⟨[.lv true g0], [((1, 0), .lv true (sqS N t)), ((4, 0), .lv true ([(0, .ints .u8 N (bytesTo N))]))], 7⟩)
    (fun x => x ≤ N ∧ ∀ j, j < x → ∀ y, y < N → g j y = true) (fun x => N - x) 0 ⟨by omega, fun j hj => absurd hj (by omega)⟩ ⟨[((1,0),(1,0)), ((4,0),(4,0))], rfl, ?_, ?_⟩ ?_
  · simp [wkEnv, lk, renV, renAt, renTo, e0, renCaps]
  · simp [wkMem, wkLoc, Mem.get, assoc, renBlk, renSegs, renSg, renTo, e0, renCaps]
  · rintro x ⟨hx, hp⟩
    by_cases h : (x : Int) < N
    · have w := wrap_i64s (show x < 2 ^ 62 by omega)
      have b1 : (bytesTo N).getD (0 + x * 1) 0 = (x : Int) := by rw [Nat.zero_add, Nat.mul_one]; exact bytesTo_get (by omega)
      have v1 : 0 + x * 1 < N := by omega
      simp only [absE, absL, absF, reduceCtorEq, ↓reduceIte, Nat.reduceEqDiff, Nat.reduceAdd, Nat.reduceLT, Nat.reduceMul, Nat.reduceSub, Nat.reduceLeDiff, Int.reduceLT, Int.reduceLE, Int.reduceEq, Option.isSome_some, implies_true, false_implies, Prod.mk.injEq, ne_eq, not_false_eq_true, not_true_eq_false, ge_iff_le, gt_iff_lt, Int.toNat_natCast, Int.reduceToNat, Int.cast_ofNat_Int, Int.natCast_nonneg, h, b1, v1]
      refine CallsVia.none (elements_ok N t hN) ?_
      rintro _ _ _ ⟨rfl, rfl, rfl⟩
      simp only [absE, absL, absF, reduceCtorEq, ↓reduceIte, Nat.reduceEqDiff, Nat.reduceAdd, Nat.reduceLT, Nat.reduceMul, Nat.reduceSub, Nat.reduceLeDiff, Int.reduceLT, Int.reduceLE, Int.reduceEq, Option.isSome_some, implies_true, false_implies, Prod.mk.injEq, ne_eq, not_false_eq_true, not_true_eq_false, ge_iff_le, gt_iff_lt, Int.toNat_natCast, Int.reduceToNat, Int.cast_ofNat_Int, Int.natCast_nonneg]
      refine awpLoop.intro (fun y : Nat => [(1, .ref (.fn f [(0, 0, 0, 0)])), (2, .ref (.ptr 1 0 0 0)), (10, .ref (.sl 4 0 0 0 N 1)), (11, .i .i64 N), (12, .i .i64 x), (6, .i .u8 x), (17, .ref (.sl 12 0 0 0 N 1)), (18, .i .i64 N), (19, .i .i64 y)]) (fun y => ⟨[.lv true g0], [((1, 0), .lv true (sqS N t)), ((4, 0), .lv true ([(0, .ints .u8 N (bytesTo N))])), ((12, 0), .lv true ([(0, .ints .u8 N (bytesTo N))]))], 15⟩)
        (fun y => y ≤ N ∧ ∀ j, j < y → g x j = true) (fun y => N - y) 0 ⟨by omega, fun j hj => absurd hj (by omega)⟩ ⟨[((1,0),(1,0)), ((4,0),(4,0)), ((12,0),(12,0))], rfl, ?_, ?_⟩ ?_
      · simp [wkEnv, lk, renV, renAt, renTo, e0, renCaps]
      · simp [wkMem, wkLoc, Mem.get, assoc, renBlk, renSegs, renSg, renTo, e0, renCaps]
      · rintro y ⟨hy, hq⟩
        by_cases h' : (y : Int) < N
        · have w' := wrap_i64s (show y < 2 ^ 62 by omega)
          have b2 : (bytesTo N).getD (0 + y * 1) 0 = (y : Int) := by rw [Nat.zero_add, Nat.mul_one]; exact bytesTo_get (by omega)
          have v2 : 0 + y * 1 < N := by omega
          simp only [absE, absL, absF, reduceCtorEq, ↓reduceIte, Nat.reduceEqDiff, Nat.reduceAdd, Nat.reduceLT, Nat.reduceMul, Nat.reduceSub, Nat.reduceLeDiff, Int.reduceLT, Int.reduceLE, Int.reduceEq, Option.isSome_some, implies_true, false_implies, Prod.mk.injEq, ne_eq, not_false_eq_true, not_true_eq_false, ge_iff_le, gt_iff_lt, Int.toNat_natCast, Int.reduceToNat, Int.cast_ofNat_Int, Int.natCast_nonneg, h', b2, v2]
          refine CallsVia.args [(0, 0)] (hf x y (by omega) (by omega)) (by simp) (by simp [Mem.get]) rfl (by simp [argBlks, Mem.get, renBlk, e0]) ?_
          rintro _ _ _ ⟨rfl, rfl, rfl⟩
          cases hb : g x y
          · simp only [absE, absL, absF, reduceCtorEq, ↓reduceIte, Nat.reduceEqDiff, Nat.reduceAdd, Nat.reduceLT, Nat.reduceMul, Nat.reduceSub, Nat.reduceLeDiff, Int.reduceLT, Int.reduceLE, Int.reduceEq, Option.isSome_some, implies_true, false_implies, Prod.mk.injEq, ne_eq, not_false_eq_true, not_true_eq_false, ge_iff_le, gt_iff_lt, Int.toNat_natCast, Int.reduceToNat, Int.cast_ofNat_Int, Int.natCast_nonneg, e0, Try.results123]
            have hf : pairsB N g = false := pairsB_false fun hu => by rw [hu x (by omega) y (by omega)] at hb; cases hb
            exact ⟨[], by simp, by simp, by simp [renV, renVs, renSegs, renSg, renBlk, e0, hf]⟩
          · simp only [absE, absL, absF, reduceCtorEq, ↓reduceIte, Nat.reduceEqDiff, Nat.reduceAdd, Nat.reduceLT, Nat.reduceMul, Nat.reduceSub, Nat.reduceLeDiff, Int.reduceLT, Int.reduceLE, Int.reduceEq, Option.isSome_some, implies_true, false_implies, Prod.mk.injEq, ne_eq, not_false_eq_true, not_true_eq_false, ge_iff_le, gt_iff_lt, Int.toNat_natCast, Int.reduceToNat, Int.cast_ofNat_Int, Int.natCast_nonneg, e0]
            refine LoopNext.intro (y + 1) ⟨by omega, fun j hj => ?_⟩ (by omega) ⟨[((1,0),(1,0)), ((4,0),(4,0)), ((12,0),(12,0))], rfl, ?_, ?_⟩
            · by_cases ej : j = y
              · subst ej; exact hb
              · exact hq j (by omega)
            · simp [wkEnv, lk, renV, renAt, renTo, e0, w', renCaps]
            · simp [wkMem, wkLoc, Mem.get, assoc, renBlk, renSegs, renSg, renTo, e0, w', renCaps]
        · simp only [absE, absL, absF, reduceCtorEq, ↓reduceIte, Nat.reduceEqDiff, Nat.reduceAdd, Nat.reduceLT, Nat.reduceMul, Nat.reduceSub, Nat.reduceLeDiff, Int.reduceLT, Int.reduceLE, Int.reduceEq, Option.isSome_some, implies_true, false_implies, Prod.mk.injEq, ne_eq, not_false_eq_true, not_true_eq_false, ge_iff_le, gt_iff_lt, Int.toNat_natCast, Int.reduceToNat, Int.cast_ofNat_Int, Int.natCast_nonneg, h', w]
          refine LoopNext.intro (x + 1) ⟨by omega, fun j hj => ?_⟩ (by omega) ⟨[((1,0),(1,0)), ((4,0),(4,0))], rfl, ?_, ?_⟩
          · by_cases ej : j = x
            · subst ej; exact fun y hy' => hq y (by omega)
            · exact hp j (by omega)
          · simp [wkEnv, lk, renV, renAt, renTo, e0, renCaps]
          · simp [wkMem, wkLoc, Mem.get, assoc, renBlk, renSegs, renSg, renTo, e0, renCaps]
    · simp only [absE, absL, absF, reduceCtorEq, ↓reduceIte, Nat.reduceEqDiff, Nat.reduceAdd, Nat.reduceLT, Nat.reduceMul, Nat.reduceSub, Nat.reduceLeDiff, Int.reduceLT, Int.reduceLE, Int.reduceEq, Option.isSome_some, implies_true, false_implies, Prod.mk.injEq, ne_eq, not_false_eq_true, not_true_eq_false, ge_iff_le, gt_iff_lt, Int.toNat_natCast, Int.reduceToNat, Int.cast_ofNat_Int, Int.natCast_nonneg, h, Try.results123]
      have hf : pairsB N g = true := pairsB_true fun j hj => hp j (by omega)
      exact ⟨[], by simp, by simp, by simp [renV, renVs, renSegs, renSg, renBlk, e0, hf]⟩
theorem forPairs2_ok (N : Nat) (t : List Int) (hN : N ≤ 10) (f : FuncId) (g : Nat → Nat → Bool) (g0 g1 : Segs) (e0 : ∀ ρ, renSegs ρ g0 = g0) (e1 : ∀ ρ, renSegs ρ g1 = g1)
    (hf : ∀ x y, x < N → y < N → ACalls Try.prog f (.i .u8 x :: .i .u8 y :: [.ref (.ptr 0 0 0 0), .ref (.ptr 0 1 0 0)]) [.lv true g0, .lv true g1] (fun v ms ns => v = .b (g x y) ∧ ms = [.lv true g0, .lv true g1] ∧ ns = [])) :
    ACalls Try.prog 123 [.agg (sqS N t), .ref (.fn f [(0, 0, 0, 0), (0, 1, 0, 0)])] [.lv true g0, .lv true g1] (fun v ms ns => v = .b (pairsB N g) ∧ ms = [.lv true g0, .lv true g1] ∧ ns = []) := by
  refine acalls_of_body mix Try.func123 rfl fok123 (Nat.le_of_ble_eq_true rfl) ?_
  unfold abody
  simp only [absE, absL, absF, reduceCtorEq, ↓reduceIte, Nat.reduceEqDiff, Nat.reduceAdd, Nat.reduceLT, Nat.reduceMul, Nat.reduceSub, Nat.reduceLeDiff, Int.reduceLT, Int.reduceLE, Int.reduceEq, Option.isSome_some, implies_true, false_implies, Prod.mk.injEq, ne_eq, not_false_eq_true, not_true_eq_false, ge_iff_le, gt_iff_lt, Int.toNat_natCast, Int.reduceToNat, Int.cast_ofNat_Int, Int.natCast_nonneg, Try.f123]
  refine CallsVia.none (elements_ok N t hN) ?_
  rintro _ _ _ ⟨rfl, rfl, rfl⟩
  simp only [absE, absL, absF, reduceCtorEq, ↓reduceIte, Nat.reduceEqDiff, Nat.reduceAdd, Nat.reduceLT, Nat.reduceMul, Nat.reduceSub, Nat.reduceLeDiff, Int.reduceLT, Int.reduceLE, Int.reduceEq, Option.isSome_some, implies_true, false_implies, Prod.mk.injEq, ne_eq, not_false_eq_true, not_true_eq_false, ge_iff_le, gt_iff_lt, Int.toNat_natCast, Int.reduceToNat, Int.cast_ofNat_Int, Int.natCast_nonneg]
  refine awpLoop.intro (fun x : Nat => [(1, .ref (.fn f [(0, 0, 0, 0), (0, 1, 0, 0)])), (2, .ref (.ptr 1 0 0 0)), (10, .ref (.sl 4 0 0 0 N 1)), (11, .i .i64 N), (12, .i .i64 x)]) (fun x => ⟨[.lv true g0, .lv true g1], [((1, 0), .lv true (sqS N t)), ((4, 0), .lv true ([(0, .ints .u8 N (bytesTo N))]))], 7⟩)
    (fun x => x ≤ N ∧ ∀ j, j < x → ∀ y, y < N → g j y = true) (fun x => N - x) 0 ⟨by omega, fun j hj => absurd hj (by omega)⟩ ⟨[((1,0),(1,0)), ((4,0),(4,0))], rfl, ?_, ?_⟩ ?_
  · simp [wkEnv, lk, renV, renAt, renTo, e0, e1, renCaps]
  · simp [wkMem, wkLoc, Mem.get, assoc, renBlk, renSegs, renSg, renTo, e0, e1, renCaps]
  · rintro x ⟨hx, hp⟩
    by_cases h : (x : Int) < N
    · have w := wrap_i64s (show x < 2 ^ 62 by omega)
      have b1 : (bytesTo N).getD (0 + x * 1) 0 = (x : Int) := by rw [Nat.zero_add, Nat.mul_one]; exact bytesTo_get (by omega)
      have v1 : 0 + x * 1 < N := by omega
      simp only [absE, absL, absF, reduceCtorEq, ↓reduceIte, Nat.reduceEqDiff, Nat.reduceAdd, Nat.reduceLT, Nat.reduceMul, Nat.reduceSub, Nat.reduceLeDiff, Int.reduceLT, Int.reduceLE, Int.reduceEq, Option.isSome_some, implies_true, false_implies, Prod.mk.injEq, ne_eq, not_false_eq_true, not_true_eq_false, ge_iff_le, gt_iff_lt, Int.toNat_natCast, Int.reduceToNat, Int.cast_ofNat_Int, Int.natCast_nonneg, h, b1, v1]
      refine CallsVia.none (elements_ok N t hN) ?_
      rintro _ _ _ ⟨rfl, rfl, rfl⟩
      simp only [absE, absL, absF, reduceCtorEq, ↓reduceIte, Nat.reduceEqDiff, Nat.reduceAdd, Nat.reduceLT, Nat.reduceMul, Nat.reduceSub, Nat.reduceLeDiff, Int.reduceLT, Int.reduceLE, Int.reduceEq, Option.isSome_some, implies_true, false_implies, Prod.mk.injEq, ne_eq, not_false_eq_true, not_true_eq_false, ge_iff_le, gt_iff_lt, Int.toNat_natCast, Int.reduceToNat, Int.cast_ofNat_Int, Int.natCast_nonneg]
      refine awpLoop.intro (fun y : Nat => [(1, .ref (.fn f [(0, 0, 0, 0), (0, 1, 0, 0)])), (2, .ref (.ptr 1 0 0 0)), (10, .ref (.sl 4 0 0 0 N 1)), (11, .i .i64 N), (12, .i .i64 x), (6, .i .u8 x), (17, .ref (.sl 12 0 0 0 N 1)), (18, .i .i64 N), (19, .i .i64 y)]) (fun y => ⟨[.lv true g0, .lv true g1], [((1, 0), .lv true (sqS N t)), ((4, 0), .lv true ([(0, .ints .u8 N (bytesTo N))])), ((12, 0), .lv true ([(0, .ints .u8 N (bytesTo N))]))], 15⟩)
        (fun y => y ≤ N ∧ ∀ j, j < y → g x j = true) (fun y => N - y) 0 ⟨by omega, fun j hj => absurd hj (by omega)⟩ ⟨[((1,0),(1,0)), ((4,0),(4,0)), ((12,0),(12,0))], rfl, ?_, ?_⟩ ?_
      · simp [wkEnv, lk, renV, renAt, renTo, e0, e1, renCaps]
      · simp [wkMem, wkLoc, Mem.get, assoc, renBlk, renSegs, renSg, renTo, e0, e1, renCaps]
      · rintro y ⟨hy, hq⟩
        by_cases h' : (y : Int) < N
        · have w' := wrap_i64s (show y < 2 ^ 62 by omega)
          have b2 : (bytesTo N).getD (0 + y * 1) 0 = (y : Int) := by rw [Nat.zero_add, Nat.mul_one]; exact bytesTo_get (by omega)
          have v2 : 0 + y * 1 < N := by omega
          simp only [absE, absL, absF, reduceCtorEq, ↓reduceIte, Nat.reduceEqDiff, Nat.reduceAdd, Nat.reduceLT, Nat.reduceMul, Nat.reduceSub, Nat.reduceLeDiff, Int.reduceLT, Int.reduceLE, Int.reduceEq, Option.isSome_some, implies_true, false_implies, Prod.mk.injEq, ne_eq, not_false_eq_true, not_true_eq_false, ge_iff_le, gt_iff_lt, Int.toNat_natCast, Int.reduceToNat, Int.cast_ofNat_Int, Int.natCast_nonneg, h', b2, v2]
          refine CallsVia.args [(0, 0), (0, 1)] (hf x y (by omega) (by omega)) (by simp) (by simp [Mem.get]) rfl (by simp [argBlks, Mem.get, renBlk, e0, e1]) ?_
          rintro _ _ _ ⟨rfl, rfl, rfl⟩
          cases hb : g x y
          · simp only [absE, absL, absF, reduceCtorEq, ↓reduceIte, Nat.reduceEqDiff, Nat.reduceAdd, Nat.reduceLT, Nat.reduceMul, Nat.reduceSub, Nat.reduceLeDiff, Int.reduceLT, Int.reduceLE, Int.reduceEq, Option.isSome_some, implies_true, false_implies, Prod.mk.injEq, ne_eq, not_false_eq_true, not_true_eq_false, ge_iff_le, gt_iff_lt, Int.toNat_natCast, Int.reduceToNat, Int.cast_ofNat_Int, Int.natCast_nonneg, e0, e1, Try.results123]
            have hf : pairsB N g = false := pairsB_false fun hu => by rw [hu x (by omega) y (by omega)] at hb; cases hb
            exact ⟨[], by simp, by simp, by simp [renV, renVs, renSegs, renSg, renBlk, e0, e1, hf]⟩
          · simp only [absE, absL, absF, reduceCtorEq, ↓reduceIte, Nat.reduceEqDiff, Nat.reduceAdd, Nat.reduceLT, Nat.reduceMul, Nat.reduceSub, Nat.reduceLeDiff, Int.reduceLT, Int.reduceLE, Int.reduceEq, Option.isSome_some, implies_true, false_implies, Prod.mk.injEq, ne_eq, not_false_eq_true, not_true_eq_false, ge_iff_le, gt_iff_lt, Int.toNat_natCast, Int.reduceToNat, Int.cast_ofNat_Int, Int.natCast_nonneg, e0, e1]
            refine LoopNext.intro (y + 1) ⟨by omega, fun j hj => ?_⟩ (by omega) ⟨[((1,0),(1,0)), ((4,0),(4,0)), ((12,0),(12,0))], rfl, ?_, ?_⟩
            · by_cases ej : j = y
              · subst ej; exact hb
              · exact hq j (by omega)
            · simp [wkEnv, lk, renV, renAt, renTo, e0, e1, w', renCaps]
            · simp [wkMem, wkLoc, Mem.get, assoc, renBlk, renSegs, renSg, renTo, e0, e1, w', renCaps]
        · simp only [absE, absL, absF, reduceCtorEq, ↓reduceIte, Nat.reduceEqDiff, Nat.reduceAdd, Nat.reduceLT, Nat.reduceMul, Nat.reduceSub, Nat.reduceLeDiff, Int.reduceLT, Int.reduceLE, Int.reduceEq, Option.isSome_some, implies_true, false_implies, Prod.mk.injEq, ne_eq, not_false_eq_true, not_true_eq_false, ge_iff_le, gt_iff_lt, Int.toNat_natCast, Int.reduceToNat, Int.cast_ofNat_Int, Int.natCast_nonneg, h', w]
          refine LoopNext.intro (x + 1) ⟨by omega, fun j hj => ?_⟩ (by omega) ⟨[((1,0),(1,0)), ((4,0),(4,0))], rfl, ?_, ?_⟩
          · by_cases ej : j = x
            · subst ej; exact fun y hy' => hq y (by omega)
            · exact hp j (by omega)
          · simp [wkEnv, lk, renV, renAt, renTo, e0, e1, renCaps]
          · simp [wkMem, wkLoc, Mem.get, assoc, renBlk, renSegs, renSg, renTo, e0, e1, renCaps]
    · simp only [absE, absL, absF, reduceCtorEq, ↓reduceIte, Nat.reduceEqDiff, Nat.reduceAdd, Nat.reduceLT, Nat.reduceMul, Nat.reduceSub, Nat.reduceLeDiff, Int.reduceLT, Int.reduceLE, Int.reduceEq, Option.isSome_some, implies_true, false_implies, Prod.mk.injEq, ne_eq, not_false_eq_true, not_true_eq_false, ge_iff_le, gt_iff_lt, Int.toNat_natCast, Int.reduceToNat, Int.cast_ofNat_Int, Int.natCast_nonneg, h, Try.results123]
      have hf : pairsB N g = true := pairsB_true fun j hj => hp j (by omega)
      exact ⟨[], by simp, by simp, by simp [renV, renVs, renSegs, renSg, renBlk, e0, e1, hf]⟩
theorem forPairs3_ok (N : Nat) (t : List Int) (hN : N ≤ 10) (f : FuncId) (g : Nat → Nat → Bool) (g0 g1 g2 : Segs) (e0 : ∀ ρ, renSegs ρ g0 = g0) (e1 : ∀ ρ, renSegs ρ g1 = g1) (e2 : ∀ ρ, renSegs ρ g2 = g2)
    (hf : ∀ x y, x < N → y < N → ACalls Try.prog f (.i .u8 x :: .i .u8 y :: [.ref (.ptr 0 0 0 0), .ref (.ptr 0 1 0 0), .ref (.ptr 0 2 0 0)]) [.lv true g0, .lv true g1, .lv true g2] (fun v ms ns => v = .b (g x y) ∧ ms = [.lv true g0, .lv true g1, .lv true g2] ∧ ns = [])) :
    ACalls Try.prog 123 [.agg (sqS N t), .ref (.fn f [(0, 0, 0, 0), (0, 1, 0, 0), (0, 2, 0, 0)])] [.lv true g0, .lv true g1, .lv true g2] (fun v ms ns => v = .b (pairsB N g) ∧ ms = [.lv true g0, .lv true g1, .lv true g2] ∧ ns = []) := by
  refine acalls_of_body mix Try.func123 rfl fok123 (Nat.le_of_ble_eq_true rfl) ?_
  unfold abody
  simp only [absE, absL, absF, reduceCtorEq, ↓reduceIte, Nat.reduceEqDiff, Nat.reduceAdd, Nat.reduceLT, Nat.reduceMul, Nat.reduceSub, Nat.reduceLeDiff, Int.reduceLT, Int.reduceLE, Int.reduceEq, Option.isSome_some, implies_true, false_implies, Prod.mk.injEq, ne_eq, not_false_eq_true, not_true_eq_false, ge_iff_le, gt_iff_lt, Int.toNat_natCast, Int.reduceToNat, Int.cast_ofNat_Int, Int.natCast_nonneg, Try.f123]
  refine CallsVia.none (elements_ok N t hN) ?_
  rintro _ _ _ ⟨rfl, rfl, rfl⟩
  simp only [absE, absL, absF, reduceCtorEq, ↓reduceIte, Nat.reduceEqDiff, Nat.reduceAdd, Nat.reduceLT, Nat.reduceMul, Nat.reduceSub, Nat.reduceLeDiff, Int.reduceLT, Int.reduceLE, Int.reduceEq, Option.isSome_some, implies_true, false_implies, Prod.mk.injEq, ne_eq, not_false_eq_true, not_true_eq_false, ge_iff_le, gt_iff_lt, Int.toNat_natCast, Int.reduceToNat, Int.cast_ofNat_Int, Int.natCast_nonneg]
  refine awpLoop.intro (fun x : Nat => [(1, .ref (.fn f [(0, 0, 0, 0), (0, 1, 0, 0), (0, 2, 0, 0)])), (2, .ref (.ptr 1 0 0 0)), (10, .ref (.sl 4 0 0 0 N 1)), (11, .i .i64 N), (12, .i .i64 x)]) (fun x => ⟨[.lv true g0, .lv true g1, .lv true g2], [((1, 0), .lv true (sqS N t)), ((4, 0), .lv true ([(0, .ints .u8 N (bytesTo N))]))], 7⟩)
    (fun x => x ≤ N ∧ ∀ j, j < x → ∀ y, y < N → g j y = true) (fun x => N - x) 0 ⟨by omega, fun j hj => absurd hj (by omega)⟩ ⟨[((1,0),(1,0)), ((4,0),(4,0))], rfl, ?_, ?_⟩ ?_
  · simp [wkEnv, lk, renV, renAt, renTo, e0, e1, e2, renCaps]
  · simp [wkMem, wkLoc, Mem.get, assoc, renBlk, renSegs, renSg, renTo, e0, e1, e2, renCaps]
  · rintro x ⟨hx, hp⟩
    by_cases h : (x : Int) < N
    · have w := wrap_i64s (show x < 2 ^ 62 by omega)
      have b1 : (bytesTo N).getD (0 + x * 1) 0 = (x : Int) := by rw [Nat.zero_add, Nat.mul_one]; exact bytesTo_get (by omega)
      have v1 : 0 + x * 1 < N := by omega
      simp only [absE, absL, absF, reduceCtorEq, ↓reduceIte, Nat.reduceEqDiff, Nat.reduceAdd, Nat.reduceLT, Nat.reduceMul, Nat.reduceSub, Nat.reduceLeDiff, Int.reduceLT, Int.reduceLE, Int.reduceEq, Option.isSome_some, implies_true, false_implies, Prod.mk.injEq, ne_eq, not_false_eq_true, not_true_eq_false, ge_iff_le, gt_iff_lt, Int.toNat_natCast, Int.reduceToNat, Int.cast_ofNat_Int, Int.natCast_nonneg, h, b1, v1]
      refine CallsVia.none (elements_ok N t hN) ?_
      rintro _ _ _ ⟨rfl, rfl, rfl⟩
      simp only [absE, absL, absF, reduceCtorEq, ↓reduceIte, Nat.reduceEqDiff, Nat.reduceAdd, Nat.reduceLT, Nat.reduceMul, Nat.reduceSub, Nat.reduceLeDiff, Int.reduceLT, Int.reduceLE, Int.reduceEq, Option.isSome_some, implies_true, false_implies, Prod.mk.injEq, ne_eq, not_false_eq_true, not_true_eq_false, ge_iff_le, gt_iff_lt, Int.toNat_natCast, Int.reduceToNat, Int.cast_ofNat_Int, Int.natCast_nonneg]
      refine awpLoop.intro (fun y : Nat => [(1, .ref (.fn f [(0, 0, 0, 0), (0, 1, 0, 0), (0, 2, 0, 0)])), (2, .ref (.ptr 1 0 0 0)), (10, .ref (.sl 4 0 0 0 N 1)), (11, .i .i64 N), (12, .i .i64 x), (6, .i .u8 x), (17, .ref (.sl 12 0 0 0 N 1)), (18, .i .i64 N), (19, .i .i64 y)]) (fun y => ⟨[.lv true g0, .lv true g1, .lv true g2], [((1, 0), .lv true (sqS N t)), ((4, 0), .lv true ([(0, .ints .u8 N (bytesTo N))])), ((12, 0), .lv true ([(0, .ints .u8 N (bytesTo N))]))], 15⟩)
        (fun y => y ≤ N ∧ ∀ j, j < y → g x j = true) (fun y => N - y) 0 ⟨by omega, fun j hj => absurd hj (by omega)⟩ ⟨[((1,0),(1,0)), ((4,0),(4,0)), ((12,0),(12,0))], rfl, ?_, ?_⟩ ?_
      · simp [wkEnv, lk, renV, renAt, renTo, e0, e1, e2, renCaps]
      · simp [wkMem, wkLoc, Mem.get, assoc, renBlk, renSegs, renSg, renTo, e0, e1, e2, renCaps]
      · rintro y ⟨hy, hq⟩
        by_cases h' : (y : Int) < N
        · have w' := wrap_i64s (show y < 2 ^ 62 by omega)
          have b2 : (bytesTo N).getD (0 + y * 1) 0 = (y : Int) := by rw [Nat.zero_add, Nat.mul_one]; exact bytesTo_get (by omega)
          have v2 : 0 + y * 1 < N := by omega
          simp only [absE, absL, absF, reduceCtorEq, ↓reduceIte, Nat.reduceEqDiff, Nat.reduceAdd, Nat.reduceLT, Nat.reduceMul, Nat.reduceSub, Nat.reduceLeDiff, Int.reduceLT, Int.reduceLE, Int.reduceEq, Option.isSome_some, implies_true, false_implies, Prod.mk.injEq, ne_eq, not_false_eq_true, not_true_eq_false, ge_iff_le, gt_iff_lt, Int.toNat_natCast, Int.reduceToNat, Int.cast_ofNat_Int, Int.natCast_nonneg, h', b2, v2]
          refine CallsVia.args [(0, 0), (0, 1), (0, 2)] (hf x y (by omega) (by omega)) (by simp) (by simp [Mem.get]) rfl (by simp [argBlks, Mem.get, renBlk, e0, e1, e2]) ?_
          rintro _ _ _ ⟨rfl, rfl, rfl⟩
          cases hb : g x y
          · simp only [absE, absL, absF, reduceCtorEq, ↓reduceIte, Nat.reduceEqDiff, Nat.reduceAdd, Nat.reduceLT, Nat.reduceMul, Nat.reduceSub, Nat.reduceLeDiff, Int.reduceLT, Int.reduceLE, Int.reduceEq, Option.isSome_some, implies_true, false_implies, Prod.mk.injEq, ne_eq, not_false_eq_true, not_true_eq_false, ge_iff_le, gt_iff_lt, Int.toNat_natCast, Int.reduceToNat, Int.cast_ofNat_Int, Int.natCast_nonneg, e0, e1, e2, Try.results123]
            have hf : pairsB N g = false := pairsB_false fun hu => by rw [hu x (by omega) y (by omega)] at hb; cases hb
            exact ⟨[], by simp, by simp, by simp [renV, renVs, renSegs, renSg, renBlk, e0, e1, e2, hf]⟩
          · simp only [absE, absL, absF, reduceCtorEq, ↓reduceIte, Nat.reduceEqDiff, Nat.reduceAdd, Nat.reduceLT, Nat.reduceMul, Nat.reduceSub, Nat.reduceLeDiff, Int.reduceLT, Int.reduceLE, Int.reduceEq, Option.isSome_some, implies_true, false_implies, Prod.mk.injEq, ne_eq, not_false_eq_true, not_true_eq_false, ge_iff_le, gt_iff_lt, Int.toNat_natCast, Int.reduceToNat, Int.cast_ofNat_Int, Int.natCast_nonneg, e0, e1, e2]
            refine LoopNext.intro (y + 1) ⟨by omega, fun j hj => ?_⟩ (by omega) ⟨[((1,0),(1,0)), ((4,0),(4,0)), ((12,0),(12,0))], rfl, ?_, ?_⟩
            · by_cases ej : j = y
              · subst ej; exact hb
              · exact hq j (by omega)
            · simp [wkEnv, lk, renV, renAt, renTo, e0, e1, e2, w', renCaps]
            · simp [wkMem, wkLoc, Mem.get, assoc, renBlk, renSegs, renSg, renTo, e0, e1, e2, w', renCaps]
        · simp only [absE, absL, absF, reduceCtorEq, ↓reduceIte, Nat.reduceEqDiff, Nat.reduceAdd, Nat.reduceLT, Nat.reduceMul, Nat.reduceSub, Nat.reduceLeDiff, Int.reduceLT, Int.reduceLE, Int.reduceEq, Option.isSome_some, implies_true, false_implies, Prod.mk.injEq, ne_eq, not_false_eq_true, not_true_eq_false, ge_iff_le, gt_iff_lt, Int.toNat_natCast, Int.reduceToNat, Int.cast_ofNat_Int, Int.natCast_nonneg, h', w]
          refine LoopNext.intro (x + 1) ⟨by omega, fun j hj => ?_⟩ (by omega) ⟨[((1,0),(1,0)), ((4,0),(4,0))], rfl, ?_, ?_⟩
          · by_cases ej : j = x
            · subst ej; exact fun y hy' => hq y (by omega)
            · exact hp j (by omega)
          · simp [wkEnv, lk, renV, renAt, renTo, e0, e1, e2, renCaps]
          · simp [wkMem, wkLoc, Mem.get, assoc, renBlk, renSegs, renSg, renTo, e0, e1, e2, renCaps]
    · simp only [absE, absL, absF, reduceCtorEq, ↓reduceIte, Nat.reduceEqDiff, Nat.reduceAdd, Nat.reduceLT, Nat.reduceMul, Nat.reduceSub, Nat.reduceLeDiff, Int.reduceLT, Int.reduceLE, Int.reduceEq, Option.isSome_some, implies_true, false_implies, Prod.mk.injEq, ne_eq, not_false_eq_true, not_true_eq_false, ge_iff_le, gt_iff_lt, Int.toNat_natCast, Int.reduceToNat, Int.cast_ofNat_Int, Int.natCast_nonneg, h, Try.results123]
      have hf : pairsB N g = true := pairsB_true fun j hj => hp j (by omega)
      exact ⟨[], by simp, by simp, by simp [renV, renVs, renSegs, renSg, renBlk, e0, e1, e2, hf]⟩

end Go.Proofs.Ytoccbgffekhcaaa
