/-
Contracts of functions of the given program, by the abstract walk.
-/
import Derived.Test.YtcaadjjgggjefaaAbsY
import Derived.Test.YtcaadjjgggjefaaHc
import Derived.Test.YtcaadjjgggjefaaDp
import Derived.Test.YtcaadjjgggjefaaEb
namespace Go.Proofs.Ytcaadjjgggjefaa
open Go Go.Abs
set_option linter.unusedVariables false
set_option linter.unusedSectionVars false
set_option linter.unusedSimpArgs false
set_option maxRecDepth 100000
/-! 'places' and the subloops that are groups -/
def AnyP (N : Nat) (g : Nat → Nat → Nat → Bool) : Prop := ∃ x y z, x < N ∧ y < N ∧ z < N ∧ g x y z = true
open Classical in
noncomputable def anyB (N : Nat) (g : Nat → Nat → Nat → Bool) : Bool := decide (AnyP N g)
theorem anyB_true {N : Nat} {g : Nat → Nat → Nat → Bool} (h : AnyP N g) : anyB N g = true := by unfold anyB; exact @decide_eq_true _ (_) h
theorem anyB_false {N : Nat} {g : Nat → Nat → Nat → Bool} (h : ¬AnyP N g) : anyB N g = false := by unfold anyB; exact @decide_eq_false _ (_) h
theorem anyB_iff {N : Nat} {g : Nat → Nat → Nat → Bool} : anyB N g = true ↔ AnyP N g := by unfold anyB; exact @decide_eq_true_iff _ (_)
theorem places2_ok (N : Nat) (t : List Int) (hN : N ≤ 10) (f : FuncId) (g : Nat → Nat → Nat → Bool) (g0 g1 : Segs) (e0 : ∀ ρ, renSegs ρ g0 = g0) (e1 : ∀ ρ, renSegs ρ g1 = g1)
    (hf : ∀ x y z, x < N → y < N → z < N → ACalls Try.prog f (.agg [(0, .ints .u8 3 [(x : Int), (y : Int), (z : Int)])] :: [.ref (.ptr 0 0 0 0), .ref (.ptr 0 1 0 0)]) [.lv true g0, .lv true g1] (fun v ms ns => v = .b (g x y z) ∧ ms = [.lv true g0, .lv true g1] ∧ ns = [])) :
    ACalls Try.prog 94 [.agg (sqS N t), .ref (.fn f [(0, 0, 0, 0), (0, 1, 0, 0)])] [.lv true g0, .lv true g1] (fun v ms ns => v = .b (anyB N g) ∧ ms = [.lv true g0, .lv true g1] ∧ ns = []) := by
  refine acalls_of_body mix Try.func94 rfl fok94 (Nat.le_of_ble_eq_true rfl) ?_
  unfold abody
  simp only [absE, absL, absF, reduceCtorEq, ↓reduceIte, Nat.reduceEqDiff, Nat.reduceAdd, Nat.reduceLT, Nat.reduceMul, Nat.reduceSub, Nat.reduceLeDiff, Int.reduceLT, Int.reduceLE, Int.reduceEq, Option.isSome_some, implies_true, false_implies, Prod.mk.injEq, ne_eq, not_false_eq_true, not_true_eq_false, ge_iff_le, gt_iff_lt, Int.toNat_natCast, Int.reduceToNat, Int.cast_ofNat_Int, Int.natCast_nonneg, Try.f94]
  refine CallsVia.none (elements_ok N t hN) ?_
  rintro _ _ _ ⟨rfl, rfl, rfl⟩
  simp only [absE, absL, absF, reduceCtorEq, ↓reduceIte, Nat.reduceEqDiff, Nat.reduceAdd, Nat.reduceLT, Nat.reduceMul, Nat.reduceSub, Nat.reduceLeDiff, Int.reduceLT, Int.reduceLE, Int.reduceEq, Option.isSome_some, implies_true, false_implies, Prod.mk.injEq, ne_eq, not_false_eq_true, not_true_eq_false, ge_iff_le, gt_iff_lt, Int.toNat_natCast, Int.reduceToNat, Int.cast_ofNat_Int, Int.natCast_nonneg]
  refine awpLoop.intro (fun x : Nat => [(1, .ref (.fn f [(0, 0, 0, 0), (0, 1, 0, 0)])), (2, .ref (.ptr 1 0 0 0)), (12, .ref (.sl 4 0 0 0 N 1)), (13, .i .i64 N), (14, .i .i64 x)]) (fun x => ⟨[.lv true g0, .lv true g1], [((1, 0), .lv true (sqS N t)), ((4, 0), .lv true ([(0, .ints .u8 N (bytesTo N))]))], 7⟩)
    (fun x => x ≤ N ∧ ∀ j, j < x → ∀ y z, y < N → z < N → g j y z = false) (fun x => N - x) 0 ⟨by omega, fun j hj => absurd hj (by omega)⟩ ⟨[((1,0),(1,0)), ((4,0),(4,0))], rfl, ?_, ?_⟩ ?_
  · simp [wkEnv, lk, renV, renAt, renTo, e0, e1, renCaps]
  · simp [wkMem, wkLoc, Mem.get, assoc, renBlk, renSegs, renSg, renTo, e0, e1, renCaps]
  · rintro x ⟨hx, hp⟩
    by_cases h : (x : Int) < N
    · have w := wrap_i64s (show x < 2 ^ 62 by omega)
      have b1 : (bytesTo N).getD (0 + x * 1) 0 = (x : Int) := by rw [Nat.zero_add, Nat.mul_one]; exact bytesTo_get (by omega)
      have v1 : 0 + x * 1 < N := by omega
      simp only [absE, absL, absF, reduceCtorEq, ↓reduceIte, Nat.reduceEqDiff, Nat.reduceAdd, Nat.reduceLT, Nat.reduceMul, Nat.reduceSub, Nat.reduceLeDiff, Int.reduceLT, Int.reduceLE, Int.reduceEq, Option.isSome_some, implies_true, false_implies, Prod.mk.injEq, ne_eq, not_false_eq_true, not_true_eq_false, ge_iff_le, gt_iff_lt, Int.toNat_natCast, Int.reduceToNat, Int.cast_ofNat_Int, Int.natCast_nonneg, h, b1, v1]
      refine CallsVia.none (elements_ok N t hN) ?_
      rintro _ _ _ ⟨rfl, rfl, rfl⟩
      simp only [absE, absL, absF, reduceCtorEq, ↓reduceIte, Nat.reduceEqDiff, Nat.reduceAdd, Nat.reduceLT, Nat.reduceMul, Nat.reduceSub, Nat.reduceLeDiff, Int.reduceLT, Int.reduceLE, Int.reduceEq, Option.isSome_some, implies_true, false_implies, Prod.mk.injEq, ne_eq, not_false_eq_true, not_true_eq_false, ge_iff_le, gt_iff_lt, Int.toNat_natCast, Int.reduceToNat, Int.cast_ofNat_Int, Int.natCast_nonneg]
      refine awpLoop.intro (fun y : Nat => [(1, .ref (.fn f [(0, 0, 0, 0), (0, 1, 0, 0)])), (2, .ref (.ptr 1 0 0 0)), (12, .ref (.sl 4 0 0 0 N 1)), (13, .i .i64 N), (14, .i .i64 x), (6, .i .u8 x), (19, .ref (.sl 12 0 0 0 N 1)), (20, .i .i64 N), (21, .i .i64 y)]) (fun y => ⟨[.lv true g0, .lv true g1], [((1, 0), .lv true (sqS N t)), ((4, 0), .lv true ([(0, .ints .u8 N (bytesTo N))])), ((12, 0), .lv true ([(0, .ints .u8 N (bytesTo N))]))], 15⟩)
        (fun y => y ≤ N ∧ ∀ j, j < y → ∀ z, z < N → g x j z = false) (fun y => N - y) 0 ⟨by omega, fun j hj => absurd hj (by omega)⟩ ⟨[((1,0),(1,0)), ((4,0),(4,0)), ((12,0),(12,0))], rfl, ?_, ?_⟩ ?_
      · simp [wkEnv, lk, renV, renAt, renTo, e0, e1, renCaps]
      · simp [wkMem, wkLoc, Mem.get, assoc, renBlk, renSegs, renSg, renTo, e0, e1, renCaps]
      · rintro y ⟨hy, hq⟩
        by_cases h' : (y : Int) < N
        · have w' := wrap_i64s (show y < 2 ^ 62 by omega)
          have b2 : (bytesTo N).getD (0 + y * 1) 0 = (y : Int) := by rw [Nat.zero_add, Nat.mul_one]; exact bytesTo_get (by omega)
          have v2 : 0 + y * 1 < N := by omega
          simp only [absE, absL, absF, reduceCtorEq, ↓reduceIte, Nat.reduceEqDiff, Nat.reduceAdd, Nat.reduceLT, Nat.reduceMul, Nat.reduceSub, Nat.reduceLeDiff, Int.reduceLT, Int.reduceLE, Int.reduceEq, Option.isSome_some, implies_true, false_implies, Prod.mk.injEq, ne_eq, not_false_eq_true, not_true_eq_false, ge_iff_le, gt_iff_lt, Int.toNat_natCast, Int.reduceToNat, Int.cast_ofNat_Int, Int.natCast_nonneg, h', b2, v2]
          refine CallsVia.none (elements_ok N t hN) ?_
          rintro _ _ _ ⟨rfl, rfl, rfl⟩
          simp only [absE, absL, absF, reduceCtorEq, ↓reduceIte, Nat.reduceEqDiff, Nat.reduceAdd, Nat.reduceLT, Nat.reduceMul, Nat.reduceSub, Nat.reduceLeDiff, Int.reduceLT, Int.reduceLE, Int.reduceEq, Option.isSome_some, implies_true, false_implies, Prod.mk.injEq, ne_eq, not_false_eq_true, not_true_eq_false, ge_iff_le, gt_iff_lt, Int.toNat_natCast, Int.reduceToNat, Int.cast_ofNat_Int, Int.natCast_nonneg]
          refine awpLoop.intro (fun z : Nat => [(1, .ref (.fn f [(0, 0, 0, 0), (0, 1, 0, 0)])), (2, .ref (.ptr 1 0 0 0)), (12, .ref (.sl 4 0 0 0 N 1)), (13, .i .i64 N), (14, .i .i64 x), (6, .i .u8 x), (19, .ref (.sl 12 0 0 0 N 1)), (20, .i .i64 N), (21, .i .i64 y), (8, .i .u8 y), (26, .ref (.sl 20 0 0 0 N 1)), (27, .i .i64 N), (28, .i .i64 z)]) (fun z => ⟨[.lv true g0, .lv true g1], [((1, 0), .lv true (sqS N t)), ((4, 0), .lv true ([(0, .ints .u8 N (bytesTo N))])), ((12, 0), .lv true ([(0, .ints .u8 N (bytesTo N))])), ((20, 0), .lv true ([(0, .ints .u8 N (bytesTo N))]))], 23⟩)
            (fun z => z ≤ N ∧ ∀ j, j < z → g x y j = false) (fun z => N - z) 0 ⟨by omega, fun j hj => absurd hj (by omega)⟩ ⟨[((1,0),(1,0)), ((4,0),(4,0)), ((12,0),(12,0)), ((20,0),(20,0))], rfl, ?_, ?_⟩ ?_
          · simp [wkEnv, lk, renV, renAt, renTo, e0, e1, renCaps]
          · simp [wkMem, wkLoc, Mem.get, assoc, renBlk, renSegs, renSg, renTo, e0, e1, renCaps]
          · rintro z ⟨hz, hr⟩
            by_cases h3 : (z : Int) < N
            · have w3 := wrap_i64s (show z < 2 ^ 62 by omega)
              have b3 : (bytesTo N).getD (0 + z * 1) 0 = (z : Int) := by rw [Nat.zero_add, Nat.mul_one]; exact bytesTo_get (by omega)
              have v3 : 0 + z * 1 < N := by omega
              simp only [absE, absL, absF, reduceCtorEq, ↓reduceIte, Nat.reduceEqDiff, Nat.reduceAdd, Nat.reduceLT, Nat.reduceMul, Nat.reduceSub, Nat.reduceLeDiff, Int.reduceLT, Int.reduceLE, Int.reduceEq, Option.isSome_some, implies_true, false_implies, Prod.mk.injEq, ne_eq, not_false_eq_true, not_true_eq_false, ge_iff_le, gt_iff_lt, Int.toNat_natCast, Int.reduceToNat, Int.cast_ofNat_Int, Int.natCast_nonneg, h3, b3, v3]
              refine CallsVia.args [(0, 0), (0, 1)] (hf x y z (by omega) (by omega) (by omega)) (by simp) (by simp [Mem.get]) rfl (by simp [argBlks, Mem.get, renBlk, e0, e1]) ?_
              rintro _ _ _ ⟨rfl, rfl, rfl⟩
              cases hb : g x y z
              · simp only [absE, absL, absF, reduceCtorEq, ↓reduceIte, Nat.reduceEqDiff, Nat.reduceAdd, Nat.reduceLT, Nat.reduceMul, Nat.reduceSub, Nat.reduceLeDiff, Int.reduceLT, Int.reduceLE, Int.reduceEq, Option.isSome_some, implies_true, false_implies, Prod.mk.injEq, ne_eq, not_false_eq_true, not_true_eq_false, ge_iff_le, gt_iff_lt, Int.toNat_natCast, Int.reduceToNat, Int.cast_ofNat_Int, Int.natCast_nonneg, e0, e1]
                refine LoopNext.intro (z + 1) ⟨by omega, fun j hj => ?_⟩ (by omega) ⟨[((1,0),(1,0)), ((4,0),(4,0)), ((12,0),(12,0)), ((20,0),(20,0))], rfl, ?_, ?_⟩
                · by_cases ej : j = z
                  · subst ej; exact hb
                  · exact hr j (by omega)
                · simp [wkEnv, lk, renV, renAt, renTo, e0, e1, w3, renCaps]
                · simp [wkMem, wkLoc, Mem.get, assoc, renBlk, renSegs, renSg, renTo, e0, e1, w3, renCaps]
              · simp only [absE, absL, absF, reduceCtorEq, ↓reduceIte, Nat.reduceEqDiff, Nat.reduceAdd, Nat.reduceLT, Nat.reduceMul, Nat.reduceSub, Nat.reduceLeDiff, Int.reduceLT, Int.reduceLE, Int.reduceEq, Option.isSome_some, implies_true, false_implies, Prod.mk.injEq, ne_eq, not_false_eq_true, not_true_eq_false, ge_iff_le, gt_iff_lt, Int.toNat_natCast, Int.reduceToNat, Int.cast_ofNat_Int, Int.natCast_nonneg, e0, e1, Try.results94]
                have hf : anyB N g = true := anyB_true ⟨x, y, z, by omega, by omega, by omega, hb⟩
                exact ⟨[], by simp, by simp, by simp [renV, renVs, renSegs, renSg, renBlk, e0, e1, hf]⟩
            · simp only [absE, absL, absF, reduceCtorEq, ↓reduceIte, Nat.reduceEqDiff, Nat.reduceAdd, Nat.reduceLT, Nat.reduceMul, Nat.reduceSub, Nat.reduceLeDiff, Int.reduceLT, Int.reduceLE, Int.reduceEq, Option.isSome_some, implies_true, false_implies, Prod.mk.injEq, ne_eq, not_false_eq_true, not_true_eq_false, ge_iff_le, gt_iff_lt, Int.toNat_natCast, Int.reduceToNat, Int.cast_ofNat_Int, Int.natCast_nonneg, h3, w']
              refine LoopNext.intro (y + 1) ⟨by omega, fun j hj => ?_⟩ (by omega) ⟨[((1,0),(1,0)), ((4,0),(4,0)), ((12,0),(12,0))], rfl, ?_, ?_⟩
              · by_cases ej : j = y
                · subst ej; exact fun z hz' => hr z (by omega)
                · exact hq j (by omega)
              · simp [wkEnv, lk, renV, renAt, renTo, e0, e1, renCaps]
              · simp [wkMem, wkLoc, Mem.get, assoc, renBlk, renSegs, renSg, renTo, e0, e1, renCaps]
        · simp only [absE, absL, absF, reduceCtorEq, ↓reduceIte, Nat.reduceEqDiff, Nat.reduceAdd, Nat.reduceLT, Nat.reduceMul, Nat.reduceSub, Nat.reduceLeDiff, Int.reduceLT, Int.reduceLE, Int.reduceEq, Option.isSome_some, implies_true, false_implies, Prod.mk.injEq, ne_eq, not_false_eq_true, not_true_eq_false, ge_iff_le, gt_iff_lt, Int.toNat_natCast, Int.reduceToNat, Int.cast_ofNat_Int, Int.natCast_nonneg, h', w]
          refine LoopNext.intro (x + 1) ⟨by omega, fun j hj => ?_⟩ (by omega) ⟨[((1,0),(1,0)), ((4,0),(4,0))], rfl, ?_, ?_⟩
          · by_cases ej : j = x
            · subst ej; exact fun y z hy' hz' => hq y (by omega) z hz'
            · exact hp j (by omega)
          · simp [wkEnv, lk, renV, renAt, renTo, e0, e1, renCaps]
          · simp [wkMem, wkLoc, Mem.get, assoc, renBlk, renSegs, renSg, renTo, e0, e1, renCaps]
    · simp only [absE, absL, absF, reduceCtorEq, ↓reduceIte, Nat.reduceEqDiff, Nat.reduceAdd, Nat.reduceLT, Nat.reduceMul, Nat.reduceSub, Nat.reduceLeDiff, Int.reduceLT, Int.reduceLE, Int.reduceEq, Option.isSome_some, implies_true, false_implies, Prod.mk.injEq, ne_eq, not_false_eq_true, not_true_eq_false, ge_iff_le, gt_iff_lt, Int.toNat_natCast, Int.reduceToNat, Int.cast_ofNat_Int, Int.natCast_nonneg, h, Try.results94]
      have hf : anyB N g = false := anyB_false fun ⟨a, b, c, ha, hb, hc, hg⟩ => by rw [hp a (by omega) b c hb hc] at hg; cases hg
      exact ⟨[], by simp, by simp, by simp [renV, renVs, renSegs, renSg, renBlk, e0, e1, hf]⟩
/-- 'p' (the marks) are a group. -/
def GrpP (t : List Int) (p : Nat → Bool) : Prop := ∀ a b c, p a = true → p b = true → p c = true → assoc3 t a b c = true
open Classical in
noncomputable def grpB (t : List Int) (p : Nat → Bool) : Bool := decide (GrpP t p)
theorem grpB_true {t : List Int} {p : Nat → Bool} (h : GrpP t p) : grpB t p = true := by unfold grpB; exact @decide_eq_true _ (_) h
theorem grpB_false {t : List Int} {p : Nat → Bool} (h : ¬GrpP t p) : grpB t p = false := by unfold grpB; exact @decide_eq_false _ (_) h
theorem grpB_iff {t : List Int} {p : Nat → Bool} : grpB t p = true ↔ GrpP t p := by unfold grpB; exact @decide_eq_true_iff _ (_)
def two (x y z : Nat) : Prop := z = x ∨ z = y
noncomputable def mgB (N : Nat) (t : List Int) (x y : Nat) : Bool := grpB t (genB N t (two x y))
def mgG (s : Nat) (t : List Int) (x y z : Nat) : Bool := s.testBit x && s.testBit y && s.testBit z && !assoc3 t x y z
theorem makesGroup1_ok (N : Nat) (t : List Int) (s : Nat) (ht : Bytes 100 t) (hs : SqP N t) (h62 : s < 2 ^ 62) (x y z : Nat) (hx : x < N) (hy : y < N) (hz : z < N) :
    ACalls Try.prog 95 [.agg [(0, .ints .u8 3 [(x : Int), (y : Int), (z : Int)])], .ref (.ptr 0 0 0 0), .ref (.ptr 0 1 0 0)] [.lv true [(0, .ints .i64 1 [(s : Int)])], .lv true (sqS N t)]
      (fun v ms ns => v = .b (mgG s t x y z) ∧ ms = [.lv true [(0, .ints .i64 1 [(s : Int)])], .lv true (sqS N t)] ∧ ns = []) := by
  have hN := hs.le
  refine acalls_of_body mix Try.func95 rfl fok95 (Nat.le_of_ble_eq_true rfl) ?_
  unfold abody
  simp only [absE, absL, absF, reduceCtorEq, ↓reduceIte, Nat.reduceEqDiff, Nat.reduceAdd, Nat.reduceLT, Nat.reduceMul, Nat.reduceSub, Nat.reduceLeDiff, Int.reduceLT, Int.reduceLE, Int.reduceEq, Option.isSome_some, implies_true, false_implies, Prod.mk.injEq, ne_eq, not_false_eq_true, not_true_eq_false, ge_iff_le, gt_iff_lt, Int.toNat_natCast, Int.reduceToNat, Int.cast_ofNat_Int, Int.natCast_nonneg, List.getD_cons_zero, List.getD_cons_succ, Try.f95]
  refine CallsVia.none (setHas_ok s x h62 (by omega)) ?_
  rintro _ _ _ ⟨rfl, rfl, rfl⟩
  cases h1 : s.testBit x
  · simp only [absE, absL, absF, reduceCtorEq, ↓reduceIte, Nat.reduceEqDiff, Nat.reduceAdd, Nat.reduceLT, Nat.reduceMul, Nat.reduceSub, Nat.reduceLeDiff, Int.reduceLT, Int.reduceLE, Int.reduceEq, Option.isSome_some, implies_true, false_implies, Prod.mk.injEq, ne_eq, not_false_eq_true, not_true_eq_false, ge_iff_le, gt_iff_lt, Int.toNat_natCast, Int.reduceToNat, Int.cast_ofNat_Int, Int.natCast_nonneg, Try.results95]
    exact ⟨[], by simp, by simp, by simp [renV, renVs, renSegs, renSg, renBlk, mgG, h1]⟩
  · simp only [absE, absL, absF, reduceCtorEq, ↓reduceIte, Nat.reduceEqDiff, Nat.reduceAdd, Nat.reduceLT, Nat.reduceMul, Nat.reduceSub, Nat.reduceLeDiff, Int.reduceLT, Int.reduceLE, Int.reduceEq, Option.isSome_some, implies_true, false_implies, Prod.mk.injEq, ne_eq, not_false_eq_true, not_true_eq_false, ge_iff_le, gt_iff_lt, Int.toNat_natCast, Int.reduceToNat, Int.cast_ofNat_Int, Int.natCast_nonneg, List.getD_cons_zero, List.getD_cons_succ]
    refine CallsVia.none (setHas_ok s y h62 (by omega)) ?_
    rintro _ _ _ ⟨rfl, rfl, rfl⟩
    cases h2 : s.testBit y
    · simp only [absE, absL, absF, reduceCtorEq, ↓reduceIte, Nat.reduceEqDiff, Nat.reduceAdd, Nat.reduceLT, Nat.reduceMul, Nat.reduceSub, Nat.reduceLeDiff, Int.reduceLT, Int.reduceLE, Int.reduceEq, Option.isSome_some, implies_true, false_implies, Prod.mk.injEq, ne_eq, not_false_eq_true, not_true_eq_false, ge_iff_le, gt_iff_lt, Int.toNat_natCast, Int.reduceToNat, Int.cast_ofNat_Int, Int.natCast_nonneg, Try.results95]
      exact ⟨[], by simp, by simp, by simp [renV, renVs, renSegs, renSg, renBlk, mgG, h1, h2]⟩
    · simp only [absE, absL, absF, reduceCtorEq, ↓reduceIte, Nat.reduceEqDiff, Nat.reduceAdd, Nat.reduceLT, Nat.reduceMul, Nat.reduceSub, Nat.reduceLeDiff, Int.reduceLT, Int.reduceLE, Int.reduceEq, Option.isSome_some, implies_true, false_implies, Prod.mk.injEq, ne_eq, not_false_eq_true, not_true_eq_false, ge_iff_le, gt_iff_lt, Int.toNat_natCast, Int.reduceToNat, Int.cast_ofNat_Int, Int.natCast_nonneg, List.getD_cons_zero, List.getD_cons_succ]
      refine CallsVia.none (setHas_ok s z h62 (by omega)) ?_
      rintro _ _ _ ⟨rfl, rfl, rfl⟩
      cases h3 : s.testBit z
      · simp only [absE, absL, absF, reduceCtorEq, ↓reduceIte, Nat.reduceEqDiff, Nat.reduceAdd, Nat.reduceLT, Nat.reduceMul, Nat.reduceSub, Nat.reduceLeDiff, Int.reduceLT, Int.reduceLE, Int.reduceEq, Option.isSome_some, implies_true, false_implies, Prod.mk.injEq, ne_eq, not_false_eq_true, not_true_eq_false, ge_iff_le, gt_iff_lt, Int.toNat_natCast, Int.reduceToNat, Int.cast_ofNat_Int, Int.natCast_nonneg, Try.results95]
        exact ⟨[], by simp, by simp, by simp [renV, renVs, renSegs, renSg, renBlk, mgG, h1, h2, h3]⟩
      · simp only [absE, absL, absF, reduceCtorEq, ↓reduceIte, Nat.reduceEqDiff, Nat.reduceAdd, Nat.reduceLT, Nat.reduceMul, Nat.reduceSub, Nat.reduceLeDiff, Int.reduceLT, Int.reduceLE, Int.reduceEq, Option.isSome_some, implies_true, false_implies, Prod.mk.injEq, ne_eq, not_false_eq_true, not_true_eq_false, ge_iff_le, gt_iff_lt, Int.toNat_natCast, Int.reduceToNat, Int.cast_ofNat_Int, Int.natCast_nonneg, List.getD_cons_zero, List.getD_cons_succ]
        refine CallsVia.none (associates_ok N t x y z ht hs hx hy hz) ?_
        rintro _ _ _ ⟨rfl, rfl, rfl⟩
        cases h4 : assoc3 t x y z
        · simp only [absE, absL, absF, reduceCtorEq, ↓reduceIte, Nat.reduceEqDiff, Nat.reduceAdd, Nat.reduceLT, Nat.reduceMul, Nat.reduceSub, Nat.reduceLeDiff, Int.reduceLT, Int.reduceLE, Int.reduceEq, Option.isSome_some, implies_true, false_implies, Prod.mk.injEq, ne_eq, not_false_eq_true, not_true_eq_false, ge_iff_le, gt_iff_lt, Int.toNat_natCast, Int.reduceToNat, Int.cast_ofNat_Int, Int.natCast_nonneg, Try.results95]
          exact ⟨[], by simp, by simp, by simp [renV, renVs, renSegs, renSg, renBlk, mgG, h1, h2, h3, h4]⟩
        · simp only [absE, absL, absF, reduceCtorEq, ↓reduceIte, Nat.reduceEqDiff, Nat.reduceAdd, Nat.reduceLT, Nat.reduceMul, Nat.reduceSub, Nat.reduceLeDiff, Int.reduceLT, Int.reduceLE, Int.reduceEq, Option.isSome_some, implies_true, false_implies, Prod.mk.injEq, ne_eq, not_false_eq_true, not_true_eq_false, ge_iff_le, gt_iff_lt, Int.toNat_natCast, Int.reduceToNat, Int.cast_ofNat_Int, Int.natCast_nonneg, Try.results95]
          exact ⟨[], by simp, by simp, by simp [renV, renVs, renSegs, renSg, renBlk, mgG, h1, h2, h3, h4]⟩
theorem makesGroup_ok (N : Nat) (t : List Int) (x y : Nat) (ht : Bytes 100 t) (hs : SqP N t) (hx : x < N) (hy : y < N) :
    ACalls Try.prog 55 [.agg (sqS N t), .i .u8 x, .i .u8 y] [] (fun v ms ns => v = .b (mgB N t x y) ∧ ms = [] ∧ ns = []) := by
  have hN := hs.le
  have s1 := wrap_shl (c := x) (by omega)
  have s2 := wrap_shl (c := y) (by omega)
  have q1 : (2 : Nat) ^ x < 2 ^ N := Nat.pow_lt_pow_right (by decide) hx
  have q2 : (2 : Nat) ^ y < 2 ^ N := Nat.pow_lt_pow_right (by decide) hy
  have hN2 : (2 : Nat) ^ N ≤ 2 ^ 10 := Nat.pow_le_pow_right (by decide) hN
  have o1 := wrap_or (a := 2 ^ x) (b := 2 ^ y) (by omega) (by omega)
  refine acalls_of_body mix Try.func55 rfl fok55 (Nat.le_of_ble_eq_true rfl) ?_
  unfold abody
  simp only [absE, absL, absF, reduceCtorEq, ↓reduceIte, Nat.reduceEqDiff, Nat.reduceAdd, Nat.reduceLT, Nat.reduceMul, Nat.reduceSub, Nat.reduceLeDiff, Int.reduceLT, Int.reduceLE, Int.reduceEq, Option.isSome_some, implies_true, false_implies, Prod.mk.injEq, ne_eq, not_false_eq_true, not_true_eq_false, ge_iff_le, gt_iff_lt, Int.toNat_natCast, Int.reduceToNat, Int.cast_ofNat_Int, Int.natCast_nonneg, s1, s2, o1, Try.f55]
  refine CallsVia.none (generated_ok N t (2 ^ x ||| 2 ^ y) (two x y) ht hs (Nat.or_lt_two_pow q1 q2) fun z => by
    simp only [Nat.testBit_or, Bool.or_eq_true, Nat.testBit_two_pow, decide_eq_true_iff, two]
    exact ⟨fun h => h.imp Eq.symm Eq.symm, fun h => h.imp Eq.symm Eq.symm⟩) ?_
  rintro _ _ _ ⟨rfl, rfl, rfl⟩
  simp only [absE, absL, absF, reduceCtorEq, ↓reduceIte, Nat.reduceEqDiff, Nat.reduceAdd, Nat.reduceLT, Nat.reduceMul, Nat.reduceSub, Nat.reduceLeDiff, Int.reduceLT, Int.reduceLE, Int.reduceEq, Option.isSome_some, implies_true, false_implies, Prod.mk.injEq, ne_eq, not_false_eq_true, not_true_eq_false, ge_iff_le, gt_iff_lt, Int.toNat_natCast, Int.reduceToNat, Int.cast_ofNat_Int, Int.natCast_nonneg]
  have e : anyB N (mgG (setM (genB N t (two x y)) N) t) = !mgB N t x y := by
    have hlt : ∀ z, genB N t (two x y) z = true → z < N := fun z hz => Gen.lt hs (fun w hw => by rcases hw with rfl | rfl <;> assumption) (genB_iff.1 hz)
    have hb : ∀ z, z < N → (setM (genB N t (two x y)) N).testBit z = genB N t (two x y) z := fun z hz => by rw [setM_bit, decide_eq_true hz, Bool.true_and]
    cases hm : mgB N t x y
    · refine anyB_true (Classical.byContradiction fun hn => ?_)
      have : mgB N t x y = true := grpB_true fun a b c ha hb' hc => by
        cases h4 : assoc3 t a b c
        · exact absurd ⟨a, b, c, hlt a ha, hlt b hb', hlt c hc, by simp [mgG, hb, hlt a ha, hlt b hb', hlt c hc, ha, hb', hc, h4]⟩ hn
        · rfl
      rw [this] at hm; cases hm
    · refine anyB_false fun ⟨a, b, c, ha, hb', hc, hg⟩ => ?_
      simp only [mgG, hb a ha, hb b hb', hb c hc, Bool.and_eq_true, Bool.not_eq_true'] at hg
      rw [grpB_iff.1 hm a b c hg.1.1.1 hg.1.1.2 hg.1.2] at hg
      cases hg.2
  refine CallsVia.args [(10, 0), (1, 0)] (places2_ok N t hN 95 (mgG (setM (genB N t (two x y)) N) t) [(0, .ints .i64 1 [((setM (genB N t (two x y)) N : Nat) : Int)])] (sqS N t) (fun ρ => by simp [renSegs, renSg]) (fun ρ => by simp [renSegs, renSg]) (fun a b c ha hb hc => makesGroup1_ok N t _ ht hs (setM_small hN) a b c ha hb hc)) (by simp) (by simp [Mem.get, assoc]) rfl rfl ?_
  rintro _ _ _ ⟨rfl, rfl, rfl⟩
  simp only [absE, absL, absF, reduceCtorEq, ↓reduceIte, Nat.reduceEqDiff, Nat.reduceAdd, Nat.reduceLT, Nat.reduceMul, Nat.reduceSub, Nat.reduceLeDiff, Int.reduceLT, Int.reduceLE, Int.reduceEq, Option.isSome_some, implies_true, false_implies, Prod.mk.injEq, ne_eq, not_false_eq_true, not_true_eq_false, ge_iff_le, gt_iff_lt, Int.toNat_natCast, Int.reduceToNat, Int.cast_ofNat_Int, Int.natCast_nonneg, e, Try.results55]
  exact ⟨[], by simp, by simp, by simp [renV, renVs, renSegs, renSg]⟩

end Go.Proofs.Ytcaadjjgggjefaa
