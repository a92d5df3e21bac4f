/-
Contracts of functions of the given program, by the abstract walk.
-/
import Derived.Test.YtgblnnodoabdeaaAbsY
import Derived.Test.YtgblnnodoabdeaaCc
namespace Go.Proofs.Ytgblnnodoabdeaa
open Go Go.Abs
set_option linter.unusedVariables false
set_option linter.unusedSectionVars false
set_option linter.unusedSimpArgs false
set_option maxRecDepth 100000
/-! lists of places in the laws: flat bytes -/
theorem eqPlacesS_nn : ACalls Try.prog 30 [.ref .nils, .ref .nils] [] (fun v ms ns => v = .b true ∧ ms = [] ∧ ns = []) := by
  refine acalls_of_body mix Try.func30 rfl fok30 (Nat.le_of_ble_eq_true rfl) ?_
  unfold abody
  simp only [absE, absL, absF, reduceCtorEq, ↓reduceIte, Nat.reduceEqDiff, Nat.reduceAdd, Nat.reduceLT, Nat.reduceMul, Nat.reduceSub, Nat.reduceLeDiff, Int.reduceLT, Int.reduceLE, Int.reduceEq, Option.isSome_some, implies_true, false_implies, Prod.mk.injEq, ne_eq, not_false_eq_true, not_true_eq_false, ge_iff_le, gt_iff_lt, Int.toNat_natCast, Int.reduceToNat, Int.cast_ofNat_Int, Int.natCast_nonneg, Try.f30]
  refine awpLoop.intro (fun i : Nat => [(0, .ref .nils), (1, .ref .nils), (5, .i .i64 i)]) (fun i => ⟨[], [], 8⟩) (fun i => i = 0) (fun i => 0) 0 rfl ⟨[], rfl, ?_, ?_⟩ ?_
  · simp [wkEnv, lk, renV, renAt, renTo]
  · simp [wkMem, wkLoc, Mem.get, assoc, renBlk, renSegs, renSg, renTo]
  · rintro _ rfl
    simp only [absE, absL, absF, reduceCtorEq, ↓reduceIte, Nat.reduceEqDiff, Nat.reduceAdd, Nat.reduceLT, Nat.reduceMul, Nat.reduceSub, Nat.reduceLeDiff, Int.reduceLT, Int.reduceLE, Int.reduceEq, Option.isSome_some, implies_true, false_implies, Prod.mk.injEq, ne_eq, not_false_eq_true, not_true_eq_false, ge_iff_le, gt_iff_lt, Int.toNat_natCast, Int.reduceToNat, Int.cast_ofNat_Int, Int.natCast_nonneg, Try.results30]
    exact ⟨[], by simp, by simp, by simp [renV, renVs, renSegs, renSg]⟩
theorem eqPlacesS_bn (f : List Int) : ACalls Try.prog 30 [.ref (.sl 0 0 0 0 0 10), .ref .nils] [.lv true [(0, .ints .u8 0 f)]] (fun v ms ns => v = .b true ∧ ms = [.lv true [(0, .ints .u8 0 f)]] ∧ ns = []) := by
  refine acalls_of_body mix Try.func30 rfl fok30 (Nat.le_of_ble_eq_true rfl) ?_
  unfold abody
  simp only [absE, absL, absF, reduceCtorEq, ↓reduceIte, Nat.reduceEqDiff, Nat.reduceAdd, Nat.reduceLT, Nat.reduceMul, Nat.reduceSub, Nat.reduceLeDiff, Int.reduceLT, Int.reduceLE, Int.reduceEq, Option.isSome_some, implies_true, false_implies, Prod.mk.injEq, ne_eq, not_false_eq_true, not_true_eq_false, ge_iff_le, gt_iff_lt, Int.toNat_natCast, Int.reduceToNat, Int.cast_ofNat_Int, Int.natCast_nonneg, Try.f30]
  refine awpLoop.intro (fun i : Nat => [(0, .ref (.sl 0 0 0 0 0 10)), (1, .ref .nils), (5, .i .i64 i)]) (fun i => ⟨[.lv true [(0, .ints .u8 0 f)]], [], 8⟩) (fun i => i = 0) (fun i => 0) 0 rfl ⟨[], rfl, ?_, ?_⟩ ?_
  · simp [wkEnv, lk, renV, renAt, renTo]
  · simp [wkMem, wkLoc, Mem.get, assoc, renBlk, renSegs, renSg, renTo]
  · rintro _ rfl
    simp only [absE, absL, absF, reduceCtorEq, ↓reduceIte, Nat.reduceEqDiff, Nat.reduceAdd, Nat.reduceLT, Nat.reduceMul, Nat.reduceSub, Nat.reduceLeDiff, Int.reduceLT, Int.reduceLE, Int.reduceEq, Option.isSome_some, implies_true, false_implies, Prod.mk.injEq, ne_eq, not_false_eq_true, not_true_eq_false, ge_iff_le, gt_iff_lt, Int.toNat_natCast, Int.reduceToNat, Int.cast_ofNat_Int, Int.natCast_nonneg, Try.results30]
    exact ⟨[], by simp, by simp, by simp [renV, renVs, renSegs, renSg, renBlk]⟩
theorem eqPlacesS_ok (k : Nat) (f : List Int) (hf : f.length = k * 10) (hk : k < 2 ^ 40) :
    ACalls Try.prog 30 [.ref (.sl 0 0 0 0 k 10), .ref (.sl 0 1 0 0 k 10)] [.lv true [(0, .ints .u8 (k * 10) f)], .lv true [(0, .ints .u8 (k * 10) f)]] (fun v ms ns => v = .b true ∧ ms = [.lv true [(0, .ints .u8 (k * 10) f)], .lv true [(0, .ints .u8 (k * 10) f)]] ∧ ns = []) := by
  refine acalls_of_body mix Try.func30 rfl fok30 (Nat.le_of_ble_eq_true rfl) ?_
  unfold abody
  simp only [absE, absL, absF, reduceCtorEq, ↓reduceIte, Nat.reduceEqDiff, Nat.reduceAdd, Nat.reduceLT, Nat.reduceMul, Nat.reduceSub, Nat.reduceLeDiff, Int.reduceLT, Int.reduceLE, Int.reduceEq, Option.isSome_some, implies_true, false_implies, Prod.mk.injEq, ne_eq, not_false_eq_true, not_true_eq_false, ge_iff_le, gt_iff_lt, Int.toNat_natCast, Int.reduceToNat, Int.cast_ofNat_Int, Int.natCast_nonneg, Try.f30]
  refine awpLoop.intro (fun i : Nat => [(0, .ref (.sl 0 0 0 0 k 10)), (1, .ref (.sl 0 1 0 0 k 10)), (5, .i .i64 i)]) (fun i => ⟨[.lv true [(0, .ints .u8 (k * 10) f)], .lv true [(0, .ints .u8 (k * 10) f)]], [], 8⟩)
    (fun i => i ≤ k) (fun i => k - i) 0 (by omega) ⟨[], rfl, ?_, ?_⟩ ?_
  · simp [wkEnv, lk, renV, renAt, renTo]
  · simp [wkMem, wkLoc, Mem.get, assoc, renBlk, renSegs, renSg, renTo]
  · intro i hi
    by_cases h : (i : Int) < k
    · have w := wrap_i64s (show i < 2 ^ 62 by omega)
      have u1 : 0 + i * 10 + 10 ≤ k * 10 := by omega
      by_cases h10 : k * 10 = 10
      · have hl : f.length = 10 := by omega
        have hi0 : i = 0 := by omega
        have et : decide (f = f) = true := decide_eq_true rfl
        simp only [absE, absL, absF, reduceCtorEq, ↓reduceIte, Nat.reduceEqDiff, Nat.reduceAdd, Nat.reduceLT, Nat.reduceMul, Nat.reduceSub, Nat.reduceLeDiff, Int.reduceLT, Int.reduceLE, Int.reduceEq, Option.isSome_some, implies_true, false_implies, Prod.mk.injEq, ne_eq, not_false_eq_true, not_true_eq_false, ge_iff_le, gt_iff_lt, Int.toNat_natCast, Int.reduceToNat, Int.cast_ofNat_Int, Int.natCast_nonneg, h, h10]
        repeat first | refine And.intro (by decide +kernel) ?_ | refine And.intro (by omega) ?_
        refine CallsX.none (eqPlaces_ok f f hl hl) ?_
        simp only [absE, absL, absF, reduceCtorEq, ↓reduceIte, Nat.reduceEqDiff, Nat.reduceAdd, Nat.reduceLT, Nat.reduceMul, Nat.reduceSub, Nat.reduceLeDiff, Int.reduceLT, Int.reduceLE, Int.reduceEq, Option.isSome_some, implies_true, false_implies, Prod.mk.injEq, ne_eq, not_false_eq_true, not_true_eq_false, ge_iff_le, gt_iff_lt, Int.toNat_natCast, Int.reduceToNat, Int.cast_ofNat_Int, Int.natCast_nonneg, et]
        repeat first | refine And.intro (by decide +kernel) ?_ | refine And.intro (by omega) ?_
        refine LoopNext.intro (i + 1) (by omega) (by omega) ⟨[], rfl, ?_, ?_⟩
        · simp [wkEnv, lk, renV, renAt, renTo, w, h10]
        · simp [wkMem, wkLoc, Mem.get, assoc, renBlk, renSegs, renSg, renTo, w, h10]
      · have hl : ((f.drop (0 + i * 10)).take 10).length = 10 := sub_length (by omega)
        have g10 : 10 < k * 10 := by omega
        have et : decide ((f.drop (0 + i * 10)).take 10 = (f.drop (0 + i * 10)).take 10) = true := decide_eq_true rfl
        simp only [absE, absL, absF, reduceCtorEq, ↓reduceIte, Nat.reduceEqDiff, Nat.reduceAdd, Nat.reduceLT, Nat.reduceMul, Nat.reduceSub, Nat.reduceLeDiff, Int.reduceLT, Int.reduceLE, Int.reduceEq, Option.isSome_some, implies_true, false_implies, Prod.mk.injEq, ne_eq, not_false_eq_true, not_true_eq_false, ge_iff_le, gt_iff_lt, Int.toNat_natCast, Int.reduceToNat, Int.cast_ofNat_Int, Int.natCast_nonneg, h, h10, u1, g10]
        repeat first | refine And.intro (by decide +kernel) ?_ | refine And.intro (by omega) ?_
        refine CallsX.none (eqPlaces_ok _ _ hl hl) ?_
        simp only [absE, absL, absF, reduceCtorEq, ↓reduceIte, Nat.reduceEqDiff, Nat.reduceAdd, Nat.reduceLT, Nat.reduceMul, Nat.reduceSub, Nat.reduceLeDiff, Int.reduceLT, Int.reduceLE, Int.reduceEq, Option.isSome_some, implies_true, false_implies, Prod.mk.injEq, ne_eq, not_false_eq_true, not_true_eq_false, ge_iff_le, gt_iff_lt, Int.toNat_natCast, Int.reduceToNat, Int.cast_ofNat_Int, Int.natCast_nonneg, et]
        repeat first | refine And.intro (by decide +kernel) ?_ | refine And.intro (by omega) ?_
        refine LoopNext.intro (i + 1) (by omega) (by omega) ⟨[], rfl, ?_, ?_⟩
        · simp [wkEnv, lk, renV, renAt, renTo, w]
        · simp [wkMem, wkLoc, Mem.get, assoc, renBlk, renSegs, renSg, renTo, w]
    · simp only [absE, absL, absF, reduceCtorEq, ↓reduceIte, Nat.reduceEqDiff, Nat.reduceAdd, Nat.reduceLT, Nat.reduceMul, Nat.reduceSub, Nat.reduceLeDiff, Int.reduceLT, Int.reduceLE, Int.reduceEq, Option.isSome_some, implies_true, false_implies, Prod.mk.injEq, ne_eq, not_false_eq_true, not_true_eq_false, ge_iff_le, gt_iff_lt, Int.toNat_natCast, Int.reduceToNat, Int.cast_ofNat_Int, Int.natCast_nonneg, h, Try.results30]
      exact ⟨[], by simp, by simp, by simp [renV, renVs, renSegs, renSg, renBlk]⟩
/-- the marks 1, 2, .. as bytes -/
def bmk (f : List Int) : Nat → List Int
  | 0 => f
  | j + 1 => (bmk f j).set j (IntKind.u8.wrap ((1 + j : Nat) : Int))
theorem bmk_len {f : List Int} : ∀ {j}, (bmk f j).length = f.length
  | 0 => rfl
  | j + 1 => by rw [bmk, List.length_set, bmk_len]
theorem bmk_get {f : List Int} : ∀ {j}, j ≤ f.length → ∀ {i}, i < j → (bmk f j).getD i 0 = IntKind.u8.wrap ((1 + i : Nat) : Int)
  | 0, _, i, h => absurd h (by omega)
  | j + 1, hj, i, h => by
    rw [bmk, getD_set_int (by rw [bmk_len]; omega)]
    by_cases e : j = i
    · subst e; rw [if_pos rfl]
    · rw [if_neg (by omega), bmk_get (by omega) (by omega)]
theorem markPlacesS_nil : ACalls Try.prog 31 [.ref .nils, .i .i64 1] [] (fun v ms ns => v = .i .i64 1 ∧ ms = [] ∧ ns = []) := by
  refine acalls_of_body mix Try.func31 rfl fok31 (Nat.le_of_ble_eq_true rfl) ?_
  unfold abody
  simp only [absE, absL, absF, reduceCtorEq, ↓reduceIte, Nat.reduceEqDiff, Nat.reduceAdd, Nat.reduceLT, Nat.reduceMul, Nat.reduceSub, Nat.reduceLeDiff, Int.reduceLT, Int.reduceLE, Int.reduceEq, Option.isSome_some, implies_true, false_implies, Prod.mk.injEq, ne_eq, not_false_eq_true, not_true_eq_false, ge_iff_le, gt_iff_lt, Int.toNat_natCast, Int.reduceToNat, Int.cast_ofNat_Int, Int.natCast_nonneg, Try.f31]
  refine awpLoop.intro (fun i : Nat => [(0, .ref .nils), (1, .i .i64 1), (5, .i .i64 i)]) (fun i => ⟨[], [], 3⟩) (fun i => i = 0) (fun i => 0) 0 rfl ⟨[], rfl, ?_, ?_⟩ ?_
  · simp [wkEnv, lk, renV, renAt, renTo]
  · simp [wkMem, wkLoc, Mem.get, assoc, renBlk, renSegs, renSg, renTo]
  · rintro _ rfl
    simp only [absE, absL, absF, reduceCtorEq, ↓reduceIte, Nat.reduceEqDiff, Nat.reduceAdd, Nat.reduceLT, Nat.reduceMul, Nat.reduceSub, Nat.reduceLeDiff, Int.reduceLT, Int.reduceLE, Int.reduceEq, Option.isSome_some, implies_true, false_implies, Prod.mk.injEq, ne_eq, not_false_eq_true, not_true_eq_false, ge_iff_le, gt_iff_lt, Int.toNat_natCast, Int.reduceToNat, Int.cast_ofNat_Int, Int.natCast_nonneg, Try.results31]
    exact ⟨[], by simp, by simp, by simp [renV, renVs, renSegs, renSg]⟩
theorem heldPlacesS_nil : ACalls Try.prog 32 [.ref .nils, .i .i64 1] [] (fun v ms ns => v = .i .i64 1 ∧ ms = [] ∧ ns = []) := by
  refine acalls_of_body mix Try.func32 rfl fok32 (Nat.le_of_ble_eq_true rfl) ?_
  unfold abody
  simp only [absE, absL, absF, reduceCtorEq, ↓reduceIte, Nat.reduceEqDiff, Nat.reduceAdd, Nat.reduceLT, Nat.reduceMul, Nat.reduceSub, Nat.reduceLeDiff, Int.reduceLT, Int.reduceLE, Int.reduceEq, Option.isSome_some, implies_true, false_implies, Prod.mk.injEq, ne_eq, not_false_eq_true, not_true_eq_false, ge_iff_le, gt_iff_lt, Int.toNat_natCast, Int.reduceToNat, Int.cast_ofNat_Int, Int.natCast_nonneg, Try.f32]
  refine awpLoop.intro (fun i : Nat => [(0, .ref .nils), (1, .i .i64 1), (5, .i .i64 i)]) (fun i => ⟨[], [], 3⟩) (fun i => i = 0) (fun i => 0) 0 rfl ⟨[], rfl, ?_, ?_⟩ ?_
  · simp [wkEnv, lk, renV, renAt, renTo]
  · simp [wkMem, wkLoc, Mem.get, assoc, renBlk, renSegs, renSg, renTo]
  · rintro _ rfl
    simp only [absE, absL, absF, reduceCtorEq, ↓reduceIte, Nat.reduceEqDiff, Nat.reduceAdd, Nat.reduceLT, Nat.reduceMul, Nat.reduceSub, Nat.reduceLeDiff, Int.reduceLT, Int.reduceLE, Int.reduceEq, Option.isSome_some, implies_true, false_implies, Prod.mk.injEq, ne_eq, not_false_eq_true, not_true_eq_false, ge_iff_le, gt_iff_lt, Int.toNat_natCast, Int.reduceToNat, Int.cast_ofNat_Int, Int.natCast_nonneg, Try.results32]
    exact ⟨[], by simp, by simp, by simp [renV, renVs, renSegs, renSg]⟩
theorem markPlacesS_ok (k : Nat) (f : List Int) (hf : f.length = k * 10) (hk : k < 2 ^ 40) :
    ACalls Try.prog 31 [.ref (.sl 0 0 0 0 k 10), .i .i64 1] [.lv true [(0, .ints .u8 (k * 10) f)]] (fun v ms ns => v = .i .i64 ((1 + k * 10 : Nat) : Int) ∧ ms = [.lv true [(0, .ints .u8 (k * 10) (bmk f (k * 10)))]] ∧ ns = []) := by
  refine acalls_of_body mix Try.func31 rfl fok31 (Nat.le_of_ble_eq_true rfl) ?_
  unfold abody
  simp only [absE, absL, absF, reduceCtorEq, ↓reduceIte, Nat.reduceEqDiff, Nat.reduceAdd, Nat.reduceLT, Nat.reduceMul, Nat.reduceSub, Nat.reduceLeDiff, Int.reduceLT, Int.reduceLE, Int.reduceEq, Option.isSome_some, implies_true, false_implies, Prod.mk.injEq, ne_eq, not_false_eq_true, not_true_eq_false, ge_iff_le, gt_iff_lt, Int.toNat_natCast, Int.reduceToNat, Int.cast_ofNat_Int, Int.natCast_nonneg, Try.f31]
  refine awpLoop.intro (fun i : Nat => [(0, .ref (.sl 0 0 0 0 k 10)), (1, .i .i64 (1 + i * 10 : Nat)), (5, .i .i64 i)]) (fun i => ⟨[.lv true [(0, .ints .u8 (k * 10) (bmk f (i * 10)))]], [], 3⟩)
    (fun i => i ≤ k) (fun i => k - i) 0 (by omega) ⟨[], rfl, ?_, ?_⟩ ?_
  · simp [wkEnv, lk, renV, renAt, renTo, bmk]
  · simp [wkMem, wkLoc, Mem.get, assoc, renBlk, renSegs, renSg, renTo, bmk]
  · intro i hi
    by_cases h : (i : Int) < k
    · have w := wrap_i64s (show i < 2 ^ 62 by omega)
      simp only [absE, absL, absF, reduceCtorEq, ↓reduceIte, Nat.reduceEqDiff, Nat.reduceAdd, Nat.reduceLT, Nat.reduceMul, Nat.reduceSub, Nat.reduceLeDiff, Int.reduceLT, Int.reduceLE, Int.reduceEq, Option.isSome_some, implies_true, false_implies, Prod.mk.injEq, ne_eq, not_false_eq_true, not_true_eq_false, ge_iff_le, gt_iff_lt, Int.toNat_natCast, Int.reduceToNat, Int.cast_ofNat_Int, Int.natCast_nonneg, h]
      refine awpLoop.intro (fun j : Nat => [(0, .ref (.sl 0 0 0 0 k 10)), (1, .i .i64 (1 + (i * 10 + j) : Nat)), (5, .i .i64 i), (6, .i .i64 j)]) (fun j => ⟨[.lv true [(0, .ints .u8 (k * 10) (bmk f (i * 10 + j)))]], [], 6⟩)
        (fun j => j ≤ 10) (fun j => 10 - j) 0 (by omega) ⟨[], rfl, ?_, ?_⟩ ?_
      · simp [wkEnv, lk, renV, renAt, renTo]
      · simp [wkMem, wkLoc, Mem.get, assoc, renBlk, renSegs, renSg, renTo]
      · intro j hj
        by_cases h' : (j : Int) < 10
        · have w' := wrap_i64s (show j < 2 ^ 62 by omega)
          have w2 := wrap_i64s (show 1 + (i * 10 + j) < 2 ^ 62 by omega)
          have n1 : ¬ 1 = k * 10 := by omega
          have u1 : 0 + i * 10 + 10 ≤ k * 10 := by omega
          have u2 : 0 + i * 10 + j * 1 + 1 ≤ k * 10 := by omega
          have es : (bmk f (i * 10 + j)).set (0 + i * 10 + j * 1) (IntKind.u8.wrap ((1 + (i * 10 + j) : Nat) : Int)) = bmk f (i * 10 + (j + 1)) := by
            rw [Nat.zero_add, Nat.mul_one]; rfl
          simp only [absE, absL, absF, reduceCtorEq, ↓reduceIte, Nat.reduceEqDiff, Nat.reduceAdd, Nat.reduceLT, Nat.reduceMul, Nat.reduceSub, Nat.reduceLeDiff, Int.reduceLT, Int.reduceLE, Int.reduceEq, Option.isSome_some, implies_true, false_implies, Prod.mk.injEq, ne_eq, not_false_eq_true, not_true_eq_false, ge_iff_le, gt_iff_lt, Int.toNat_natCast, Int.reduceToNat, Int.cast_ofNat_Int, Int.natCast_nonneg, h', n1, u1, u2, es, w2]
          repeat first | refine And.intro (by decide +kernel) ?_ | refine And.intro (by omega) ?_
          refine LoopNext.intro (j + 1) (by omega) (by omega) ⟨[], rfl, ?_, ?_⟩
          · simp [wkEnv, lk, renV, renAt, renTo, w', Nat.add_assoc]
          · simp [wkMem, wkLoc, Mem.get, assoc, renBlk, renSegs, renSg, renTo, w', Nat.add_assoc]
        · obtain rfl : j = 10 := by omega
          have e10 : i * 10 + 10 = (i + 1) * 10 := by omega
          simp only [absE, absL, absF, reduceCtorEq, ↓reduceIte, Nat.reduceEqDiff, Nat.reduceAdd, Nat.reduceLT, Nat.reduceMul, Nat.reduceSub, Nat.reduceLeDiff, Int.reduceLT, Int.reduceLE, Int.reduceEq, Option.isSome_some, implies_true, false_implies, Prod.mk.injEq, ne_eq, not_false_eq_true, not_true_eq_false, ge_iff_le, gt_iff_lt, Int.toNat_natCast, Int.reduceToNat, Int.cast_ofNat_Int, Int.natCast_nonneg, e10]
          refine LoopNext.intro (i + 1) (by omega) (by omega) ⟨[], rfl, ?_, ?_⟩
          · simp [wkEnv, lk, renV, renAt, renTo, w]
          · simp [wkMem, wkLoc, Mem.get, assoc, renBlk, renSegs, renSg, renTo, w]
    · obtain rfl : i = k := by omega
      simp only [absE, absL, absF, reduceCtorEq, ↓reduceIte, Nat.reduceEqDiff, Nat.reduceAdd, Nat.reduceLT, Nat.reduceMul, Nat.reduceSub, Nat.reduceLeDiff, Int.reduceLT, Int.reduceLE, Int.reduceEq, Option.isSome_some, implies_true, false_implies, Prod.mk.injEq, ne_eq, not_false_eq_true, not_true_eq_false, ge_iff_le, gt_iff_lt, Int.toNat_natCast, Int.reduceToNat, Int.cast_ofNat_Int, Int.natCast_nonneg, h, Try.results31]
      exact ⟨[], by simp, by simp, by simp [renV, renVs, renSegs, renSg, renBlk]⟩
theorem heldPlacesS_ok (k : Nat) (f : List Int) (hf : f.length = k * 10) (hk : k < 2 ^ 40) :
    ACalls Try.prog 32 [.ref (.sl 0 0 0 0 k 10), .i .i64 1] [.lv true [(0, .ints .u8 (k * 10) (bmk f (k * 10)))]] (fun v ms ns => v = .i .i64 ((1 + k * 10 : Nat) : Int) ∧ ms = [.lv true [(0, .ints .u8 (k * 10) (bmk f (k * 10)))]] ∧ ns = []) := by
  refine acalls_of_body mix Try.func32 rfl fok32 (Nat.le_of_ble_eq_true rfl) ?_
  unfold abody
  simp only [absE, absL, absF, reduceCtorEq, ↓reduceIte, Nat.reduceEqDiff, Nat.reduceAdd, Nat.reduceLT, Nat.reduceMul, Nat.reduceSub, Nat.reduceLeDiff, Int.reduceLT, Int.reduceLE, Int.reduceEq, Option.isSome_some, implies_true, false_implies, Prod.mk.injEq, ne_eq, not_false_eq_true, not_true_eq_false, ge_iff_le, gt_iff_lt, Int.toNat_natCast, Int.reduceToNat, Int.cast_ofNat_Int, Int.natCast_nonneg, Try.f32]
  refine awpLoop.intro (fun i : Nat => [(0, .ref (.sl 0 0 0 0 k 10)), (1, .i .i64 (1 + i * 10 : Nat)), (5, .i .i64 i)]) (fun i => ⟨[.lv true [(0, .ints .u8 (k * 10) (bmk f (k * 10)))]], [], 3⟩)
    (fun i => i ≤ k) (fun i => k - i) 0 (by omega) ⟨[], rfl, ?_, ?_⟩ ?_
  · simp [wkEnv, lk, renV, renAt, renTo]
  · simp [wkMem, wkLoc, Mem.get, assoc, renBlk, renSegs, renSg, renTo]
  · intro i hi
    by_cases h : (i : Int) < k
    · have w := wrap_i64s (show i < 2 ^ 62 by omega)
      simp only [absE, absL, absF, reduceCtorEq, ↓reduceIte, Nat.reduceEqDiff, Nat.reduceAdd, Nat.reduceLT, Nat.reduceMul, Nat.reduceSub, Nat.reduceLeDiff, Int.reduceLT, Int.reduceLE, Int.reduceEq, Option.isSome_some, implies_true, false_implies, Prod.mk.injEq, ne_eq, not_false_eq_true, not_true_eq_false, ge_iff_le, gt_iff_lt, Int.toNat_natCast, Int.reduceToNat, Int.cast_ofNat_Int, Int.natCast_nonneg, h]
      refine awpLoop.intro (fun j : Nat => [(0, .ref (.sl 0 0 0 0 k 10)), (1, .i .i64 (1 + (i * 10 + j) : Nat)), (5, .i .i64 i), (6, .i .i64 j)]) (fun j => ⟨[.lv true [(0, .ints .u8 (k * 10) (bmk f (k * 10)))]], [], 6⟩)
        (fun j => j ≤ 10) (fun j => 10 - j) 0 (by omega) ⟨[], rfl, ?_, ?_⟩ ?_
      · simp [wkEnv, lk, renV, renAt, renTo]
      · simp [wkMem, wkLoc, Mem.get, assoc, renBlk, renSegs, renSg, renTo]
      · intro j hj
        by_cases h' : (j : Int) < 10
        · have w' := wrap_i64s (show j < 2 ^ 62 by omega)
          have w2 := wrap_i64s (show 1 + (i * 10 + j) < 2 ^ 62 by omega)
          have n1 : ¬ 1 = k * 10 := by omega
          have u1 : 0 + i * 10 + 10 ≤ k * 10 := by omega
          have u2 : 0 + i * 10 + j * 1 < k * 10 := by omega
          have es : (bmk f (k * 10)).getD (0 + i * 10 + j * 1) 0 = IntKind.u8.wrap ((1 + (i * 10 + j) : Nat) : Int) := by
            rw [Nat.zero_add, Nat.mul_one]; exact bmk_get (by omega) (by omega)
          simp only [absE, absL, absF, reduceCtorEq, ↓reduceIte, Nat.reduceEqDiff, Nat.reduceAdd, Nat.reduceLT, Nat.reduceMul, Nat.reduceSub, Nat.reduceLeDiff, Int.reduceLT, Int.reduceLE, Int.reduceEq, Option.isSome_some, implies_true, false_implies, Prod.mk.injEq, ne_eq, not_false_eq_true, not_true_eq_false, ge_iff_le, gt_iff_lt, Int.toNat_natCast, Int.reduceToNat, Int.cast_ofNat_Int, Int.natCast_nonneg, h', n1, u1, u2, es, w2]
          repeat first | refine And.intro (by decide +kernel) ?_ | refine And.intro (by omega) ?_
          refine LoopNext.intro (j + 1) (by omega) (by omega) ⟨[], rfl, ?_, ?_⟩
          · simp [wkEnv, lk, renV, renAt, renTo, w', Nat.add_assoc]
          · simp [wkMem, wkLoc, Mem.get, assoc, renBlk, renSegs, renSg, renTo, w', Nat.add_assoc]
        · obtain rfl : j = 10 := by omega
          have e10 : i * 10 + 10 = (i + 1) * 10 := by omega
          simp only [absE, absL, absF, reduceCtorEq, ↓reduceIte, Nat.reduceEqDiff, Nat.reduceAdd, Nat.reduceLT, Nat.reduceMul, Nat.reduceSub, Nat.reduceLeDiff, Int.reduceLT, Int.reduceLE, Int.reduceEq, Option.isSome_some, implies_true, false_implies, Prod.mk.injEq, ne_eq, not_false_eq_true, not_true_eq_false, ge_iff_le, gt_iff_lt, Int.toNat_natCast, Int.reduceToNat, Int.cast_ofNat_Int, Int.natCast_nonneg, e10]
          refine LoopNext.intro (i + 1) (by omega) (by omega) ⟨[], rfl, ?_, ?_⟩
          · simp [wkEnv, lk, renV, renAt, renTo, w]
          · simp [wkMem, wkLoc, Mem.get, assoc, renBlk, renSegs, renSg, renTo, w]
    · obtain rfl : i = k := by omega
      simp only [absE, absL, absF, reduceCtorEq, ↓reduceIte, Nat.reduceEqDiff, Nat.reduceAdd, Nat.reduceLT, Nat.reduceMul, Nat.reduceSub, Nat.reduceLeDiff, Int.reduceLT, Int.reduceLE, Int.reduceEq, Option.isSome_some, implies_true, false_implies, Prod.mk.injEq, ne_eq, not_false_eq_true, not_true_eq_false, ge_iff_le, gt_iff_lt, Int.toNat_natCast, Int.reduceToNat, Int.cast_ofNat_Int, Int.natCast_nonneg, h, Try.results32]
      exact ⟨[], by simp, by simp, by simp [renV, renVs, renSegs, renSg, renBlk]⟩
theorem eqP_bn (L : List (List Int)) (h : L = []) : ACalls Try.prog 30 [.ref (.sl 0 0 0 0 L.length 10), .ref .nils] [.lv true [(0, .ints .u8 (L.length * 10) L.flatten)]] (fun v ms ns => v = .b true ∧ ms = [.lv true [(0, .ints .u8 (L.length * 10) L.flatten)]] ∧ ns = []) := by
  subst h; exact eqPlacesS_bn []

end Go.Proofs.Ytgblnnodoabdeaa
