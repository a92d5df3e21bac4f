/-
Contracts of functions of the given program, by the abstract walk.
-/
import Derived.Test.YtoccbgffekhcaaaAbsY
import Derived.Test.YtoccbgffekhcaaaVb
namespace Go.Proofs.Ytoccbgffekhcaaa
open Go Go.Abs
set_option linter.unusedVariables false
set_option linter.unusedSectionVars false
set_option linter.unusedSimpArgs false
set_option maxRecDepth 100000
/-! HoldsIn -/
def hldB (N : Nat) (t xs ys : List Int) (k l : Nat) : Bool := (List.range N).all fun x => (List.range N).all fun y => (List.range N).all fun z => eqT N t xs ys k l x y z
theorem hldB_iff {N : Nat} {t xs ys : List Int} {k l : Nat} : hldB N t xs ys k l = true ↔ ∀ x y z, x < N → y < N → z < N → eqT N t xs ys k l x y z = true := by
  unfold hldB
  simp only [List.all_eq_true, List.mem_range]
  exact ⟨fun h x y z hx hy hz => h x hx y hy z hz, fun h x hx y hy z hz => h x y z hx hy hz⟩
theorem hldB_no {N : Nat} {t xs ys : List Int} {k l x y z : Nat} (hx : x < N) (hy : y < N) (hz : z < N) (h : eqT N t xs ys k l x y z = false) : hldB N t xs ys k l = false := by
  cases e : hldB N t xs ys k l
  · rfl
  · rw [hldB_iff.1 e x y z hx hy hz] at h; cases h
theorem fails_ok (N : Nat) (t xs ys : List Int) (k l : Nat) (ht : Bytes 100 t) (hs : SqP N t) (hB : bothB xs k ys l = true) :
    ACalls Try.prog 98 [.agg (sqS N t), idV 0 1 k l] [bk k xs, bk l ys] (fun v ms ns => ms = [bk k xs, bk l ys] ∧ ((hldB N t xs ys k l = true ∧ v = .tup [.ref .nils, .b false] ∧ ns = []) ∨ (hldB N t xs ys k l = false ∧ v = .tup [.ref (.sl 1 0 0 0 3 1), .b true] ∧ ∃ B, ns = [ib B]))) := by
  unfold idV bk
  refine acalls_of_body mix Try.func98 rfl fok98 (Nat.le_of_ble_eq_true rfl) ?_
  unfold abody
  simp only [absE, absL, absF, reduceCtorEq, ↓reduceIte, Nat.reduceEqDiff, Nat.reduceAdd, Nat.reduceLT, Nat.reduceMul, Nat.reduceSub, Nat.reduceLeDiff, Int.reduceLT, Int.reduceLE, Int.reduceEq, Option.isSome_some, implies_true, false_implies, Prod.mk.injEq, ne_eq, not_false_eq_true, not_true_eq_false, ge_iff_le, gt_iff_lt, Int.toNat_natCast, Int.reduceToNat, Int.cast_ofNat_Int, Int.natCast_nonneg, Try.f98]
  refine CallsVia.none (newValues_ok N t ht hs) ?_
  rintro _ _ _ ⟨V, hV, rfl, rfl, rfl⟩
  simp only [absE, absL, absF, reduceCtorEq, ↓reduceIte, Nat.reduceEqDiff, Nat.reduceAdd, Nat.reduceLT, Nat.reduceMul, Nat.reduceSub, Nat.reduceLeDiff, Int.reduceLT, Int.reduceLE, Int.reduceEq, Option.isSome_some, implies_true, false_implies, Prod.mk.injEq, ne_eq, not_false_eq_true, not_true_eq_false, ge_iff_le, gt_iff_lt, Int.toNat_natCast, Int.reduceToNat, Int.cast_ofNat_Int, Int.natCast_nonneg]
  have hp := placesH_ok N t V xs ys k l 149 (fun c _ _ _ => c) (eqT N t xs ys k l) (fun _ => fS true) hs (fun c σ => rfl) (fun c x y z => Nat.le_succ c) (fun x y z c hc hx hy hz => by
    have := fails1_ok N t V x y z xs ys k l hs hV hx hy hz hB
    cases h : eqT N t xs ys k l x y z
    · rw [h] at this; exact this
    · rw [h] at this; exact this)
  unfold hMs bk at hp
  refine CallsVia.args [(8, 0), (6, 0), (2, 0), (0, 0), (0, 1), (7, 0)] hp (by simp) (by simp [Mem.get, assoc]) rfl rfl ?_
  rintro _ _ _ (⟨rfl, rfl, rfl, h0⟩ | ⟨x, y, z, hx, hy, hz, h0, rfl, rfl, rfl⟩)
  · simp only [absE, absL, absF, reduceCtorEq, ↓reduceIte, Nat.reduceEqDiff, Nat.reduceAdd, Nat.reduceLT, Nat.reduceMul, Nat.reduceSub, Nat.reduceLeDiff, Int.reduceLT, Int.reduceLE, Int.reduceEq, Option.isSome_some, implies_true, false_implies, Prod.mk.injEq, ne_eq, not_false_eq_true, not_true_eq_false, ge_iff_le, gt_iff_lt, Int.toNat_natCast, Int.reduceToNat, Int.cast_ofNat_Int, Int.natCast_nonneg, fS, fB, Try.results98]
    exact ⟨[], by simp, by simp, by simp [renV, renVs, renBlk, renSegs, renSg], .inl ⟨hldB_iff.2 h0, by simp [renV, renVs, renAt], rfl⟩⟩
  · simp only [absE, absL, absF, reduceCtorEq, ↓reduceIte, Nat.reduceEqDiff, Nat.reduceAdd, Nat.reduceLT, Nat.reduceMul, Nat.reduceSub, Nat.reduceLeDiff, Int.reduceLT, Int.reduceLE, Int.reduceEq, Option.isSome_some, implies_true, false_implies, Prod.mk.injEq, ne_eq, not_false_eq_true, not_true_eq_false, ge_iff_le, gt_iff_lt, Int.toNat_natCast, Int.reduceToNat, Int.cast_ofNat_Int, Int.natCast_nonneg, fS, fB, ib, renOut, List.getElem?_nil, Try.results98]
    exact ⟨[(13, 0)], by simp, by simp, by simp [renV, renVs, renBlk, renSegs, renSg], .inr ⟨hldB_no hx hy hz h0, by simp [renV, renVs, renAt, renFin, idx], [(x : Int), (y : Int), (z : Int)], by simp [renBlk, renSegs, renSg, Mem.get, assoc, ib]⟩⟩
theorem implHolds_no (n : Int) (t xs ys : List Int) (k l : Nat) (ht : Bytes 100 t) (hk : k ≤ 2 ^ 20) (hl : l ≤ 2 ^ 20) (h : askB n t xs ys k l = false) :
    ACalls Try.prog 47 [.agg (sqS n t), idV 0 1 k l] [bk k xs, bk l ys] (fun v ms ns => v = .tup [.b false, .i .i64 1] ∧ ms = [bk k xs, bk l ys] ∧ ns = []) := by
  have hb := isAsked_ok n t xs ys k l ht hk hl
  rw [h] at hb
  unfold idV bk at hb ⊢
  refine acalls_of_body mix Try.func47 rfl fok47 (Nat.le_of_ble_eq_true rfl) ?_
  unfold abody
  simp only [absE, absL, absF, reduceCtorEq, ↓reduceIte, Nat.reduceEqDiff, Nat.reduceAdd, Nat.reduceLT, Nat.reduceMul, Nat.reduceSub, Nat.reduceLeDiff, Int.reduceLT, Int.reduceLE, Int.reduceEq, Option.isSome_some, implies_true, false_implies, Prod.mk.injEq, ne_eq, not_false_eq_true, not_true_eq_false, ge_iff_le, gt_iff_lt, Int.toNat_natCast, Int.reduceToNat, Int.cast_ofNat_Int, Int.natCast_nonneg, Try.f47]
  refine CallsVia.args [(0, 0), (0, 1)] hb (by simp) (by simp [Mem.get]) rfl rfl ?_
  rintro _ _ _ ⟨rfl, rfl, rfl⟩
  simp only [absE, absL, absF, reduceCtorEq, ↓reduceIte, Nat.reduceEqDiff, Nat.reduceAdd, Nat.reduceLT, Nat.reduceMul, Nat.reduceSub, Nat.reduceLeDiff, Int.reduceLT, Int.reduceLE, Int.reduceEq, Option.isSome_some, implies_true, false_implies, Prod.mk.injEq, ne_eq, not_false_eq_true, not_true_eq_false, ge_iff_le, gt_iff_lt, Int.toNat_natCast, Int.reduceToNat, Int.cast_ofNat_Int, Int.natCast_nonneg, Try.results47]
  exact ⟨[], by simp, by simp, by simp [renV, renVs, renBlk, renSegs, renSg]⟩
theorem implHolds_yes (N : Nat) (t xs ys : List Int) (k l : Nat) (ht : Bytes 100 t) (hk : k ≤ 2 ^ 20) (hl : l ≤ 2 ^ 20) (h : askB N t xs ys k l = true) :
    ACalls Try.prog 47 [.agg (sqS N t), idV 0 1 k l] [bk k xs, bk l ys] (fun v ms ns => v = .tup [.b (hldB N t xs ys k l), .i .i64 0] ∧ ms = [bk k xs, bk l ys] ∧ ns = []) := by
  obtain ⟨h1, hB⟩ := askB_iff.1 h
  have hs := sqB_iff.1 h1
  have hb := isAsked_ok N t xs ys k l ht hk hl
  have hf := fails_ok N t xs ys k l ht hs hB
  rw [h] at hb
  unfold idV bk at hb hf ⊢
  refine acalls_of_body mix Try.func47 rfl fok47 (Nat.le_of_ble_eq_true rfl) ?_
  unfold abody
  simp only [absE, absL, absF, reduceCtorEq, ↓reduceIte, Nat.reduceEqDiff, Nat.reduceAdd, Nat.reduceLT, Nat.reduceMul, Nat.reduceSub, Nat.reduceLeDiff, Int.reduceLT, Int.reduceLE, Int.reduceEq, Option.isSome_some, implies_true, false_implies, Prod.mk.injEq, ne_eq, not_false_eq_true, not_true_eq_false, ge_iff_le, gt_iff_lt, Int.toNat_natCast, Int.reduceToNat, Int.cast_ofNat_Int, Int.natCast_nonneg, Try.f47]
  refine CallsVia.args [(0, 0), (0, 1)] hb (by simp) (by simp [Mem.get]) rfl rfl ?_
  rintro _ _ _ ⟨rfl, rfl, rfl⟩
  simp only [absE, absL, absF, reduceCtorEq, ↓reduceIte, Nat.reduceEqDiff, Nat.reduceAdd, Nat.reduceLT, Nat.reduceMul, Nat.reduceSub, Nat.reduceLeDiff, Int.reduceLT, Int.reduceLE, Int.reduceEq, Option.isSome_some, implies_true, false_implies, Prod.mk.injEq, ne_eq, not_false_eq_true, not_true_eq_false, ge_iff_le, gt_iff_lt, Int.toNat_natCast, Int.reduceToNat, Int.cast_ofNat_Int, Int.natCast_nonneg]
  refine CallsVia.args [(0, 0), (0, 1)] hf (by simp) (by simp [Mem.get]) rfl rfl ?_
  rintro _ _ _ ⟨rfl, (⟨h5, rfl, rfl⟩ | ⟨h5, rfl, B, rfl⟩)⟩
  · simp only [absE, absL, absF, reduceCtorEq, ↓reduceIte, Nat.reduceEqDiff, Nat.reduceAdd, Nat.reduceLT, Nat.reduceMul, Nat.reduceSub, Nat.reduceLeDiff, Int.reduceLT, Int.reduceLE, Int.reduceEq, Option.isSome_some, implies_true, false_implies, Prod.mk.injEq, ne_eq, not_false_eq_true, not_true_eq_false, ge_iff_le, gt_iff_lt, Int.toNat_natCast, Int.reduceToNat, Int.cast_ofNat_Int, Int.natCast_nonneg, h5, Try.results47]
    exact ⟨[], by simp, by simp, by simp [renV, renVs, renBlk, renSegs, renSg, h5]⟩
  · simp only [absE, absL, absF, reduceCtorEq, ↓reduceIte, Nat.reduceEqDiff, Nat.reduceAdd, Nat.reduceLT, Nat.reduceMul, Nat.reduceSub, Nat.reduceLeDiff, Int.reduceLT, Int.reduceLE, Int.reduceEq, Option.isSome_some, implies_true, false_implies, Prod.mk.injEq, ne_eq, not_false_eq_true, not_true_eq_false, ge_iff_le, gt_iff_lt, Int.toNat_natCast, Int.reduceToNat, Int.cast_ofNat_Int, Int.natCast_nonneg, h5, ib, Try.results47]
    exact ⟨[], by simp, by simp, by simp [renV, renVs, renBlk, renSegs, renSg, h5]⟩
/-! which letters occur -/
def hasS (xs : List Int) (k : Nat) (b : Int) : Bool := (List.range k).any fun i => xs.getD i 0 == b
theorem hasS_iff {xs : List Int} {k : Nat} {b : Int} : hasS xs k b = true ↔ ∃ i, i < k ∧ xs.getD i 0 = b := by
  unfold hasS; simp only [List.any_eq_true, List.mem_range, beq_iff_eq]
theorem hasS_no {xs : List Int} {k : Nat} {b : Int} (h : ∀ i, i < k → xs.getD i 0 ≠ b) : hasS xs k b = false := by
  cases e : hasS xs k b
  · rfl
  · obtain ⟨i, hi, he⟩ := hasS_iff.1 e; exact absurd he (h i hi)
def rngN (N : Nat) (xs ys : List Int) (k l : Nat) (b : Int) : Nat := if hasS xs k b || hasS ys l b then N else 1
theorem l03Range_ok (N : Nat) (t xs ys : List Int) (k l : Nat) (b : Int) (hN : N ≤ 10) (hk : k ≤ 2 ^ 20) (hl : l ≤ 2 ^ 20) :
    ACalls Try.prog 174 [.agg (sqS N t), idV 0 1 k l, .i .u8 b] [bk k xs, bk l ys] (fun v ms ns => v = .i .u8 (rngN N xs ys k l b) ∧ ms = [bk k xs, bk l ys] ∧ ns = []) := by
  have w8 := wrap_u8n (show N < 256 by omega)
  unfold idV bk
  refine acalls_of_body mix Try.func174 rfl fok174 (Nat.le_of_ble_eq_true rfl) ?_
  unfold abody
  simp only [absE, absL, absF, reduceCtorEq, ↓reduceIte, Nat.reduceEqDiff, Nat.reduceAdd, Nat.reduceLT, Nat.reduceMul, Nat.reduceSub, Nat.reduceLeDiff, Int.reduceLT, Int.reduceLE, Int.reduceEq, Option.isSome_some, implies_true, false_implies, Prod.mk.injEq, ne_eq, not_false_eq_true, not_true_eq_false, ge_iff_le, gt_iff_lt, Int.toNat_natCast, Int.reduceToNat, Int.cast_ofNat_Int, Int.natCast_nonneg, Try.f174]
  refine awpLoop.intro (fun i : Nat => [(3, .ref (.ptr 1 0 0 0)), (4, .ref (.ptr 2 0 0 0)), (2, .i .u8 b), (7, .i .i64 i)]) (fun i => ⟨[.lv true [(0, .ints .u8 k xs)], .lv true [(0, .ints .u8 l ys)]], [((1, 0), .lv true (sqS N t)), ((2, 0), .lv true ([(0, .cells 1 [.sl 0 0 0 0 k 1]), (1, .cells 1 [.sl 0 1 0 0 l 1])]))], 100⟩)
    (fun i => i ≤ k ∧ ∀ j, j < i → xs.getD j 0 ≠ b) (fun i => k - i) 0 ⟨by omega, fun j hj => absurd hj (by omega)⟩ ⟨[((1,0),(1,0)), ((2,0),(2,0))], rfl, ?_, ?_⟩ ?_
  · simp [wkEnv, lk, renV, renAt, renTo]
  · simp [wkMem, wkLoc, Mem.get, assoc, renBlk, renSegs, renSg, renAt, renTo]
  · rintro i ⟨hi, hq⟩
    by_cases h : (i : Int) < k
    · have w := wrap_i64s (show i < 2 ^ 62 by omega)
      have v1 : 0 + i * 1 < k := by omega
      have e1 : xs.getD (0 + i * 1) 0 = xs.getD i 0 := by rw [Nat.zero_add, Nat.mul_one]
      by_cases e : xs.getD i 0 = b
      · have hr : rngN N xs ys k l b = N := by unfold rngN; rw [hasS_iff.2 ⟨i, by omega, e⟩]; rfl
        simp only [absE, absL, absF, reduceCtorEq, ↓reduceIte, Nat.reduceEqDiff, Nat.reduceAdd, Nat.reduceLT, Nat.reduceMul, Nat.reduceSub, Nat.reduceLeDiff, Int.reduceLT, Int.reduceLE, Int.reduceEq, Option.isSome_some, implies_true, false_implies, Prod.mk.injEq, ne_eq, not_false_eq_true, not_true_eq_false, ge_iff_le, gt_iff_lt, Int.toNat_natCast, Int.reduceToNat, Int.cast_ofNat_Int, Int.natCast_nonneg, h, v1, e1, e, w8, Try.results174]
        exact ⟨[], by simp, by simp, by simp [renV, renBlk, renSegs, renSg, hr]⟩
      · simp only [absE, absL, absF, reduceCtorEq, ↓reduceIte, Nat.reduceEqDiff, Nat.reduceAdd, Nat.reduceLT, Nat.reduceMul, Nat.reduceSub, Nat.reduceLeDiff, Int.reduceLT, Int.reduceLE, Int.reduceEq, Option.isSome_some, implies_true, false_implies, Prod.mk.injEq, ne_eq, not_false_eq_true, not_true_eq_false, ge_iff_le, gt_iff_lt, Int.toNat_natCast, Int.reduceToNat, Int.cast_ofNat_Int, Int.natCast_nonneg, h, v1, e1, e]
        refine LoopNext.intro (i + 1) ⟨by omega, fun j hj => ?_⟩ (by omega) ⟨[((1,0),(1,0)), ((2,0),(2,0))], rfl, ?_, ?_⟩
        · by_cases ej : j = i
          · subst ej; exact e
          · exact hq j (by omega)
        · simp [wkEnv, lk, renV, renAt, renTo, w]
        · simp [wkMem, wkLoc, Mem.get, assoc, renBlk, renSegs, renSg, renAt, renTo]
    · have hik : i = k := by omega
      subst hik
      have h0 := hasS_no hq
      simp only [absE, absL, absF, reduceCtorEq, ↓reduceIte, Nat.reduceEqDiff, Nat.reduceAdd, Nat.reduceLT, Nat.reduceMul, Nat.reduceSub, Nat.reduceLeDiff, Int.reduceLT, Int.reduceLE, Int.reduceEq, Option.isSome_some, implies_true, false_implies, Prod.mk.injEq, ne_eq, not_false_eq_true, not_true_eq_false, ge_iff_le, gt_iff_lt, Int.toNat_natCast, Int.reduceToNat, Int.cast_ofNat_Int, Int.natCast_nonneg, h]
      refine awpLoop.intro (fun i : Nat => [(3, .ref (.ptr 1 0 0 0)), (4, .ref (.ptr 2 0 0 0)), (2, .i .u8 b), (8, .i .i64 i)]) (fun m => ⟨[.lv true [(0, .ints .u8 i xs)], .lv true [(0, .ints .u8 l ys)]], [((1, 0), .lv true (sqS N t)), ((2, 0), .lv true ([(0, .cells 1 [.sl 0 0 0 0 i 1]), (1, .cells 1 [.sl 0 1 0 0 l 1])]))], 200⟩)
        (fun i => i ≤ l ∧ ∀ j, j < i → ys.getD j 0 ≠ b) (fun i => l - i) 0 ⟨by omega, fun j hj => absurd hj (by omega)⟩ ⟨[((1,0),(1,0)), ((2,0),(2,0))], rfl, ?_, ?_⟩ ?_
      · simp [wkEnv, lk, renV, renAt, renTo]
      · simp [wkMem, wkLoc, Mem.get, assoc, renBlk, renSegs, renSg, renAt, renTo]
      · rintro j ⟨hj, hqj⟩
        by_cases h' : (j : Int) < l
        · have w := wrap_i64s (show j < 2 ^ 62 by omega)
          have v1 : 0 + j * 1 < l := by omega
          have e1 : ys.getD (0 + j * 1) 0 = ys.getD j 0 := by rw [Nat.zero_add, Nat.mul_one]
          by_cases e : ys.getD j 0 = b
          · have hr : rngN N xs ys i l b = N := by unfold rngN; rw [hasS_iff.2 ⟨j, by omega, e⟩, Bool.or_true]; rfl
            simp only [absE, absL, absF, reduceCtorEq, ↓reduceIte, Nat.reduceEqDiff, Nat.reduceAdd, Nat.reduceLT, Nat.reduceMul, Nat.reduceSub, Nat.reduceLeDiff, Int.reduceLT, Int.reduceLE, Int.reduceEq, Option.isSome_some, implies_true, false_implies, Prod.mk.injEq, ne_eq, not_false_eq_true, not_true_eq_false, ge_iff_le, gt_iff_lt, Int.toNat_natCast, Int.reduceToNat, Int.cast_ofNat_Int, Int.natCast_nonneg, h', v1, e1, e, w8, Try.results174]
            exact ⟨[], by simp, by simp, by simp [renV, renBlk, renSegs, renSg, hr]⟩
          · simp only [absE, absL, absF, reduceCtorEq, ↓reduceIte, Nat.reduceEqDiff, Nat.reduceAdd, Nat.reduceLT, Nat.reduceMul, Nat.reduceSub, Nat.reduceLeDiff, Int.reduceLT, Int.reduceLE, Int.reduceEq, Option.isSome_some, implies_true, false_implies, Prod.mk.injEq, ne_eq, not_false_eq_true, not_true_eq_false, ge_iff_le, gt_iff_lt, Int.toNat_natCast, Int.reduceToNat, Int.cast_ofNat_Int, Int.natCast_nonneg, h', v1, e1, e]
            refine LoopNext.intro (j + 1) ⟨by omega, fun m hm => ?_⟩ (by omega) ⟨[((1,0),(1,0)), ((2,0),(2,0))], rfl, ?_, ?_⟩
            · by_cases ej : m = j
              · subst ej; exact e
              · exact hqj m (by omega)
            · simp [wkEnv, lk, renV, renAt, renTo, w]
            · simp [wkMem, wkLoc, Mem.get, assoc, renBlk, renSegs, renSg, renAt, renTo]
        · have hjl : j = l := by omega
          subst hjl
          have hr : rngN N xs ys i j b = 1 := by unfold rngN; rw [h0, hasS_no hqj]; rfl
          simp only [absE, absL, absF, reduceCtorEq, ↓reduceIte, Nat.reduceEqDiff, Nat.reduceAdd, Nat.reduceLT, Nat.reduceMul, Nat.reduceSub, Nat.reduceLeDiff, Int.reduceLT, Int.reduceLE, Int.reduceEq, Option.isSome_some, implies_true, false_implies, Prod.mk.injEq, ne_eq, not_false_eq_true, not_true_eq_false, ge_iff_le, gt_iff_lt, Int.toNat_natCast, Int.reduceToNat, Int.cast_ofNat_Int, Int.natCast_nonneg, h', Try.results174]
          exact ⟨[], by simp, by simp, by simp [renV, renBlk, renSegs, renSg, hr]⟩
theorem stk_congr {N : Nat} {t : List Int} {x y z x' y' z' : Nat} {xs : List Int} : ∀ {i}, (∀ j, j < i → symV x y z (xs.getD j 0) = symV x' y' z' (xs.getD j 0)) → stk N t x y z xs i = stk N t x' y' z' xs i
  | 0, _ => rfl
  | i + 1, h => by
    have ih := stk_congr (N := N) (t := t) (x := x) (y := y) (z := z) (x' := x') (y' := y') (z' := z') (xs := xs) (i := i) fun j hj => h j (by omega)
    rw [stk, stk, ih, h i (by omega)]
theorem symV_same {xs ys : List Int} {k l x y z N : Nat} {b : Int} (hb : hasS xs k b = true ∨ hasS ys l b = true) (hx : x < N) (hy : y < N) (hz : z < N) :
    symV x y z b = symV (if rngN N xs ys k l 120 = N then x else 0) (if rngN N xs ys k l 121 = N then y else 0) (if rngN N xs ys k l 122 = N then z else 0) b := by
  have hr : rngN N xs ys k l b = N := by unfold rngN; rw [if_pos]; rw [Bool.or_eq_true]; exact hb
  unfold symV
  by_cases e1 : b = 120
  · subst e1; rw [if_pos rfl, if_pos rfl, if_pos hr]
  · rw [if_neg e1, if_neg e1]
    by_cases e2 : b = 121
    · subst e2; rw [if_pos rfl, if_pos rfl, if_pos hr]
    · rw [if_neg e2, if_neg e2]
      by_cases e3 : b = 122
      · subst e3; rw [if_pos rfl, if_pos rfl, if_pos hr]
      · rw [if_neg e3, if_neg e3]
theorem eqT_rng {N : Nat} {t xs ys : List Int} {k l x y z : Nat} (hx : x < N) (hy : y < N) (hz : z < N) :
    eqT N t xs ys k l x y z = eqT N t xs ys k l (if rngN N xs ys k l 120 = N then x else 0) (if rngN N xs ys k l 121 = N then y else 0) (if rngN N xs ys k l 122 = N then z else 0) := by
  have h1 : ∀ j, j < k → symV x y z (xs.getD j 0) = _ := fun j hj => symV_same (xs := xs) (ys := ys) (k := k) (l := l) (.inl (hasS_iff.2 ⟨j, hj, rfl⟩)) hx hy hz
  have h2 : ∀ j, j < l → symV x y z (ys.getD j 0) = _ := fun j hj => symV_same (xs := xs) (ys := ys) (k := k) (l := l) (.inr (hasS_iff.2 ⟨j, hj, rfl⟩)) hx hy hz
  unfold eqT trmV
  rw [stk_congr h1, stk_congr h2]
theorem rng_lt {N : Nat} {xs ys : List Int} {k l x : Nat} {b : Int} (hN : 0 < N) (hx : x < N) : (if rngN N xs ys k l b = N then x else 0) < rngN N xs ys k l b := by
  split
  · rename_i h; rw [h]; exact hx
  · unfold rngN; split <;> omega
theorem rng_le {N : Nat} {xs ys : List Int} {k l : Nat} {b : Int} (hN : 0 < N) : rngN N xs ys k l b ≤ N := by unfold rngN; split <;> omega
theorem hldB_rng {N : Nat} {t xs ys : List Int} {k l : Nat} (hN : 0 < N) (h : ∀ x y z, x < rngN N xs ys k l 120 → y < rngN N xs ys k l 121 → z < rngN N xs ys k l 122 → eqT N t xs ys k l x y z = true) : hldB N t xs ys k l = true :=
  hldB_iff.2 fun x y z hx hy hz => by rw [eqT_rng hx hy hz]; exact h _ _ _ (rng_lt hN hx) (rng_lt hN hy) (rng_lt hN hz)
theorem l03Fails_ok (N : Nat) (t xs ys : List Int) (k l : Nat) (ht : Bytes 100 t) (hs : SqP N t) (hk : k ≤ 2 ^ 20) (hl : l ≤ 2 ^ 20) (hB : bothB xs k ys l = true) :
    ACalls Try.prog 148 [.agg (sqS N t), idV 0 1 k l] [bk k xs, bk l ys] (fun v ms ns => ms = [bk k xs, bk l ys] ∧ ((hldB N t xs ys k l = true ∧ v = .ref .nils ∧ ns = []) ∨ (hldB N t xs ys k l = false ∧ v = .ref (.sl 1 0 0 0 3 1) ∧ ∃ B, ns = [ib B]))) := by
  have hN := hs.le
  have h0N := hs.pos
  have hBB := hB
  unfold bothB at hBB
  simp only [Bool.and_eq_true] at hBB
  have r1 := l03Range_ok N t xs ys k l 120 hN hk hl
  have r2 := l03Range_ok N t xs ys k l 121 hN hk hl
  have r3 := l03Range_ok N t xs ys k l 122 hN hk hl
  have hall := hldB_rng (t := t) (xs := xs) (ys := ys) (k := k) (l := l) h0N
  have lX := rng_le (xs := xs) (ys := ys) (k := k) (l := l) (b := 120) h0N
  have lY := rng_le (xs := xs) (ys := ys) (k := k) (l := l) (b := 121) h0N
  have lZ := rng_le (xs := xs) (ys := ys) (k := k) (l := l) (b := 122) h0N
  generalize rngN N xs ys k l 120 = X at r1 hall lX
  generalize rngN N xs ys k l 121 = Y at r2 hall lY
  generalize rngN N xs ys k l 122 = Z at r3 hall lZ
  unfold idV bk at r1 r2 r3
  unfold idV bk
  refine acalls_of_body mix Try.func148 rfl fok148 (Nat.le_of_ble_eq_true rfl) ?_
  unfold abody
  simp only [absE, absL, absF, reduceCtorEq, ↓reduceIte, Nat.reduceEqDiff, Nat.reduceAdd, Nat.reduceLT, Nat.reduceMul, Nat.reduceSub, Nat.reduceLeDiff, Int.reduceLT, Int.reduceLE, Int.reduceEq, Option.isSome_some, implies_true, false_implies, Prod.mk.injEq, ne_eq, not_false_eq_true, not_true_eq_false, ge_iff_le, gt_iff_lt, Int.toNat_natCast, Int.reduceToNat, Int.cast_ofNat_Int, Int.natCast_nonneg, Try.f148]
  repeat first | refine And.intro (by decide +kernel) ?_ | refine And.intro (by omega) ?_
  refine CallsX.args [(0, 0), (0, 1)] r1 (by simp) (by simp [Mem.get]) rfl rfl ?_
  simp only [absE, absL, absF, reduceCtorEq, ↓reduceIte, Nat.reduceEqDiff, Nat.reduceAdd, Nat.reduceLT, Nat.reduceMul, Nat.reduceSub, Nat.reduceLeDiff, Int.reduceLT, Int.reduceLE, Int.reduceEq, Option.isSome_some, implies_true, false_implies, Prod.mk.injEq, ne_eq, not_false_eq_true, not_true_eq_false, ge_iff_le, gt_iff_lt, Int.toNat_natCast, Int.reduceToNat, Int.cast_ofNat_Int, Int.natCast_nonneg]
  repeat first | refine And.intro (by decide +kernel) ?_ | refine And.intro (by omega) ?_
  refine CallsX.args [(0, 0), (0, 1)] r2 (by simp) (by simp [Mem.get]) rfl rfl ?_
  simp only [absE, absL, absF, reduceCtorEq, ↓reduceIte, Nat.reduceEqDiff, Nat.reduceAdd, Nat.reduceLT, Nat.reduceMul, Nat.reduceSub, Nat.reduceLeDiff, Int.reduceLT, Int.reduceLE, Int.reduceEq, Option.isSome_some, implies_true, false_implies, Prod.mk.injEq, ne_eq, not_false_eq_true, not_true_eq_false, ge_iff_le, gt_iff_lt, Int.toNat_natCast, Int.reduceToNat, Int.cast_ofNat_Int, Int.natCast_nonneg]
  repeat first | refine And.intro (by decide +kernel) ?_ | refine And.intro (by omega) ?_
  refine CallsX.args [(0, 0), (0, 1)] r3 (by simp) (by simp [Mem.get]) rfl rfl ?_
  simp only [absE, absL, absF, reduceCtorEq, ↓reduceIte, Nat.reduceEqDiff, Nat.reduceAdd, Nat.reduceLT, Nat.reduceMul, Nat.reduceSub, Nat.reduceLeDiff, Int.reduceLT, Int.reduceLE, Int.reduceEq, Option.isSome_some, implies_true, false_implies, Prod.mk.injEq, ne_eq, not_false_eq_true, not_true_eq_false, ge_iff_le, gt_iff_lt, Int.toNat_natCast, Int.reduceToNat, Int.cast_ofNat_Int, Int.natCast_nonneg]
  repeat first | refine And.intro (by decide +kernel) ?_ | refine And.intro (by omega) ?_
  simp only [absE, absL, absF, reduceCtorEq, ↓reduceIte, Nat.reduceEqDiff, Nat.reduceAdd, Nat.reduceLT, Nat.reduceMul, Nat.reduceSub, Nat.reduceLeDiff, Int.reduceLT, Int.reduceLE, Int.reduceEq, Option.isSome_some, implies_true, false_implies, Prod.mk.injEq, ne_eq, not_false_eq_true, not_true_eq_false, ge_iff_le, gt_iff_lt, Int.toNat_natCast, Int.reduceToNat, Int.cast_ofNat_Int, Int.natCast_nonneg]
  refine awpLoop.intro (fun x : Nat => [(2, .ref (.ptr 1 0 0 0)), (3, .ref (.ptr 2 0 0 0)), (5, .i .u8 X), (6, .i .u8 Y), (7, .i .u8 Z), (8, .i .u8 x)]) (fun x => ⟨[.lv true [(0, .ints .u8 k xs)], .lv true [(0, .ints .u8 l ys)]], [((1, 0), .lv true (sqS N t)), ((2, 0), .lv true ([(0, .cells 1 [.sl 0 0 0 0 k 1]), (1, .cells 1 [.sl 0 1 0 0 l 1])]))], 100⟩)
    (fun x => x ≤ X ∧ ∀ a b c, a < x → b < Y → c < Z → eqT N t xs ys k l a b c = true) (fun x => X - x) 0 ⟨by omega, fun a b c ha => absurd ha (by omega)⟩ ⟨[((1,0),(1,0)), ((2,0),(2,0))], rfl, ?_, ?_⟩ ?_
  · simp [wkEnv, lk, renV, renAt, renTo]
  · simp [wkMem, wkLoc, Mem.get, assoc, renBlk, renSegs, renSg, renAt, renTo]
  · rintro x ⟨hx, hqx⟩
    by_cases h : (x : Int) < X
    · have w := wrap_u8s (show x < 255 by omega)
      simp only [absE, absL, absF, reduceCtorEq, ↓reduceIte, Nat.reduceEqDiff, Nat.reduceAdd, Nat.reduceLT, Nat.reduceMul, Nat.reduceSub, Nat.reduceLeDiff, Int.reduceLT, Int.reduceLE, Int.reduceEq, Option.isSome_some, implies_true, false_implies, Prod.mk.injEq, ne_eq, not_false_eq_true, not_true_eq_false, ge_iff_le, gt_iff_lt, Int.toNat_natCast, Int.reduceToNat, Int.cast_ofNat_Int, Int.natCast_nonneg, h]
      refine awpLoop.intro (fun y : Nat => [(2, .ref (.ptr 1 0 0 0)), (3, .ref (.ptr 2 0 0 0)), (5, .i .u8 X), (6, .i .u8 Y), (7, .i .u8 Z), (8, .i .u8 x), (9, .i .u8 y)]) (fun y => ⟨[.lv true [(0, .ints .u8 k xs)], .lv true [(0, .ints .u8 l ys)]], [((1, 0), .lv true (sqS N t)), ((2, 0), .lv true ([(0, .cells 1 [.sl 0 0 0 0 k 1]), (1, .cells 1 [.sl 0 1 0 0 l 1])]))], 200⟩)
        (fun y => y ≤ Y ∧ ∀ b c, b < y → c < Z → eqT N t xs ys k l x b c = true) (fun y => Y - y) 0 ⟨by omega, fun b c hb => absurd hb (by omega)⟩ ⟨[((1,0),(1,0)), ((2,0),(2,0))], rfl, ?_, ?_⟩ ?_
      · simp [wkEnv, lk, renV, renAt, renTo]
      · simp [wkMem, wkLoc, Mem.get, assoc, renBlk, renSegs, renSg, renAt, renTo]
      · rintro y ⟨hy, hqy⟩
        by_cases h' : (y : Int) < Y
        · have w' := wrap_u8s (show y < 255 by omega)
          simp only [absE, absL, absF, reduceCtorEq, ↓reduceIte, Nat.reduceEqDiff, Nat.reduceAdd, Nat.reduceLT, Nat.reduceMul, Nat.reduceSub, Nat.reduceLeDiff, Int.reduceLT, Int.reduceLE, Int.reduceEq, Option.isSome_some, implies_true, false_implies, Prod.mk.injEq, ne_eq, not_false_eq_true, not_true_eq_false, ge_iff_le, gt_iff_lt, Int.toNat_natCast, Int.reduceToNat, Int.cast_ofNat_Int, Int.natCast_nonneg, h']
          refine awpLoop.intro (fun z : Nat => [(2, .ref (.ptr 1 0 0 0)), (3, .ref (.ptr 2 0 0 0)), (5, .i .u8 X), (6, .i .u8 Y), (7, .i .u8 Z), (8, .i .u8 x), (9, .i .u8 y), (10, .i .u8 z)]) (fun z => ⟨[.lv true [(0, .ints .u8 k xs)], .lv true [(0, .ints .u8 l ys)]], [((1, 0), .lv true (sqS N t)), ((2, 0), .lv true ([(0, .cells 1 [.sl 0 0 0 0 k 1]), (1, .cells 1 [.sl 0 1 0 0 l 1])]))], 300⟩)
            (fun z => z ≤ Z ∧ ∀ c, c < z → eqT N t xs ys k l x y c = true) (fun z => Z - z) 0 ⟨by omega, fun c hc => absurd hc (by omega)⟩ ⟨[((1,0),(1,0)), ((2,0),(2,0))], rfl, ?_, ?_⟩ ?_
          · simp [wkEnv, lk, renV, renAt, renTo]
          · simp [wkMem, wkLoc, Mem.get, assoc, renBlk, renSegs, renSg, renAt, renTo]
          · rintro z ⟨hz, hqz⟩
            by_cases h3 : (z : Int) < Z
            · have w3 := wrap_u8s (show z < 255 by omega)
              have he := trmV_eq (N := N) (t := t) (xs := xs) (ys := ys) (k := k) (l := l) (x := x) (y := y) (z := z)
              have wx := wrap_i64n (show x < 2 ^ 62 by omega)
              have wy := wrap_i64n (show y < 2 ^ 62 by omega)
              have wz := wrap_i64n (show z < 2 ^ 62 by omega)
              simp only [absE, absL, absF, reduceCtorEq, ↓reduceIte, Nat.reduceEqDiff, Nat.reduceAdd, Nat.reduceLT, Nat.reduceMul, Nat.reduceSub, Nat.reduceLeDiff, Int.reduceLT, Int.reduceLE, Int.reduceEq, Option.isSome_some, implies_true, false_implies, Prod.mk.injEq, ne_eq, not_false_eq_true, not_true_eq_false, ge_iff_le, gt_iff_lt, Int.toNat_natCast, Int.reduceToNat, Int.cast_ofNat_Int, Int.natCast_nonneg, h3]
              repeat first | refine And.intro (by decide +kernel) ?_ | refine And.intro (by omega) ?_
              refine CallsX.args [(0, 0)] (l03Value_ok N t x y z xs k ht hs (by omega) (by omega) (by omega) hBB.1) (by simp) (by simp [Mem.get]) rfl rfl ?_
              simp only [absE, absL, absF, reduceCtorEq, ↓reduceIte, Nat.reduceEqDiff, Nat.reduceAdd, Nat.reduceLT, Nat.reduceMul, Nat.reduceSub, Nat.reduceLeDiff, Int.reduceLT, Int.reduceLE, Int.reduceEq, Option.isSome_some, implies_true, false_implies, Prod.mk.injEq, ne_eq, not_false_eq_true, not_true_eq_false, ge_iff_le, gt_iff_lt, Int.toNat_natCast, Int.reduceToNat, Int.cast_ofNat_Int, Int.natCast_nonneg]
              repeat first | refine And.intro (by decide +kernel) ?_ | refine And.intro (by omega) ?_
              refine CallsX.args [(0, 1)] (l03Value_ok N t x y z ys l ht hs (by omega) (by omega) (by omega) hBB.2) (by simp) (by simp [Mem.get]) rfl rfl ?_
              simp only [absE, absL, absF, reduceCtorEq, ↓reduceIte, Nat.reduceEqDiff, Nat.reduceAdd, Nat.reduceLT, Nat.reduceMul, Nat.reduceSub, Nat.reduceLeDiff, Int.reduceLT, Int.reduceLE, Int.reduceEq, Option.isSome_some, implies_true, false_implies, Prod.mk.injEq, ne_eq, not_false_eq_true, not_true_eq_false, ge_iff_le, gt_iff_lt, Int.toNat_natCast, Int.reduceToNat, Int.cast_ofNat_Int, Int.natCast_nonneg]
              repeat first | refine And.intro (by decide +kernel) ?_ | refine And.intro (by omega) ?_
              simp only [absE, absL, absF, reduceCtorEq, ↓reduceIte, Nat.reduceEqDiff, Nat.reduceAdd, Nat.reduceLT, Nat.reduceMul, Nat.reduceSub, Nat.reduceLeDiff, Int.reduceLT, Int.reduceLE, Int.reduceEq, Option.isSome_some, implies_true, false_implies, Prod.mk.injEq, ne_eq, not_false_eq_true, not_true_eq_false, ge_iff_le, gt_iff_lt, Int.toNat_natCast, Int.reduceToNat, Int.cast_ofNat_Int, Int.natCast_nonneg, he]
              cases h5 : eqT N t xs ys k l x y z
              · simp only [absE, absL, absF, reduceCtorEq, ↓reduceIte, Nat.reduceEqDiff, Nat.reduceAdd, Nat.reduceLT, Nat.reduceMul, Nat.reduceSub, Nat.reduceLeDiff, Int.reduceLT, Int.reduceLE, Int.reduceEq, Option.isSome_some, implies_true, false_implies, Prod.mk.injEq, ne_eq, not_false_eq_true, not_true_eq_false, ge_iff_le, gt_iff_lt, Int.toNat_natCast, Int.reduceToNat, Int.cast_ofNat_Int, Int.natCast_nonneg, wx, wy, wz, Bool.not_false, Try.results148]
                exact ⟨[(324, 0)], by simp, by simp, by simp [renV, renVs, renBlk, renSegs, renSg], .inr ⟨hldB_no (show x < N by omega) (show y < N by omega) (show z < N by omega) h5, by simp [renV, renVs, renAt, renFin, idx], [(x : Int), (y : Int), (z : Int)], by simp [renBlk, renSegs, renSg, Mem.get, assoc, ib, List.replicate]⟩⟩
              · simp only [absE, absL, absF, reduceCtorEq, ↓reduceIte, Nat.reduceEqDiff, Nat.reduceAdd, Nat.reduceLT, Nat.reduceMul, Nat.reduceSub, Nat.reduceLeDiff, Int.reduceLT, Int.reduceLE, Int.reduceEq, Option.isSome_some, implies_true, false_implies, Prod.mk.injEq, ne_eq, not_false_eq_true, not_true_eq_false, ge_iff_le, gt_iff_lt, Int.toNat_natCast, Int.reduceToNat, Int.cast_ofNat_Int, Int.natCast_nonneg, Bool.not_true]
                refine LoopNext.intro (z + 1) ⟨by omega, fun c hc => ?_⟩ (by omega) ⟨[((1,0),(1,0)), ((2,0),(2,0))], rfl, ?_, ?_⟩
                · by_cases e : c = z
                  · subst e; exact h5
                  · exact hqz c (by omega)
                · simp [wkEnv, lk, renV, renAt, renTo, w3]
                · simp [wkMem, wkLoc, Mem.get, assoc, renBlk, renSegs, renSg, renAt, renTo]
            · have hzN : z = Z := by omega
              subst hzN
              simp only [absE, absL, absF, reduceCtorEq, ↓reduceIte, Nat.reduceEqDiff, Nat.reduceAdd, Nat.reduceLT, Nat.reduceMul, Nat.reduceSub, Nat.reduceLeDiff, Int.reduceLT, Int.reduceLE, Int.reduceEq, Option.isSome_some, implies_true, false_implies, Prod.mk.injEq, ne_eq, not_false_eq_true, not_true_eq_false, ge_iff_le, gt_iff_lt, Int.toNat_natCast, Int.reduceToNat, Int.cast_ofNat_Int, Int.natCast_nonneg, h3, w']
              refine LoopNext.intro (y + 1) ⟨by omega, fun b c hb hc => ?_⟩ (by omega) ⟨[((1,0),(1,0)), ((2,0),(2,0))], rfl, ?_, ?_⟩
              · by_cases e : b = y
                · subst e; exact hqz c hc
                · exact hqy b c (by omega) hc
              · simp [wkEnv, lk, renV, renAt, renTo]
              · simp [wkMem, wkLoc, Mem.get, assoc, renBlk, renSegs, renSg, renAt, renTo]
        · have hyN : y = Y := by omega
          subst hyN
          simp only [absE, absL, absF, reduceCtorEq, ↓reduceIte, Nat.reduceEqDiff, Nat.reduceAdd, Nat.reduceLT, Nat.reduceMul, Nat.reduceSub, Nat.reduceLeDiff, Int.reduceLT, Int.reduceLE, Int.reduceEq, Option.isSome_some, implies_true, false_implies, Prod.mk.injEq, ne_eq, not_false_eq_true, not_true_eq_false, ge_iff_le, gt_iff_lt, Int.toNat_natCast, Int.reduceToNat, Int.cast_ofNat_Int, Int.natCast_nonneg, h', w]
          refine LoopNext.intro (x + 1) ⟨by omega, fun a b c ha hb hc => ?_⟩ (by omega) ⟨[((1,0),(1,0)), ((2,0),(2,0))], rfl, ?_, ?_⟩
          · by_cases e : a = x
            · subst e; exact hqy b c hb hc
            · exact hqx a b c (by omega) hb hc
          · simp [wkEnv, lk, renV, renAt, renTo]
          · simp [wkMem, wkLoc, Mem.get, assoc, renBlk, renSegs, renSg, renAt, renTo]
    · have hxN : x = X := by omega
      subst hxN
      have hh := hall hqx
      simp only [absE, absL, absF, reduceCtorEq, ↓reduceIte, Nat.reduceEqDiff, Nat.reduceAdd, Nat.reduceLT, Nat.reduceMul, Nat.reduceSub, Nat.reduceLeDiff, Int.reduceLT, Int.reduceLE, Int.reduceEq, Option.isSome_some, implies_true, false_implies, Prod.mk.injEq, ne_eq, not_false_eq_true, not_true_eq_false, ge_iff_le, gt_iff_lt, Int.toNat_natCast, Int.reduceToNat, Int.cast_ofNat_Int, Int.natCast_nonneg, h, Try.results148]
      exact ⟨[], by simp, by simp, by simp [renV, renVs, renBlk, renSegs, renSg], .inl ⟨hh, by simp [renV, renVs, renAt], rfl⟩⟩
theorem l03Holds_ok (N : Nat) (t xs ys : List Int) (k l : Nat) (ht : Bytes 100 t) (hs : SqP N t) (hk : k ≤ 2 ^ 20) (hl : l ≤ 2 ^ 20) (hB : bothB xs k ys l = true) :
    ACalls Try.prog 97 [.agg (sqS N t), idV 0 1 k l] [bk k xs, bk l ys] (fun v ms ns => v = .b (hldB N t xs ys k l) ∧ ms = [bk k xs, bk l ys] ∧ ns = []) := by
  have hf := l03Fails_ok N t xs ys k l ht hs hk hl hB
  unfold idV bk at hf ⊢
  refine acalls_of_body mix Try.func97 rfl fok97 (Nat.le_of_ble_eq_true rfl) ?_
  unfold abody
  simp only [absE, absL, absF, reduceCtorEq, ↓reduceIte, Nat.reduceEqDiff, Nat.reduceAdd, Nat.reduceLT, Nat.reduceMul, Nat.reduceSub, Nat.reduceLeDiff, Int.reduceLT, Int.reduceLE, Int.reduceEq, Option.isSome_some, implies_true, false_implies, Prod.mk.injEq, ne_eq, not_false_eq_true, not_true_eq_false, ge_iff_le, gt_iff_lt, Int.toNat_natCast, Int.reduceToNat, Int.cast_ofNat_Int, Int.natCast_nonneg, Try.f97]
  refine CallsVia.args [(0, 0), (0, 1)] hf (by simp) (by simp [Mem.get]) rfl rfl ?_
  rintro _ _ _ ⟨rfl, (⟨h5, rfl, rfl⟩ | ⟨h5, rfl, B, rfl⟩)⟩
  · simp only [absE, absL, absF, reduceCtorEq, ↓reduceIte, Nat.reduceEqDiff, Nat.reduceAdd, Nat.reduceLT, Nat.reduceMul, Nat.reduceSub, Nat.reduceLeDiff, Int.reduceLT, Int.reduceLE, Int.reduceEq, Option.isSome_some, implies_true, false_implies, Prod.mk.injEq, ne_eq, not_false_eq_true, not_true_eq_false, ge_iff_le, gt_iff_lt, Int.toNat_natCast, Int.reduceToNat, Int.cast_ofNat_Int, Int.natCast_nonneg, h5, Try.results97]
    exact ⟨[], by simp, by simp, by simp [renV, renVs, renBlk, renSegs, renSg, h5]⟩
  · simp only [absE, absL, absF, reduceCtorEq, ↓reduceIte, Nat.reduceEqDiff, Nat.reduceAdd, Nat.reduceLT, Nat.reduceMul, Nat.reduceSub, Nat.reduceLeDiff, Int.reduceLT, Int.reduceLE, Int.reduceEq, Option.isSome_some, implies_true, false_implies, Prod.mk.injEq, ne_eq, not_false_eq_true, not_true_eq_false, ge_iff_le, gt_iff_lt, Int.toNat_natCast, Int.reduceToNat, Int.cast_ofNat_Int, Int.natCast_nonneg, h5, ib, Try.results97]
    exact ⟨[], by simp, by simp, by simp [renV, renVs, renBlk, renSegs, renSg, h5]⟩
theorem specHolds_no (n : Int) (t xs ys : List Int) (k l : Nat) (ht : Bytes 100 t) (hk : k ≤ 2 ^ 20) (hl : l ≤ 2 ^ 20) (h : askB n t xs ys k l = false) :
    ACalls Try.prog 46 [.agg (sqS n t), idV 0 1 k l] [bk k xs, bk l ys] (fun v ms ns => v = .tup [.b false, .i .i64 1] ∧ ms = [bk k xs, bk l ys] ∧ ns = []) := by
  have hb := l03Code_ok n t xs ys k l ht hk hl
  rw [h] at hb
  unfold idV bk at hb ⊢
  refine acalls_of_body mix Try.func46 rfl fok46 (Nat.le_of_ble_eq_true rfl) ?_
  unfold abody
  simp only [absE, absL, absF, reduceCtorEq, ↓reduceIte, Nat.reduceEqDiff, Nat.reduceAdd, Nat.reduceLT, Nat.reduceMul, Nat.reduceSub, Nat.reduceLeDiff, Int.reduceLT, Int.reduceLE, Int.reduceEq, Option.isSome_some, implies_true, false_implies, Prod.mk.injEq, ne_eq, not_false_eq_true, not_true_eq_false, ge_iff_le, gt_iff_lt, Int.toNat_natCast, Int.reduceToNat, Int.cast_ofNat_Int, Int.natCast_nonneg, Try.f46]
  refine CallsVia.args [(0, 0), (0, 1)] hb (by simp) (by simp [Mem.get]) rfl rfl ?_
  rintro _ _ _ ⟨rfl, rfl, rfl⟩
  simp only [absE, absL, absF, reduceCtorEq, ↓reduceIte, Nat.reduceEqDiff, Nat.reduceAdd, Nat.reduceLT, Nat.reduceMul, Nat.reduceSub, Nat.reduceLeDiff, Int.reduceLT, Int.reduceLE, Int.reduceEq, Option.isSome_some, implies_true, false_implies, Prod.mk.injEq, ne_eq, not_false_eq_true, not_true_eq_false, ge_iff_le, gt_iff_lt, Int.toNat_natCast, Int.reduceToNat, Int.cast_ofNat_Int, Int.natCast_nonneg, if_false, Bool.false_eq_true, Try.results46]
  exact ⟨[], by simp, by simp, by simp [renV, renVs, renBlk, renSegs, renSg]⟩
theorem specHolds_yes (N : Nat) (t xs ys : List Int) (k l : Nat) (ht : Bytes 100 t) (hk : k ≤ 2 ^ 20) (hl : l ≤ 2 ^ 20) (h : askB N t xs ys k l = true) :
    ACalls Try.prog 46 [.agg (sqS N t), idV 0 1 k l] [bk k xs, bk l ys] (fun v ms ns => v = .tup [.b (hldB N t xs ys k l), .i .i64 0] ∧ ms = [bk k xs, bk l ys] ∧ ns = []) := by
  obtain ⟨h1, hB⟩ := askB_iff.1 h
  have hs := sqB_iff.1 h1
  have hb := l03Code_ok N t xs ys k l ht hk hl
  have hf := l03Holds_ok N t xs ys k l ht hs hk hl hB
  rw [h] at hb
  unfold idV bk at hb hf ⊢
  refine acalls_of_body mix Try.func46 rfl fok46 (Nat.le_of_ble_eq_true rfl) ?_
  unfold abody
  simp only [absE, absL, absF, reduceCtorEq, ↓reduceIte, Nat.reduceEqDiff, Nat.reduceAdd, Nat.reduceLT, Nat.reduceMul, Nat.reduceSub, Nat.reduceLeDiff, Int.reduceLT, Int.reduceLE, Int.reduceEq, Option.isSome_some, implies_true, false_implies, Prod.mk.injEq, ne_eq, not_false_eq_true, not_true_eq_false, ge_iff_le, gt_iff_lt, Int.toNat_natCast, Int.reduceToNat, Int.cast_ofNat_Int, Int.natCast_nonneg, Try.f46]
  refine CallsVia.args [(0, 0), (0, 1)] hb (by simp) (by simp [Mem.get]) rfl rfl ?_
  rintro _ _ _ ⟨rfl, rfl, rfl⟩
  simp only [absE, absL, absF, reduceCtorEq, ↓reduceIte, Nat.reduceEqDiff, Nat.reduceAdd, Nat.reduceLT, Nat.reduceMul, Nat.reduceSub, Nat.reduceLeDiff, Int.reduceLT, Int.reduceLE, Int.reduceEq, Option.isSome_some, implies_true, false_implies, Prod.mk.injEq, ne_eq, not_false_eq_true, not_true_eq_false, ge_iff_le, gt_iff_lt, Int.toNat_natCast, Int.reduceToNat, Int.cast_ofNat_Int, Int.natCast_nonneg, if_true]
  refine CallsVia.args [(0, 0), (0, 1)] hf (by simp) (by simp [Mem.get]) rfl rfl ?_
  rintro _ _ _ ⟨rfl, rfl, rfl⟩
  simp only [absE, absL, absF, reduceCtorEq, ↓reduceIte, Nat.reduceEqDiff, Nat.reduceAdd, Nat.reduceLT, Nat.reduceMul, Nat.reduceSub, Nat.reduceLeDiff, Int.reduceLT, Int.reduceLE, Int.reduceEq, Option.isSome_some, implies_true, false_implies, Prod.mk.injEq, ne_eq, not_false_eq_true, not_true_eq_false, ge_iff_le, gt_iff_lt, Int.toNat_natCast, Int.reduceToNat, Int.cast_ofNat_Int, Int.natCast_nonneg, Try.results46]
  exact ⟨[], by simp, by simp, by simp [renV, renVs, renBlk, renSegs, renSg]⟩

end Go.Proofs.Ytoccbgffekhcaaa
