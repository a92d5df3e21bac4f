/-
Contracts of functions of the given program, by the abstract walk.
-/
import Derived.Test.YtnophcdinideaaaAbsW
import Derived.Test.YtnophcdinideaaaHf
namespace Go.Proofs.Ytnophcdinideaaa
open Go Go.Abs
set_option linter.unusedVariables false
set_option linter.unusedSectionVars false
set_option linter.unusedSimpArgs false
set_option maxRecDepth 100000
theorem l06Two_ok (N M : Nat) (t t' xs : List Int) (k : Nat) (ht : Bytes 100 t) (hs : SqP N t) (ht' : Bytes 100 t') (hs' : SqP M t') (hx : xs.length = k) (hk : k ≤ 2 ^ 20) :
    ACalls Try.prog 110 [.agg (sqS N t), .agg (sqS M t'), .ref (.sl 0 0 0 0 k 1)] [.lv true [(0, .ints .i64 k xs)]] (fun v ms ns => v = .i .i64 (if imgB N M xs k = true then 0 else 2) ∧ ms = [.lv true [(0, .ints .i64 k xs)]] ∧ ns = []) := by
  have hM := hs'.le
  have wn : IntKind.i64.wrap ((M : Int) - 1) = (M : Int) - 1 := wrap_i64 (by omega) (by omega)
  have q1 : sqB N t = true := sqB_iff.2 hs
  have q2 : sqB M t' = true := sqB_iff.2 hs'
  refine acalls_of_body mix Try.func110 rfl fok110 (Nat.le_of_ble_eq_true rfl) ?_
  unfold abody
  simp only [absE, absL, absF, reduceCtorEq, ↓reduceIte, Nat.reduceEqDiff, Nat.reduceAdd, Nat.reduceLT, Nat.reduceMul, Nat.reduceSub, Nat.reduceLeDiff, Int.reduceLT, Int.reduceLE, Int.reduceEq, Option.isSome_some, implies_true, false_implies, Prod.mk.injEq, ne_eq, not_false_eq_true, not_true_eq_false, ge_iff_le, gt_iff_lt, Int.toNat_natCast, Int.reduceToNat, Int.cast_ofNat_Int, Int.natCast_nonneg, Try.f110]
  refine CallsVia.none (l01Is_ok N t ht) ?_
  rintro _ _ _ ⟨rfl, rfl, rfl⟩
  simp only [absE, absL, absF, reduceCtorEq, ↓reduceIte, Nat.reduceEqDiff, Nat.reduceAdd, Nat.reduceLT, Nat.reduceMul, Nat.reduceSub, Nat.reduceLeDiff, Int.reduceLT, Int.reduceLE, Int.reduceEq, Option.isSome_some, implies_true, false_implies, Prod.mk.injEq, ne_eq, not_false_eq_true, not_true_eq_false, ge_iff_le, gt_iff_lt, Int.toNat_natCast, Int.reduceToNat, Int.cast_ofNat_Int, Int.natCast_nonneg, q1]
  refine CallsVia.none (l01Is_ok M t' ht') ?_
  rintro _ _ _ ⟨rfl, rfl, rfl⟩
  simp only [absE, absL, absF, reduceCtorEq, ↓reduceIte, Nat.reduceEqDiff, Nat.reduceAdd, Nat.reduceLT, Nat.reduceMul, Nat.reduceSub, Nat.reduceLeDiff, Int.reduceLT, Int.reduceLE, Int.reduceEq, Option.isSome_some, implies_true, false_implies, Prod.mk.injEq, ne_eq, not_false_eq_true, not_true_eq_false, ge_iff_le, gt_iff_lt, Int.toNat_natCast, Int.reduceToNat, Int.cast_ofNat_Int, Int.natCast_nonneg, q2]
  refine awpLoop.intro (fun i : Nat => [(2, .ref (.sl 0 0 0 0 k 1)), (3, .ref (.ptr 1 0 0 0)), (4, .ref (.ptr 2 0 0 0)), (7, .i .i64 i)]) (fun i => ⟨[.lv true [(0, .ints .i64 k xs)]], [((1, 0), .lv true (sqS N t)), ((2, 0), .lv true (sqS M t'))], 13⟩)
    (fun i => i ≤ k ∧ ImgP M xs i) (fun i => k - i) 0 ⟨by omega, fun j hj => absurd hj (by omega)⟩ ⟨[((1,0),(1,0)), ((2,0),(2,0))], rfl, ?_, ?_⟩ ?_
  · simp [wkEnv, lk, renV, renAt, renTo]
  · simp [wkMem, wkLoc, Mem.get, assoc, renBlk, renSegs, renSg, renTo]
  · rintro i ⟨hi, hp⟩
    by_cases h : (i : Int) < k
    · have w := wrap_i64s (show i < 2 ^ 62 by omega)
      have v1 : 0 + i * 1 < k := by omega
      simp only [absE, absL, absF, reduceCtorEq, ↓reduceIte, Nat.reduceEqDiff, Nat.reduceAdd, Nat.reduceLT, Nat.reduceMul, Nat.reduceSub, Nat.reduceLeDiff, Int.reduceLT, Int.reduceLE, Int.reduceEq, Option.isSome_some, implies_true, false_implies, Prod.mk.injEq, ne_eq, not_false_eq_true, not_true_eq_false, ge_iff_le, gt_iff_lt, Int.toNat_natCast, Int.reduceToNat, Int.cast_ofNat_Int, Int.natCast_nonneg, h, v1, wn]
      refine CallsX.none (l01In_ok (xs.getD (0 + i * 1) 0) 0 ((M : Int) - 1)) ?_
      by_cases hw : 0 ≤ xs.getD (0 + i * 1) 0 ∧ xs.getD (0 + i * 1) 0 ≤ (M : Int) - 1
      · simp only [absE, absL, absF, reduceCtorEq, ↓reduceIte, Nat.reduceEqDiff, Nat.reduceAdd, Nat.reduceLT, Nat.reduceMul, Nat.reduceSub, Nat.reduceLeDiff, Int.reduceLT, Int.reduceLE, Int.reduceEq, Option.isSome_some, implies_true, false_implies, Prod.mk.injEq, ne_eq, not_false_eq_true, not_true_eq_false, ge_iff_le, gt_iff_lt, Int.toNat_natCast, Int.reduceToNat, Int.cast_ofNat_Int, Int.natCast_nonneg, hw, and_self]
        refine LoopNext.intro (i + 1) ⟨by omega, fun j hj => ?_⟩ (by omega) ⟨[((1,0),(1,0)), ((2,0),(2,0))], rfl, ?_, ?_⟩
        · by_cases ej : j = i
          · subst ej; exact hw
          · exact hp j (by omega)
        · simp [wkEnv, lk, renV, renAt, renTo, w]
        · simp [wkMem, wkLoc, Mem.get, assoc, renBlk, renSegs, renSg, renTo, w]
      · simp only [absE, absL, absF, reduceCtorEq, ↓reduceIte, Nat.reduceEqDiff, Nat.reduceAdd, Nat.reduceLT, Nat.reduceMul, Nat.reduceSub, Nat.reduceLeDiff, Int.reduceLT, Int.reduceLE, Int.reduceEq, Option.isSome_some, implies_true, false_implies, Prod.mk.injEq, ne_eq, not_false_eq_true, not_true_eq_false, ge_iff_le, gt_iff_lt, Int.toNat_natCast, Int.reduceToNat, Int.cast_ofNat_Int, Int.natCast_nonneg, hw, Try.results110]
        have hf : imgB N M xs k = false := imgB_false fun hu => hw (hu.1 i (by omega))
        exact ⟨[], by simp, by simp, by simp [renV, renBlk, renSegs, renSg, hf]⟩
    · obtain rfl : i = k := by omega
      by_cases hkN : i = N
      · subst hkN
        simp only [absE, absL, absF, reduceCtorEq, ↓reduceIte, Nat.reduceEqDiff, Nat.reduceAdd, Nat.reduceLT, Nat.reduceMul, Nat.reduceSub, Nat.reduceLeDiff, Int.reduceLT, Int.reduceLE, Int.reduceEq, Option.isSome_some, implies_true, false_implies, Prod.mk.injEq, ne_eq, not_false_eq_true, not_true_eq_false, ge_iff_le, gt_iff_lt, Int.toNat_natCast, Int.reduceToNat, Int.cast_ofNat_Int, Int.natCast_nonneg, h, eq_self, Try.results110]
        have hf : imgB i M xs i = true := imgB_true ⟨hp, rfl⟩
        exact ⟨[], by simp, by simp, by simp [renV, renBlk, renSegs, renSg, hf]⟩
      · have g : ¬(i : Int) = N := by omega
        simp only [absE, absL, absF, reduceCtorEq, ↓reduceIte, Nat.reduceEqDiff, Nat.reduceAdd, Nat.reduceLT, Nat.reduceMul, Nat.reduceSub, Nat.reduceLeDiff, Int.reduceLT, Int.reduceLE, Int.reduceEq, Option.isSome_some, implies_true, false_implies, Prod.mk.injEq, ne_eq, not_false_eq_true, not_true_eq_false, ge_iff_le, gt_iff_lt, Int.toNat_natCast, Int.reduceToNat, Int.cast_ofNat_Int, Int.natCast_nonneg, h, g, Try.results110]
        have hf : imgB N M xs i = false := imgB_false fun hu => hkN hu.2
        exact ⟨[], by simp, by simp, by simp [renV, renBlk, renSegs, renSg, hf, hkN]⟩
theorem l06Is_ok (N M : Nat) (t t' xs : List Int) (k : Nat) (ht : Bytes 100 t) (hs : SqP N t) (ht' : Bytes 100 t') (hs' : SqP M t') (hk : k = N) (hx : xs.length = k) (hI : ImgP M xs k) :
    ACalls Try.prog 111 [.agg (sqS N t), .agg (sqS M t'), .ref (.sl 0 0 0 0 k 1)] [.lv true [(0, .ints .i64 k xs)]] (fun v ms ns => v = .b (pairsB N (hm t t' xs)) ∧ ms = [.lv true [(0, .ints .i64 k xs)]] ∧ ns = []) := by
  have hN := hs.le
  have hM := hs'.le
  refine acalls_of_body mix Try.func111 rfl fok111 (Nat.le_of_ble_eq_true rfl) ?_
  unfold abody
  simp only [absE, absL, absF, reduceCtorEq, ↓reduceIte, Nat.reduceEqDiff, Nat.reduceAdd, Nat.reduceLT, Nat.reduceMul, Nat.reduceSub, Nat.reduceLeDiff, Int.reduceLT, Int.reduceLE, Int.reduceEq, Option.isSome_some, implies_true, false_implies, Prod.mk.injEq, ne_eq, not_false_eq_true, not_true_eq_false, ge_iff_le, gt_iff_lt, Int.toNat_natCast, Int.reduceToNat, Int.cast_ofNat_Int, Int.natCast_nonneg, Try.f111]
  refine awpLoop.intro (fun x : Nat => [(2, .ref (.sl 0 0 0 0 k 1)), (3, .ref (.ptr 1 0 0 0)), (4, .ref (.ptr 2 0 0 0)), (7, .i .i64 x)]) (fun x => ⟨[.lv true [(0, .ints .i64 k xs)]], [((1, 0), .lv true (sqS N t)), ((2, 0), .lv true (sqS M t'))], 5⟩)
    (fun x => x ≤ N ∧ ∀ j, j < x → ∀ y, y < N → hm t t' xs j y = true) (fun x => N - x) 0 ⟨by omega, fun j hj => absurd hj (by omega)⟩ ⟨[((1,0),(1,0)), ((2,0),(2,0))], rfl, ?_, ?_⟩ ?_
  · simp [wkEnv, lk, renV, renAt, renTo]
  · simp [wkMem, wkLoc, Mem.get, assoc, renBlk, renSegs, renSg, renTo]
  · rintro x ⟨hxN, hp⟩
    by_cases h : (x : Int) < N
    · have w := wrap_i64s (show x < 2 ^ 62 by omega)
      simp only [absE, absL, absF, reduceCtorEq, ↓reduceIte, Nat.reduceEqDiff, Nat.reduceAdd, Nat.reduceLT, Nat.reduceMul, Nat.reduceSub, Nat.reduceLeDiff, Int.reduceLT, Int.reduceLE, Int.reduceEq, Option.isSome_some, implies_true, false_implies, Prod.mk.injEq, ne_eq, not_false_eq_true, not_true_eq_false, ge_iff_le, gt_iff_lt, Int.toNat_natCast, Int.reduceToNat, Int.cast_ofNat_Int, Int.natCast_nonneg, h]
      refine awpLoop.intro (fun y : Nat => [(2, .ref (.sl 0 0 0 0 k 1)), (3, .ref (.ptr 1 0 0 0)), (4, .ref (.ptr 2 0 0 0)), (7, .i .i64 x), (8, .i .i64 y)]) (fun y => ⟨[.lv true [(0, .ints .i64 k xs)]], [((1, 0), .lv true (sqS N t)), ((2, 0), .lv true (sqS M t'))], 10⟩)
        (fun y => y ≤ N ∧ ∀ j, j < y → hm t t' xs x j = true) (fun y => N - y) 0 ⟨by omega, fun j hj => absurd hj (by omega)⟩ ⟨[((1,0),(1,0)), ((2,0),(2,0))], rfl, ?_, ?_⟩ ?_
      · simp [wkEnv, lk, renV, renAt, renTo]
      · simp [wkMem, wkLoc, Mem.get, assoc, renBlk, renSegs, renSg, renTo]
      · rintro y ⟨hyN, hq⟩
        by_cases h' : (y : Int) < N
        · have w' := wrap_i64s (show y < 2 ^ 62 by omega)
          obtain ⟨a1, a2⟩ := hI.el_eq (show x < k by omega)
          obtain ⟨b1, b2⟩ := hI.el_eq (show y < k by omega)
          have j1 := hs.cl_lt (show x < N by omega) (show y < N by omega)
          have j2 := hs'.cl_lt a2 b2
          obtain ⟨c1, c2⟩ := hI.el_eq (show cl t x y < k by omega)
          have i1 : (x : Int) < 10 := by omega
          have i2 : (y : Int) < 10 := by omega
          have i3 : ((el xs x : Nat) : Int) < 10 := by omega
          have i4 : ((el xs y : Nat) : Int) < 10 := by omega
          have l1 : (x : Int) < k := by omega
          have l2 : (y : Int) < k := by omega
          have l3 : ((cl t x y : Nat) : Int) < k := by omega
          have v1 : 0 + x * 1 < k := by omega
          have v2 : 0 + y * 1 < k := by omega
          have v3 : 0 + cl t x y * 1 < k := by omega
          have u1 : 0 + x * 10 + y * 1 < 100 := by omega
          have u2 : 0 + el xs x * 10 + el xs y * 1 < 100 := by omega
          have k1 := sq_colget ht x y
          have k2 := sq_colget ht' (el xs x) (el xs y)
          have w2 : IntKind.i64.wrap ((cl t' (el xs x) (el xs y) : Nat) : Int) = ((cl t' (el xs x) (el xs y) : Nat) : Int) := wrap_i64 (by omega) (by omega)
          by_cases hc : el xs (cl t x y) = cl t' (el xs x) (el xs y)
          · have g : ((el xs (cl t x y) : Nat) : Int) = ((cl t' (el xs x) (el xs y) : Nat) : Int) := by omega
            simp only [absE, absL, absF, reduceCtorEq, ↓reduceIte, Nat.reduceEqDiff, Nat.reduceAdd, Nat.reduceLT, Nat.reduceMul, Nat.reduceSub, Nat.reduceLeDiff, Int.reduceLT, Int.reduceLE, Int.reduceEq, Option.isSome_some, implies_true, false_implies, Prod.mk.injEq, ne_eq, not_false_eq_true, not_true_eq_false, ge_iff_le, gt_iff_lt, Int.toNat_natCast, Int.reduceToNat, Int.cast_ofNat_Int, Int.natCast_nonneg, h', i1, i2, i3, i4, l1, l2, l3, v1, v2, v3, u1, u2, k1, k2, a1, b1, c1, w2, g]
            refine LoopNext.intro (y + 1) ⟨by omega, fun j hj => ?_⟩ (by omega) ⟨[((1,0),(1,0)), ((2,0),(2,0))], rfl, ?_, ?_⟩
            · by_cases ej : j = y
              · subst ej; exact decide_eq_true hc.symm
              · exact hq j (by omega)
            · simp [wkEnv, lk, renV, renAt, renTo, w']
            · simp [wkMem, wkLoc, Mem.get, assoc, renBlk, renSegs, renSg, renTo, w']
          · have g : ¬((el xs (cl t x y) : Nat) : Int) = ((cl t' (el xs x) (el xs y) : Nat) : Int) := by omega
            simp only [absE, absL, absF, reduceCtorEq, ↓reduceIte, Nat.reduceEqDiff, Nat.reduceAdd, Nat.reduceLT, Nat.reduceMul, Nat.reduceSub, Nat.reduceLeDiff, Int.reduceLT, Int.reduceLE, Int.reduceEq, Option.isSome_some, implies_true, false_implies, Prod.mk.injEq, ne_eq, not_false_eq_true, not_true_eq_false, ge_iff_le, gt_iff_lt, Int.toNat_natCast, Int.reduceToNat, Int.cast_ofNat_Int, Int.natCast_nonneg, h', i1, i2, i3, i4, l1, l2, l3, v1, v2, v3, u1, u2, k1, k2, a1, b1, c1, w2, g, Try.results111]
            have hf : pairsB N (hm t t' xs) = false := pairsB_false fun hu => hc (of_decide_eq_true (hu x (by omega) y (by omega))).symm
            exact ⟨[], by simp, by simp, by simp [renV, renBlk, renSegs, renSg, hf]⟩
        · simp only [absE, absL, absF, reduceCtorEq, ↓reduceIte, Nat.reduceEqDiff, Nat.reduceAdd, Nat.reduceLT, Nat.reduceMul, Nat.reduceSub, Nat.reduceLeDiff, Int.reduceLT, Int.reduceLE, Int.reduceEq, Option.isSome_some, implies_true, false_implies, Prod.mk.injEq, ne_eq, not_false_eq_true, not_true_eq_false, ge_iff_le, gt_iff_lt, Int.toNat_natCast, Int.reduceToNat, Int.cast_ofNat_Int, Int.natCast_nonneg, h', w]
          refine LoopNext.intro (x + 1) ⟨by omega, fun j hj => ?_⟩ (by omega) ⟨[((1,0),(1,0)), ((2,0),(2,0))], rfl, ?_, ?_⟩
          · by_cases ej : j = x
            · subst ej; exact fun y hy' => hq y (by omega)
            · exact hp j (by omega)
          · simp [wkEnv, lk, renV, renAt, renTo]
          · simp [wkMem, wkLoc, Mem.get, assoc, renBlk, renSegs, renSg, renTo]
    · simp only [absE, absL, absF, reduceCtorEq, ↓reduceIte, Nat.reduceEqDiff, Nat.reduceAdd, Nat.reduceLT, Nat.reduceMul, Nat.reduceSub, Nat.reduceLeDiff, Int.reduceLT, Int.reduceLE, Int.reduceEq, Option.isSome_some, implies_true, false_implies, Prod.mk.injEq, ne_eq, not_false_eq_true, not_true_eq_false, ge_iff_le, gt_iff_lt, Int.toNat_natCast, Int.reduceToNat, Int.cast_ofNat_Int, Int.natCast_nonneg, h, Try.results111]
      have hf : pairsB N (hm t t' xs) = true := pairsB_true fun j hj => hp j (by omega)
      exact ⟨[], by simp, by simp, by simp [renV, renBlk, renSegs, renSg, hf]⟩
noncomputable def hcd (n : Int) (t : List Int) (n' : Int) (t' : List Int) (xs : List Int) (k : Nat) : Int :=
  if loopB n t && loopB n' t' then (if imgB n.toNat n'.toNat xs k then (if pairsB n.toNat (hm t t' xs) then 0 else 5) else 2) else 1
theorem hcd_zero {n n' : Int} {t t' xs : List Int} {k : Nat} (h : hcd n t n' t' xs k = 0) : loopB n t = true ∧ loopB n' t' = true ∧ ImgP n'.toNat xs k ∧ k = n.toNat ∧ pairsB n.toNat (hm t t' xs) = true := by
  unfold hcd at h
  split at h
  · rename_i h1
    rw [Bool.and_eq_true] at h1
    split at h
    · rename_i h2
      split at h
      · rename_i h3
        exact ⟨h1.1, h1.2, (imgB_iff.1 h2).1, (imgB_iff.1 h2).2, h3⟩
      · omega
    · omega
  · omega
theorem loopB_nat {n : Int} {t : List Int} (h : loopB n t = true) : ∃ N : Nat, n = N ∧ SqP N t := by
  have hs : SqP n t := by simp only [loopB, Bool.and_eq_true] at h; exact sqB_iff.1 h.1
  refine ⟨n.toNat, by have := hs.1; omega, ?_⟩
  rw [show ((n.toNat : Nat) : Int) = n by have := hs.1; omega]; exact hs
theorem homomorphismCode_ok (n n' : Int) (t t' xs : List Int) (k : Nat) (ht : Bytes 100 t) (ht' : Bytes 100 t') (hx : xs.length = k) (hk : k ≤ 2 ^ 20) :
    ACalls Try.prog 81 [.agg (sqS n t), .agg (sqS n' t'), .ref (.sl 0 0 0 0 k 1)] [.lv true [(0, .ints .i64 k xs)]] (fun v ms ns => v = .i .i64 (hcd n t n' t' xs k) ∧ ms = [.lv true [(0, .ints .i64 k xs)]] ∧ ns = []) := by
  refine acalls_of_body mix Try.func81 rfl fok81 (Nat.le_of_ble_eq_true rfl) ?_
  unfold abody
  simp only [absE, absL, absF, reduceCtorEq, ↓reduceIte, Nat.reduceEqDiff, Nat.reduceAdd, Nat.reduceLT, Nat.reduceMul, Nat.reduceSub, Nat.reduceLeDiff, Int.reduceLT, Int.reduceLE, Int.reduceEq, Option.isSome_some, implies_true, false_implies, Prod.mk.injEq, ne_eq, not_false_eq_true, not_true_eq_false, ge_iff_le, gt_iff_lt, Int.toNat_natCast, Int.reduceToNat, Int.cast_ofNat_Int, Int.natCast_nonneg, Try.f81]
  refine CallsVia.none (isLoop_ok n t ht) ?_
  rintro _ _ _ ⟨rfl, rfl, rfl⟩
  cases h1 : loopB n t
  · simp only [absE, absL, absF, reduceCtorEq, ↓reduceIte, Nat.reduceEqDiff, Nat.reduceAdd, Nat.reduceLT, Nat.reduceMul, Nat.reduceSub, Nat.reduceLeDiff, Int.reduceLT, Int.reduceLE, Int.reduceEq, Option.isSome_some, implies_true, false_implies, Prod.mk.injEq, ne_eq, not_false_eq_true, not_true_eq_false, ge_iff_le, gt_iff_lt, Int.toNat_natCast, Int.reduceToNat, Int.cast_ofNat_Int, Int.natCast_nonneg, Try.results81]
    exact ⟨[], by simp, by simp, by simp [renV, renVs, renSegs, renSg, renBlk, hcd, h1]⟩
  · simp only [absE, absL, absF, reduceCtorEq, ↓reduceIte, Nat.reduceEqDiff, Nat.reduceAdd, Nat.reduceLT, Nat.reduceMul, Nat.reduceSub, Nat.reduceLeDiff, Int.reduceLT, Int.reduceLE, Int.reduceEq, Option.isSome_some, implies_true, false_implies, Prod.mk.injEq, ne_eq, not_false_eq_true, not_true_eq_false, ge_iff_le, gt_iff_lt, Int.toNat_natCast, Int.reduceToNat, Int.cast_ofNat_Int, Int.natCast_nonneg]
    refine CallsVia.none (isLoop_ok n' t' ht') ?_
    rintro _ _ _ ⟨rfl, rfl, rfl⟩
    cases h2 : loopB n' t'
    · simp only [absE, absL, absF, reduceCtorEq, ↓reduceIte, Nat.reduceEqDiff, Nat.reduceAdd, Nat.reduceLT, Nat.reduceMul, Nat.reduceSub, Nat.reduceLeDiff, Int.reduceLT, Int.reduceLE, Int.reduceEq, Option.isSome_some, implies_true, false_implies, Prod.mk.injEq, ne_eq, not_false_eq_true, not_true_eq_false, ge_iff_le, gt_iff_lt, Int.toNat_natCast, Int.reduceToNat, Int.cast_ofNat_Int, Int.natCast_nonneg, Try.results81]
      exact ⟨[], by simp, by simp, by simp [renV, renVs, renSegs, renSg, renBlk, hcd, h1, h2]⟩
    · obtain ⟨N, rfl, hs⟩ := loopB_nat h1
      obtain ⟨M, rfl, hs'⟩ := loopB_nat h2
      simp only [absE, absL, absF, reduceCtorEq, ↓reduceIte, Nat.reduceEqDiff, Nat.reduceAdd, Nat.reduceLT, Nat.reduceMul, Nat.reduceSub, Nat.reduceLeDiff, Int.reduceLT, Int.reduceLE, Int.reduceEq, Option.isSome_some, implies_true, false_implies, Prod.mk.injEq, ne_eq, not_false_eq_true, not_true_eq_false, ge_iff_le, gt_iff_lt, Int.toNat_natCast, Int.reduceToNat, Int.cast_ofNat_Int, Int.natCast_nonneg]
      refine CallsVia.args [(0, 0)] (areImages_ok N M t t' xs k hs'.le hx hk) (by simp) (by simp [Mem.get]) rfl rfl ?_
      rintro _ _ _ ⟨rfl, rfl, rfl⟩
      cases h3 : imgB N M xs k
      · simp only [absE, absL, absF, reduceCtorEq, ↓reduceIte, Nat.reduceEqDiff, Nat.reduceAdd, Nat.reduceLT, Nat.reduceMul, Nat.reduceSub, Nat.reduceLeDiff, Int.reduceLT, Int.reduceLE, Int.reduceEq, Option.isSome_some, implies_true, false_implies, Prod.mk.injEq, ne_eq, not_false_eq_true, not_true_eq_false, ge_iff_le, gt_iff_lt, Int.toNat_natCast, Int.reduceToNat, Int.cast_ofNat_Int, Int.natCast_nonneg, Try.results81]
        exact ⟨[], by simp, by simp, by simp [renV, renVs, renSegs, renSg, renBlk, hcd, h1, h2, h3]⟩
      · obtain ⟨hI, hkN⟩ := imgB_iff.1 h3
        simp only [absE, absL, absF, reduceCtorEq, ↓reduceIte, Nat.reduceEqDiff, Nat.reduceAdd, Nat.reduceLT, Nat.reduceMul, Nat.reduceSub, Nat.reduceLeDiff, Int.reduceLT, Int.reduceLE, Int.reduceEq, Option.isSome_some, implies_true, false_implies, Prod.mk.injEq, ne_eq, not_false_eq_true, not_true_eq_false, ge_iff_le, gt_iff_lt, Int.toNat_natCast, Int.reduceToNat, Int.cast_ofNat_Int, Int.natCast_nonneg]
        refine CallsVia.args [(0, 0)] (isHom_ok N M t t' xs k ht hs ht' hs' hkN hx hI) (by simp) (by simp [Mem.get]) rfl rfl ?_
        rintro _ _ _ ⟨rfl, rfl, rfl⟩
        cases h4 : pairsB N (hm t t' xs)
        · simp only [absE, absL, absF, reduceCtorEq, ↓reduceIte, Nat.reduceEqDiff, Nat.reduceAdd, Nat.reduceLT, Nat.reduceMul, Nat.reduceSub, Nat.reduceLeDiff, Int.reduceLT, Int.reduceLE, Int.reduceEq, Option.isSome_some, implies_true, false_implies, Prod.mk.injEq, ne_eq, not_false_eq_true, not_true_eq_false, ge_iff_le, gt_iff_lt, Int.toNat_natCast, Int.reduceToNat, Int.cast_ofNat_Int, Int.natCast_nonneg, Try.results81]
          exact ⟨[], by simp, by simp, by simp [renV, renVs, renSegs, renSg, renBlk, hcd, h1, h2, h3, h4]⟩
        · simp only [absE, absL, absF, reduceCtorEq, ↓reduceIte, Nat.reduceEqDiff, Nat.reduceAdd, Nat.reduceLT, Nat.reduceMul, Nat.reduceSub, Nat.reduceLeDiff, Int.reduceLT, Int.reduceLE, Int.reduceEq, Option.isSome_some, implies_true, false_implies, Prod.mk.injEq, ne_eq, not_false_eq_true, not_true_eq_false, ge_iff_le, gt_iff_lt, Int.toNat_natCast, Int.reduceToNat, Int.cast_ofNat_Int, Int.natCast_nonneg, Try.results81]
          exact ⟨[], by simp, by simp, by simp [renV, renVs, renSegs, renSg, renBlk, hcd, h1, h2, h3, h4]⟩
theorem l06Hom_ok (n n' : Int) (t t' xs : List Int) (k : Nat) (ht : Bytes 100 t) (ht' : Bytes 100 t') (hx : xs.length = k) (hk : k ≤ 2 ^ 20) :
    ACalls Try.prog 80 [.agg (sqS n t), .agg (sqS n' t'), .ref (.sl 0 0 0 0 k 1)] [.lv true [(0, .ints .i64 k xs)]] (fun v ms ns => v = .i .i64 (hcd n t n' t' xs k) ∧ ms = [.lv true [(0, .ints .i64 k xs)]] ∧ ns = []) := by
  refine acalls_of_body mix Try.func80 rfl fok80 (Nat.le_of_ble_eq_true rfl) ?_
  unfold abody
  simp only [absE, absL, absF, reduceCtorEq, ↓reduceIte, Nat.reduceEqDiff, Nat.reduceAdd, Nat.reduceLT, Nat.reduceMul, Nat.reduceSub, Nat.reduceLeDiff, Int.reduceLT, Int.reduceLE, Int.reduceEq, Option.isSome_some, implies_true, false_implies, Prod.mk.injEq, ne_eq, not_false_eq_true, not_true_eq_false, ge_iff_le, gt_iff_lt, Int.toNat_natCast, Int.reduceToNat, Int.cast_ofNat_Int, Int.natCast_nonneg, Try.f80]
  refine CallsVia.none (l01Loop_ok n t ht) ?_
  rintro _ _ _ ⟨rfl, rfl, rfl⟩
  cases h1 : loopB n t
  · simp only [absE, absL, absF, reduceCtorEq, ↓reduceIte, Nat.reduceEqDiff, Nat.reduceAdd, Nat.reduceLT, Nat.reduceMul, Nat.reduceSub, Nat.reduceLeDiff, Int.reduceLT, Int.reduceLE, Int.reduceEq, Option.isSome_some, implies_true, false_implies, Prod.mk.injEq, ne_eq, not_false_eq_true, not_true_eq_false, ge_iff_le, gt_iff_lt, Int.toNat_natCast, Int.reduceToNat, Int.cast_ofNat_Int, Int.natCast_nonneg, Try.results80]
    exact ⟨[], by simp, by simp, by simp [renV, renVs, renSegs, renSg, renBlk, hcd, h1]⟩
  · simp only [absE, absL, absF, reduceCtorEq, ↓reduceIte, Nat.reduceEqDiff, Nat.reduceAdd, Nat.reduceLT, Nat.reduceMul, Nat.reduceSub, Nat.reduceLeDiff, Int.reduceLT, Int.reduceLE, Int.reduceEq, Option.isSome_some, implies_true, false_implies, Prod.mk.injEq, ne_eq, not_false_eq_true, not_true_eq_false, ge_iff_le, gt_iff_lt, Int.toNat_natCast, Int.reduceToNat, Int.cast_ofNat_Int, Int.natCast_nonneg]
    refine CallsVia.none (l01Loop_ok n' t' ht') ?_
    rintro _ _ _ ⟨rfl, rfl, rfl⟩
    cases h2 : loopB n' t'
    · simp only [absE, absL, absF, reduceCtorEq, ↓reduceIte, Nat.reduceEqDiff, Nat.reduceAdd, Nat.reduceLT, Nat.reduceMul, Nat.reduceSub, Nat.reduceLeDiff, Int.reduceLT, Int.reduceLE, Int.reduceEq, Option.isSome_some, implies_true, false_implies, Prod.mk.injEq, ne_eq, not_false_eq_true, not_true_eq_false, ge_iff_le, gt_iff_lt, Int.toNat_natCast, Int.reduceToNat, Int.cast_ofNat_Int, Int.natCast_nonneg, Try.results80]
      exact ⟨[], by simp, by simp, by simp [renV, renVs, renSegs, renSg, renBlk, hcd, h1, h2]⟩
    · obtain ⟨N, rfl, hs⟩ := loopB_nat h1
      obtain ⟨M, rfl, hs'⟩ := loopB_nat h2
      simp only [absE, absL, absF, reduceCtorEq, ↓reduceIte, Nat.reduceEqDiff, Nat.reduceAdd, Nat.reduceLT, Nat.reduceMul, Nat.reduceSub, Nat.reduceLeDiff, Int.reduceLT, Int.reduceLE, Int.reduceEq, Option.isSome_some, implies_true, false_implies, Prod.mk.injEq, ne_eq, not_false_eq_true, not_true_eq_false, ge_iff_le, gt_iff_lt, Int.toNat_natCast, Int.reduceToNat, Int.cast_ofNat_Int, Int.natCast_nonneg]
      refine CallsVia.args [(0, 0)] (l06Two_ok N M t t' xs k ht hs ht' hs' hx hk) (by simp) (by simp [Mem.get]) rfl rfl ?_
      rintro _ _ _ ⟨rfl, rfl, rfl⟩
      cases h3 : imgB N M xs k
      · simp only [absE, absL, absF, reduceCtorEq, ↓reduceIte, Nat.reduceEqDiff, Nat.reduceAdd, Nat.reduceLT, Nat.reduceMul, Nat.reduceSub, Nat.reduceLeDiff, Int.reduceLT, Int.reduceLE, Int.reduceEq, Option.isSome_some, implies_true, false_implies, Prod.mk.injEq, ne_eq, not_false_eq_true, not_true_eq_false, ge_iff_le, gt_iff_lt, Int.toNat_natCast, Int.reduceToNat, Int.cast_ofNat_Int, Int.natCast_nonneg, Try.results80]
        exact ⟨[], by simp, by simp, by simp [renV, renVs, renSegs, renSg, renBlk, hcd, h1, h2, h3]⟩
      · obtain ⟨hI, hkN⟩ := imgB_iff.1 h3
        simp only [absE, absL, absF, reduceCtorEq, ↓reduceIte, Nat.reduceEqDiff, Nat.reduceAdd, Nat.reduceLT, Nat.reduceMul, Nat.reduceSub, Nat.reduceLeDiff, Int.reduceLT, Int.reduceLE, Int.reduceEq, Option.isSome_some, implies_true, false_implies, Prod.mk.injEq, ne_eq, not_false_eq_true, not_true_eq_false, ge_iff_le, gt_iff_lt, Int.toNat_natCast, Int.reduceToNat, Int.cast_ofNat_Int, Int.natCast_nonneg]
        refine CallsVia.args [(0, 0)] (l06Is_ok N M t t' xs k ht hs ht' hs' hkN hx hI) (by simp) (by simp [Mem.get]) rfl rfl ?_
        rintro _ _ _ ⟨rfl, rfl, rfl⟩
        cases h4 : pairsB N (hm t t' xs)
        · simp only [absE, absL, absF, reduceCtorEq, ↓reduceIte, Nat.reduceEqDiff, Nat.reduceAdd, Nat.reduceLT, Nat.reduceMul, Nat.reduceSub, Nat.reduceLeDiff, Int.reduceLT, Int.reduceLE, Int.reduceEq, Option.isSome_some, implies_true, false_implies, Prod.mk.injEq, ne_eq, not_false_eq_true, not_true_eq_false, ge_iff_le, gt_iff_lt, Int.toNat_natCast, Int.reduceToNat, Int.cast_ofNat_Int, Int.natCast_nonneg, Try.results80]
          exact ⟨[], by simp, by simp, by simp [renV, renVs, renSegs, renSg, renBlk, hcd, h1, h2, h3, h4]⟩
        · simp only [absE, absL, absF, reduceCtorEq, ↓reduceIte, Nat.reduceEqDiff, Nat.reduceAdd, Nat.reduceLT, Nat.reduceMul, Nat.reduceSub, Nat.reduceLeDiff, Int.reduceLT, Int.reduceLE, Int.reduceEq, Option.isSome_some, implies_true, false_implies, Prod.mk.injEq, ne_eq, not_false_eq_true, not_true_eq_false, ge_iff_le, gt_iff_lt, Int.toNat_natCast, Int.reduceToNat, Int.cast_ofNat_Int, Int.natCast_nonneg, Try.results80]
          exact ⟨[], by simp, by simp, by simp [renV, renVs, renSegs, renSg, renBlk, hcd, h1, h2, h3, h4]⟩

end Go.Proofs.Ytnophcdinideaaa
