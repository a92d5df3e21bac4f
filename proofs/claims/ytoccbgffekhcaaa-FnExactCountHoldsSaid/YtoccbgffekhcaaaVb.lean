/-
Contracts of functions of the given program, by the abstract walk.
-/
import Derived.Test.YtoccbgffekhcaaaAbsY
import Derived.Test.YtoccbgffekhcaaaVa
namespace Go.Proofs.Ytoccbgffekhcaaa
open Go Go.Abs
set_option linter.unusedVariables false
set_option linter.unusedSectionVars false
set_option linter.unusedSimpArgs false
set_option maxRecDepth 100000
/-! CountHolds -/
theorem implCount_no (n : Int) (t xs ys : List Int) (k l : Nat) (ht : Bytes 100 t) (hk : k ≤ 2 ^ 20) (hl : l ≤ 2 ^ 20) (h : askB n t xs ys k l = false) :
    ACalls Try.prog 44 [.agg (sqS n t), idV 0 1 k l] [bk k xs, bk l ys] (fun v ms ns => v = .tup [.i .i64 0, .i .i64 1] ∧ ms = [bk k xs, bk l ys] ∧ ns = []) := by
  have hb := isAsked_ok n t xs ys k l ht hk hl
  rw [h] at hb
  unfold idV bk at hb ⊢
  refine acalls_of_body mix Try.func44 rfl fok44 (Nat.le_of_ble_eq_true rfl) ?_
  unfold abody
  simp only [absE, absL, absF, reduceCtorEq, ↓reduceIte, Nat.reduceEqDiff, Nat.reduceAdd, Nat.reduceLT, Nat.reduceMul, Nat.reduceSub, Nat.reduceLeDiff, Int.reduceLT, Int.reduceLE, Int.reduceEq, Option.isSome_some, implies_true, false_implies, Prod.mk.injEq, ne_eq, not_false_eq_true, not_true_eq_false, ge_iff_le, gt_iff_lt, Int.toNat_natCast, Int.reduceToNat, Int.cast_ofNat_Int, Int.natCast_nonneg, Try.f44]
  refine CallsVia.args [(0, 0), (0, 1)] hb (by simp) (by simp [Mem.get]) rfl rfl ?_
  rintro _ _ _ ⟨rfl, rfl, rfl⟩
  simp only [absE, absL, absF, reduceCtorEq, ↓reduceIte, Nat.reduceEqDiff, Nat.reduceAdd, Nat.reduceLT, Nat.reduceMul, Nat.reduceSub, Nat.reduceLeDiff, Int.reduceLT, Int.reduceLE, Int.reduceEq, Option.isSome_some, implies_true, false_implies, Prod.mk.injEq, ne_eq, not_false_eq_true, not_true_eq_false, ge_iff_le, gt_iff_lt, Int.toNat_natCast, Int.reduceToNat, Int.cast_ofNat_Int, Int.natCast_nonneg, Try.results44]
  exact ⟨[], by simp, by simp, by simp [renV, renVs, renBlk, renSegs, renSg]⟩
theorem askB_iff {n : Int} {t xs ys : List Int} {k l : Nat} : askB n t xs ys k l = true ↔ sqB n t = true ∧ bothB xs k ys l = true := by unfold askB; rw [Bool.and_eq_true]
theorem implCount_yes (N : Nat) (t xs ys : List Int) (k l : Nat) (ht : Bytes 100 t) (hk : k ≤ 2 ^ 20) (hl : l ≤ 2 ^ 20) (h : askB N t xs ys k l = true) :
    ACalls Try.prog 44 [.agg (sqS N t), idV 0 1 k l] [bk k xs, bk l ys] (fun v ms ns => v = .tup [.i .i64 (foX (cntG N t xs ys k l) N 0 N : Nat), .i .i64 0] ∧ ms = [bk k xs, bk l ys] ∧ ns = []) := by
  obtain ⟨h1, hB⟩ := askB_iff.1 h
  have hs := sqB_iff.1 h1
  have hb := isAsked_ok N t xs ys k l ht hk hl
  rw [h] at hb
  unfold idV bk at hb ⊢
  refine acalls_of_body mix Try.func44 rfl fok44 (Nat.le_of_ble_eq_true rfl) ?_
  unfold abody
  simp only [absE, absL, absF, reduceCtorEq, ↓reduceIte, Nat.reduceEqDiff, Nat.reduceAdd, Nat.reduceLT, Nat.reduceMul, Nat.reduceSub, Nat.reduceLeDiff, Int.reduceLT, Int.reduceLE, Int.reduceEq, Option.isSome_some, implies_true, false_implies, Prod.mk.injEq, ne_eq, not_false_eq_true, not_true_eq_false, ge_iff_le, gt_iff_lt, Int.toNat_natCast, Int.reduceToNat, Int.cast_ofNat_Int, Int.natCast_nonneg, Try.f44]
  refine CallsVia.args [(0, 0), (0, 1)] hb (by simp) (by simp [Mem.get]) rfl rfl ?_
  rintro _ _ _ ⟨rfl, rfl, rfl⟩
  simp only [absE, absL, absF, reduceCtorEq, ↓reduceIte, Nat.reduceEqDiff, Nat.reduceAdd, Nat.reduceLT, Nat.reduceMul, Nat.reduceSub, Nat.reduceLeDiff, Int.reduceLT, Int.reduceLE, Int.reduceEq, Option.isSome_some, implies_true, false_implies, Prod.mk.injEq, ne_eq, not_false_eq_true, not_true_eq_false, ge_iff_le, gt_iff_lt, Int.toNat_natCast, Int.reduceToNat, Int.cast_ofNat_Int, Int.natCast_nonneg]
  refine CallsVia.none (newValues_ok N t ht hs) ?_
  rintro _ _ _ ⟨V, hV, rfl, rfl, rfl⟩
  simp only [absE, absL, absF, reduceCtorEq, ↓reduceIte, Nat.reduceEqDiff, Nat.reduceAdd, Nat.reduceLT, Nat.reduceMul, Nat.reduceSub, Nat.reduceLeDiff, Int.reduceLT, Int.reduceLE, Int.reduceEq, Option.isSome_some, implies_true, false_implies, Prod.mk.injEq, ne_eq, not_false_eq_true, not_true_eq_false, ge_iff_le, gt_iff_lt, Int.toNat_natCast, Int.reduceToNat, Int.cast_ofNat_Int, Int.natCast_nonneg]
  have hp := placesH_ok N t V xs ys k l 95 (cntG N t xs ys k l) (fun _ _ _ => true) (fun c => [(0, .ints .i64 1 [(c : Int)])]) hs (fun c σ => rfl) cntG_le (fun x y z c hc hx hy hz => count1_ok N t V x y z c xs ys k l hs hV hx hy hz hB hc)
  unfold hMs bk at hp
  refine CallsVia.args [(12, 0), (10, 0), (2, 0), (0, 0), (0, 1), (11, 0)] hp (by simp) (by simp [Mem.get, assoc]) rfl rfl ?_
  rintro _ _ _ (⟨rfl, rfl, rfl, _⟩ | ⟨x, y, z, _, _, _, h0, _⟩)
  · simp only [absE, absL, absF, reduceCtorEq, ↓reduceIte, Nat.reduceEqDiff, Nat.reduceAdd, Nat.reduceLT, Nat.reduceMul, Nat.reduceSub, Nat.reduceLeDiff, Int.reduceLT, Int.reduceLE, Int.reduceEq, Option.isSome_some, implies_true, false_implies, Prod.mk.injEq, ne_eq, not_false_eq_true, not_true_eq_false, ge_iff_le, gt_iff_lt, Int.toNat_natCast, Int.reduceToNat, Int.cast_ofNat_Int, Int.natCast_nonneg, Try.results44]
    exact ⟨[], by simp, by simp, by simp [renV, renVs, renBlk, renSegs, renSg]⟩
  · cases h0
theorem specCount_no (n : Int) (t xs ys : List Int) (k l : Nat) (ht : Bytes 100 t) (hk : k ≤ 2 ^ 20) (hl : l ≤ 2 ^ 20) (h : askB n t xs ys k l = false) :
    ACalls Try.prog 42 [.agg (sqS n t), idV 0 1 k l] [bk k xs, bk l ys] (fun v ms ns => v = .tup [.i .i64 0, .i .i64 1] ∧ ms = [bk k xs, bk l ys] ∧ ns = []) := by
  have hb := l03Code_ok n t xs ys k l ht hk hl
  rw [h] at hb
  unfold idV bk at hb ⊢
  refine acalls_of_body mix Try.func42 rfl fok42 (Nat.le_of_ble_eq_true rfl) ?_
  unfold abody
  simp only [absE, absL, absF, reduceCtorEq, ↓reduceIte, Nat.reduceEqDiff, Nat.reduceAdd, Nat.reduceLT, Nat.reduceMul, Nat.reduceSub, Nat.reduceLeDiff, Int.reduceLT, Int.reduceLE, Int.reduceEq, Option.isSome_some, implies_true, false_implies, Prod.mk.injEq, ne_eq, not_false_eq_true, not_true_eq_false, ge_iff_le, gt_iff_lt, Int.toNat_natCast, Int.reduceToNat, Int.cast_ofNat_Int, Int.natCast_nonneg, Try.f42]
  refine CallsVia.args [(0, 0), (0, 1)] hb (by simp) (by simp [Mem.get]) rfl rfl ?_
  rintro _ _ _ ⟨rfl, rfl, rfl⟩
  simp only [absE, absL, absF, reduceCtorEq, ↓reduceIte, Nat.reduceEqDiff, Nat.reduceAdd, Nat.reduceLT, Nat.reduceMul, Nat.reduceSub, Nat.reduceLeDiff, Int.reduceLT, Int.reduceLE, Int.reduceEq, Option.isSome_some, implies_true, false_implies, Prod.mk.injEq, ne_eq, not_false_eq_true, not_true_eq_false, ge_iff_le, gt_iff_lt, Int.toNat_natCast, Int.reduceToNat, Int.cast_ofNat_Int, Int.natCast_nonneg, if_false, Bool.false_eq_true, Try.results42]
  exact ⟨[], by simp, by simp, by simp [renV, renVs, renBlk, renSegs, renSg]⟩
theorem specCount_yes (N : Nat) (t xs ys : List Int) (k l : Nat) (ht : Bytes 100 t) (hk : k ≤ 2 ^ 20) (hl : l ≤ 2 ^ 20) (h : askB N t xs ys k l = true) :
    ACalls Try.prog 42 [.agg (sqS N t), idV 0 1 k l] [bk k xs, bk l ys] (fun v ms ns => v = .tup [.i .i64 (foX (cntG N t xs ys k l) N 0 N : Nat), .i .i64 0] ∧ ms = [bk k xs, bk l ys] ∧ ns = []) := by
  obtain ⟨h1, hB⟩ := askB_iff.1 h
  have hs := sqB_iff.1 h1
  have hN := hs.le
  have hBB := hB
  unfold bothB at hBB
  simp only [Bool.and_eq_true] at hBB
  have hb := l03Code_ok N t xs ys k l ht hk hl
  rw [h] at hb
  have w8 := wrap_u8n (show N < 256 by omega)
  have hNN : N * N ≤ 100 := Nat.le_trans (Nat.mul_le_mul hN hN) (by decide)
  unfold idV bk at hb ⊢
  refine acalls_of_body mix Try.func42 rfl fok42 (Nat.le_of_ble_eq_true rfl) ?_
  unfold abody
  simp only [absE, absL, absF, reduceCtorEq, ↓reduceIte, Nat.reduceEqDiff, Nat.reduceAdd, Nat.reduceLT, Nat.reduceMul, Nat.reduceSub, Nat.reduceLeDiff, Int.reduceLT, Int.reduceLE, Int.reduceEq, Option.isSome_some, implies_true, false_implies, Prod.mk.injEq, ne_eq, not_false_eq_true, not_true_eq_false, ge_iff_le, gt_iff_lt, Int.toNat_natCast, Int.reduceToNat, Int.cast_ofNat_Int, Int.natCast_nonneg, Try.f42]
  refine CallsVia.args [(0, 0), (0, 1)] hb (by simp) (by simp [Mem.get]) rfl rfl ?_
  rintro _ _ _ ⟨rfl, rfl, rfl⟩
  simp only [absE, absL, absF, reduceCtorEq, ↓reduceIte, Nat.reduceEqDiff, Nat.reduceAdd, Nat.reduceLT, Nat.reduceMul, Nat.reduceSub, Nat.reduceLeDiff, Int.reduceLT, Int.reduceLE, Int.reduceEq, Option.isSome_some, implies_true, false_implies, Prod.mk.injEq, ne_eq, not_false_eq_true, not_true_eq_false, ge_iff_le, gt_iff_lt, Int.toNat_natCast, Int.reduceToNat, Int.cast_ofNat_Int, Int.natCast_nonneg, if_true, w8]
  repeat first | refine And.intro (by decide +kernel) ?_ | refine And.intro (by omega) ?_
  refine awpLoop.intro (fun x : Nat => [(2, .ref (.ptr 1 0 0 0)), (3, .ref (.ptr 2 0 0 0)), (7, .i .i64 ((foX (cntG N t xs ys k l) N 0 x : Nat) : Int)), (8, .i .u8 N), (9, .i .u8 x)]) (fun x => ⟨[.lv true [(0, .ints .u8 k xs)], .lv true [(0, .ints .u8 l ys)]], [((1, 0), .lv true (sqS N t)), ((2, 0), .lv true ([(0, .cells 1 [.sl 0 0 0 0 k 1]), (1, .cells 1 [.sl 0 1 0 0 l 1])]))], 100⟩)
    (fun x => x ≤ N) (fun x => N - x) 0 (by omega) ⟨[((1,0),(1,0)), ((2,0),(2,0))], rfl, ?_, ?_⟩ ?_
  · simp [wkEnv, lk, renV, renAt, renTo, foX]
  · simp [wkMem, wkLoc, Mem.get, assoc, renBlk, renSegs, renSg, renAt, renTo]
  · intro x hx
    have hXl := foX_le (g := cntG N t xs ys k l) cntG_le (N := N) (c := 0) (n := x)
    have hXl2 : x * (N * N) ≤ 1000 := Nat.le_trans (Nat.mul_le_mul (show x ≤ 10 by omega) hNN) (by decide)
    by_cases h : (x : Int) < N
    · have w := wrap_u8s (show x < 255 by omega)
      simp only [absE, absL, absF, reduceCtorEq, ↓reduceIte, Nat.reduceEqDiff, Nat.reduceAdd, Nat.reduceLT, Nat.reduceMul, Nat.reduceSub, Nat.reduceLeDiff, Int.reduceLT, Int.reduceLE, Int.reduceEq, Option.isSome_some, implies_true, false_implies, Prod.mk.injEq, ne_eq, not_false_eq_true, not_true_eq_false, ge_iff_le, gt_iff_lt, Int.toNat_natCast, Int.reduceToNat, Int.cast_ofNat_Int, Int.natCast_nonneg, h]
      have hXs : foX (cntG N t xs ys k l) N 0 (x + 1) = foY (cntG N t xs ys k l) x N (foX (cntG N t xs ys k l) N 0 x) N := rfl
      generalize foX (cntG N t xs ys k l) N 0 x = sx at hXl hXs ⊢
      refine awpLoop.intro (fun y : Nat => [(2, .ref (.ptr 1 0 0 0)), (3, .ref (.ptr 2 0 0 0)), (7, .i .i64 ((foY (cntG N t xs ys k l) x N sx y : Nat) : Int)), (8, .i .u8 N), (9, .i .u8 x), (10, .i .u8 y)]) (fun y => ⟨[.lv true [(0, .ints .u8 k xs)], .lv true [(0, .ints .u8 l ys)]], [((1, 0), .lv true (sqS N t)), ((2, 0), .lv true ([(0, .cells 1 [.sl 0 0 0 0 k 1]), (1, .cells 1 [.sl 0 1 0 0 l 1])]))], 200⟩)
        (fun y => y ≤ N) (fun y => N - y) 0 (by omega) ⟨[((1,0),(1,0)), ((2,0),(2,0))], rfl, ?_, ?_⟩ ?_
      · simp [wkEnv, lk, renV, renAt, renTo, foY]
      · simp [wkMem, wkLoc, Mem.get, assoc, renBlk, renSegs, renSg, renAt, renTo]
      · intro y hy
        have hYl := foY_le (g := cntG N t xs ys k l) cntG_le (x := x) (N := N) (c := sx) (n := y)
        have hYl2 : y * N ≤ 100 := Nat.le_trans (Nat.mul_le_mul (show y ≤ 10 by omega) hN) (by decide)
        by_cases h' : (y : Int) < N
        · have w' := wrap_u8s (show y < 255 by omega)
          simp only [absE, absL, absF, reduceCtorEq, ↓reduceIte, Nat.reduceEqDiff, Nat.reduceAdd, Nat.reduceLT, Nat.reduceMul, Nat.reduceSub, Nat.reduceLeDiff, Int.reduceLT, Int.reduceLE, Int.reduceEq, Option.isSome_some, implies_true, false_implies, Prod.mk.injEq, ne_eq, not_false_eq_true, not_true_eq_false, ge_iff_le, gt_iff_lt, Int.toNat_natCast, Int.reduceToNat, Int.cast_ofNat_Int, Int.natCast_nonneg, h']
          have hYs : foY (cntG N t xs ys k l) x N sx (y + 1) = foZ (cntG N t xs ys k l) x y (foY (cntG N t xs ys k l) x N sx y) N := rfl
          generalize foY (cntG N t xs ys k l) x N sx y = sy at hYl hYs ⊢
          refine awpLoop.intro (fun z : Nat => [(2, .ref (.ptr 1 0 0 0)), (3, .ref (.ptr 2 0 0 0)), (7, .i .i64 ((foZ (cntG N t xs ys k l) x y sy z : Nat) : Int)), (8, .i .u8 N), (9, .i .u8 x), (10, .i .u8 y), (11, .i .u8 z)]) (fun z => ⟨[.lv true [(0, .ints .u8 k xs)], .lv true [(0, .ints .u8 l ys)]], [((1, 0), .lv true (sqS N t)), ((2, 0), .lv true ([(0, .cells 1 [.sl 0 0 0 0 k 1]), (1, .cells 1 [.sl 0 1 0 0 l 1])]))], 300⟩)
            (fun z => z ≤ N) (fun z => N - z) 0 (by omega) ⟨[((1,0),(1,0)), ((2,0),(2,0))], rfl, ?_, ?_⟩ ?_
          · simp [wkEnv, lk, renV, renAt, renTo, foZ]
          · simp [wkMem, wkLoc, Mem.get, assoc, renBlk, renSegs, renSg, renAt, renTo]
          · intro z hz
            have hZl := foZ_le (g := cntG N t xs ys k l) cntG_le (x := x) (y := y) (c := sy) (n := z)
            by_cases h3 : (z : Int) < N
            · have w3 := wrap_u8s (show z < 255 by omega)
              have he := trmV_eq (N := N) (t := t) (xs := xs) (ys := ys) (k := k) (l := l) (x := x) (y := y) (z := z)
              have hZs : foZ (cntG N t xs ys k l) x y sy (z + 1) = if eqT N t xs ys k l x y z then foZ (cntG N t xs ys k l) x y sy z + 1 else foZ (cntG N t xs ys k l) x y sy z := rfl
              generalize foZ (cntG N t xs ys k l) x y sy z = sz at hZl hZs ⊢
              have wc := wrap_i64s (show sz < 2 ^ 62 by omega)
              simp only [absE, absL, absF, reduceCtorEq, ↓reduceIte, Nat.reduceEqDiff, Nat.reduceAdd, Nat.reduceLT, Nat.reduceMul, Nat.reduceSub, Nat.reduceLeDiff, Int.reduceLT, Int.reduceLE, Int.reduceEq, Option.isSome_some, implies_true, false_implies, Prod.mk.injEq, ne_eq, not_false_eq_true, not_true_eq_false, ge_iff_le, gt_iff_lt, Int.toNat_natCast, Int.reduceToNat, Int.cast_ofNat_Int, Int.natCast_nonneg, h3]
              repeat first | refine And.intro (by decide +kernel) ?_ | refine And.intro (by omega) ?_
              refine CallsX.args [(0, 0)] (l03Value_ok N t x y z xs k ht hs (by omega) (by omega) (by omega) hBB.1) (by simp) (by simp [Mem.get]) rfl rfl ?_
              simp only [absE, absL, absF, reduceCtorEq, ↓reduceIte, Nat.reduceEqDiff, Nat.reduceAdd, Nat.reduceLT, Nat.reduceMul, Nat.reduceSub, Nat.reduceLeDiff, Int.reduceLT, Int.reduceLE, Int.reduceEq, Option.isSome_some, implies_true, false_implies, Prod.mk.injEq, ne_eq, not_false_eq_true, not_true_eq_false, ge_iff_le, gt_iff_lt, Int.toNat_natCast, Int.reduceToNat, Int.cast_ofNat_Int, Int.natCast_nonneg]
              repeat first | refine And.intro (by decide +kernel) ?_ | refine And.intro (by omega) ?_
              refine CallsX.args [(0, 1)] (l03Value_ok N t x y z ys l ht hs (by omega) (by omega) (by omega) hBB.2) (by simp) (by simp [Mem.get]) rfl rfl ?_
              simp only [absE, absL, absF, reduceCtorEq, ↓reduceIte, Nat.reduceEqDiff, Nat.reduceAdd, Nat.reduceLT, Nat.reduceMul, Nat.reduceSub, Nat.reduceLeDiff, Int.reduceLT, Int.reduceLE, Int.reduceEq, Option.isSome_some, implies_true, false_implies, Prod.mk.injEq, ne_eq, not_false_eq_true, not_true_eq_false, ge_iff_le, gt_iff_lt, Int.toNat_natCast, Int.reduceToNat, Int.cast_ofNat_Int, Int.natCast_nonneg]
              repeat first | refine And.intro (by decide +kernel) ?_ | refine And.intro (by omega) ?_
              simp only [absE, absL, absF, reduceCtorEq, ↓reduceIte, Nat.reduceEqDiff, Nat.reduceAdd, Nat.reduceLT, Nat.reduceMul, Nat.reduceSub, Nat.reduceLeDiff, Int.reduceLT, Int.reduceLE, Int.reduceEq, Option.isSome_some, implies_true, false_implies, Prod.mk.injEq, ne_eq, not_false_eq_true, not_true_eq_false, ge_iff_le, gt_iff_lt, Int.toNat_natCast, Int.reduceToNat, Int.cast_ofNat_Int, Int.natCast_nonneg, he]
              cases h5 : eqT N t xs ys k l x y z
              · rw [h5, if_neg (by simp)] at hZs
                simp only [absE, absL, absF, reduceCtorEq, ↓reduceIte, Nat.reduceEqDiff, Nat.reduceAdd, Nat.reduceLT, Nat.reduceMul, Nat.reduceSub, Nat.reduceLeDiff, Int.reduceLT, Int.reduceLE, Int.reduceEq, Option.isSome_some, implies_true, false_implies, Prod.mk.injEq, ne_eq, not_false_eq_true, not_true_eq_false, ge_iff_le, gt_iff_lt, Int.toNat_natCast, Int.reduceToNat, Int.cast_ofNat_Int, Int.natCast_nonneg]
                refine LoopNext.intro (z + 1) (by omega) (by omega) ⟨[((1,0),(1,0)), ((2,0),(2,0))], rfl, ?_, ?_⟩
                · simp [wkEnv, lk, renV, renAt, renTo, w3, hZs]
                · simp [wkMem, wkLoc, Mem.get, assoc, renBlk, renSegs, renSg, renAt, renTo]
              · rw [h5, if_pos rfl] at hZs
                simp only [absE, absL, absF, reduceCtorEq, ↓reduceIte, Nat.reduceEqDiff, Nat.reduceAdd, Nat.reduceLT, Nat.reduceMul, Nat.reduceSub, Nat.reduceLeDiff, Int.reduceLT, Int.reduceLE, Int.reduceEq, Option.isSome_some, implies_true, false_implies, Prod.mk.injEq, ne_eq, not_false_eq_true, not_true_eq_false, ge_iff_le, gt_iff_lt, Int.toNat_natCast, Int.reduceToNat, Int.cast_ofNat_Int, Int.natCast_nonneg, wc]
                refine LoopNext.intro (z + 1) (by omega) (by omega) ⟨[((1,0),(1,0)), ((2,0),(2,0))], rfl, ?_, ?_⟩
                · simp [wkEnv, lk, renV, renAt, renTo, w3, hZs]
                · simp [wkMem, wkLoc, Mem.get, assoc, renBlk, renSegs, renSg, renAt, renTo]
            · have hzN : z = N := by omega
              subst hzN
              simp only [absE, absL, absF, reduceCtorEq, ↓reduceIte, Nat.reduceEqDiff, Nat.reduceAdd, Nat.reduceLT, Nat.reduceMul, Nat.reduceSub, Nat.reduceLeDiff, Int.reduceLT, Int.reduceLE, Int.reduceEq, Option.isSome_some, implies_true, false_implies, Prod.mk.injEq, ne_eq, not_false_eq_true, not_true_eq_false, ge_iff_le, gt_iff_lt, Int.toNat_natCast, Int.reduceToNat, Int.cast_ofNat_Int, Int.natCast_nonneg, h3, w']
              refine LoopNext.intro (y + 1) (by omega) (by omega) ⟨[((1,0),(1,0)), ((2,0),(2,0))], rfl, ?_, ?_⟩
              · simp [wkEnv, lk, renV, renAt, renTo, hYs]
              · simp [wkMem, wkLoc, Mem.get, assoc, renBlk, renSegs, renSg, renAt, renTo]
        · have hyN : y = N := by omega
          subst hyN
          simp only [absE, absL, absF, reduceCtorEq, ↓reduceIte, Nat.reduceEqDiff, Nat.reduceAdd, Nat.reduceLT, Nat.reduceMul, Nat.reduceSub, Nat.reduceLeDiff, Int.reduceLT, Int.reduceLE, Int.reduceEq, Option.isSome_some, implies_true, false_implies, Prod.mk.injEq, ne_eq, not_false_eq_true, not_true_eq_false, ge_iff_le, gt_iff_lt, Int.toNat_natCast, Int.reduceToNat, Int.cast_ofNat_Int, Int.natCast_nonneg, h', w]
          refine LoopNext.intro (x + 1) (by omega) (by omega) ⟨[((1,0),(1,0)), ((2,0),(2,0))], rfl, ?_, ?_⟩
          · simp [wkEnv, lk, renV, renAt, renTo, hXs]
          · simp [wkMem, wkLoc, Mem.get, assoc, renBlk, renSegs, renSg, renAt, renTo]
    · have hxN : x = N := by omega
      subst hxN
      simp only [absE, absL, absF, reduceCtorEq, ↓reduceIte, Nat.reduceEqDiff, Nat.reduceAdd, Nat.reduceLT, Nat.reduceMul, Nat.reduceSub, Nat.reduceLeDiff, Int.reduceLT, Int.reduceLE, Int.reduceEq, Option.isSome_some, implies_true, false_implies, Prod.mk.injEq, ne_eq, not_false_eq_true, not_true_eq_false, ge_iff_le, gt_iff_lt, Int.toNat_natCast, Int.reduceToNat, Int.cast_ofNat_Int, Int.natCast_nonneg, h, Try.results42]
      exact ⟨[], by simp, by simp, by simp [renV, renVs, renBlk, renSegs, renSg, renAt, renFin]⟩

end Go.Proofs.Ytoccbgffekhcaaa
