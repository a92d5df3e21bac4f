/-
Contracts of functions of the given program, by the abstract walk.
-/
import Derived.Test.YtoccbgffekhcaaaAbsY
import Derived.Test.YtoccbgffekhcaaaPb
import Derived.Test.YtoccbgffekhcaaaDf
namespace Go.Proofs.Ytoccbgffekhcaaa
open Go Go.Abs
set_option linter.unusedVariables false
set_option linter.unusedSectionVars false
set_option linter.unusedSimpArgs false
set_option maxRecDepth 100000
noncomputable def tvAV (n : Int) (t : List Int) (xs : List Int) (k a b c : Nat) : AV :=
  if sqB n t then (if trmB xs k then (if (a : Int) < n ∧ (b : Int) < n ∧ (c : Int) < n then .tup [.i .u8 (trmV n.toNat t a b c xs k), .i .i64 0] else .tup [.i .u8 0, .i .i64 2]) else .tup [.i .u8 0, .i .i64 1]) else .tup [.i .u8 0, .i .i64 1]
theorem tv_form (n : Int) (t : List Int) (xs : List Int) (k a b c : Nat) (ht : Bytes 100 t) (ha : a < 256) (hb : b < 256) (hc : c < 256) : ∃ s e, tvAV n t xs k a b c = .tup [.i .u8 s, .i .i64 e] := by
  unfold tvAV; split
  · split
    · split <;> exact ⟨_, _, rfl⟩
    · exact ⟨_, _, rfl⟩
  · exact ⟨_, _, rfl⟩
theorem bytes_three {x y z : Nat} (h : x < 256) (h' : y < 256) (h'' : z < 256) : Bytes 3 [(x : Int), (y : Int), (z : Int)] := bytes_cons h (bytes_cons h' (bytes_one h''))
theorem implTv_ok (n : Int) (t : List Int) (xs : List Int) (k a b c : Nat) (ht : Bytes 100 t) (ha : a < 256) (hb : b < 256) (hc : c < 256) (hx : xs.length = k) (hk : k ≤ 2 ^ 20) :
    ACalls Try.prog 39 [.agg (sqS n t), .ref (.sl 0 0 0 0 k 1), .i .u8 a, .i .u8 b, .i .u8 c] [.lv true [(0, .ints .u8 k xs)]] (fun v ms ns => v = tvAV n t xs k a b c ∧ ms = [.lv true [(0, .ints .u8 k xs)]] ∧ ns = []) := by
  unfold tvAV
  refine acalls_of_body mix Try.func39 rfl fok39 (Nat.le_of_ble_eq_true rfl) ?_
  unfold abody
  simp only [absE, absL, absF, reduceCtorEq, ↓reduceIte, Nat.reduceEqDiff, Nat.reduceAdd, Nat.reduceLT, Nat.reduceMul, Nat.reduceSub, Nat.reduceLeDiff, Int.reduceLT, Int.reduceLE, Int.reduceEq, Option.isSome_some, implies_true, false_implies, Prod.mk.injEq, ne_eq, not_false_eq_true, not_true_eq_false, ge_iff_le, gt_iff_lt, Int.toNat_natCast, Int.reduceToNat, Int.cast_ofNat_Int, Int.natCast_nonneg, Try.f39]
  refine CallsVia.none (isSquare_ok n t ht) ?_
  rintro _ _ _ ⟨rfl, rfl, rfl⟩
  cases h1 : sqB n t
  · simp only [absE, absL, absF, reduceCtorEq, ↓reduceIte, Nat.reduceEqDiff, Nat.reduceAdd, Nat.reduceLT, Nat.reduceMul, Nat.reduceSub, Nat.reduceLeDiff, Int.reduceLT, Int.reduceLE, Int.reduceEq, Option.isSome_some, implies_true, false_implies, Prod.mk.injEq, ne_eq, not_false_eq_true, not_true_eq_false, ge_iff_le, gt_iff_lt, Int.toNat_natCast, Int.reduceToNat, Int.cast_ofNat_Int, Int.natCast_nonneg, Try.results39]
    exact ⟨[], by simp, by simp, by simp [renV, renVs, renBlk, renSegs, renSg]⟩
  · have hs := sqB_iff.1 h1
    obtain ⟨N, rfl⟩ : ∃ N : Nat, n = N := ⟨n.toNat, by have := hs.1; omega⟩
    simp only [absE, absL, absF, reduceCtorEq, ↓reduceIte, Nat.reduceEqDiff, Nat.reduceAdd, Nat.reduceLT, Nat.reduceMul, Nat.reduceSub, Nat.reduceLeDiff, Int.reduceLT, Int.reduceLE, Int.reduceEq, Option.isSome_some, implies_true, false_implies, Prod.mk.injEq, ne_eq, not_false_eq_true, not_true_eq_false, ge_iff_le, gt_iff_lt, Int.toNat_natCast, Int.reduceToNat, Int.cast_ofNat_Int, Int.natCast_nonneg]
    refine CallsVia.args [(0, 0)] (isTerm_ok xs k hk) (by simp) (by simp [Mem.get]) rfl rfl ?_
    rintro _ _ _ ⟨rfl, rfl, rfl⟩
    cases h2 : trmB xs k
    · simp only [absE, absL, absF, reduceCtorEq, ↓reduceIte, Nat.reduceEqDiff, Nat.reduceAdd, Nat.reduceLT, Nat.reduceMul, Nat.reduceSub, Nat.reduceLeDiff, Int.reduceLT, Int.reduceLE, Int.reduceEq, Option.isSome_some, implies_true, false_implies, Prod.mk.injEq, ne_eq, not_false_eq_true, not_true_eq_false, ge_iff_le, gt_iff_lt, Int.toNat_natCast, Int.reduceToNat, Int.cast_ofNat_Int, Int.natCast_nonneg, Try.results39]
      exact ⟨[], by simp, by simp, by simp [renV, renVs, renBlk, renSegs, renSg]⟩
    · simp only [absE, absL, absF, reduceCtorEq, ↓reduceIte, Nat.reduceEqDiff, Nat.reduceAdd, Nat.reduceLT, Nat.reduceMul, Nat.reduceSub, Nat.reduceLeDiff, Int.reduceLT, Int.reduceLE, Int.reduceEq, Option.isSome_some, implies_true, false_implies, Prod.mk.injEq, ne_eq, not_false_eq_true, not_true_eq_false, ge_iff_le, gt_iff_lt, Int.toNat_natCast, Int.reduceToNat, Int.cast_ofNat_Int, Int.natCast_nonneg]
      refine CallsVia.args [(17, 0)] (has_ok N t [(a : Int), (b : Int), (c : Int)] 3 (bytes_three ha hb hc) (by omega)) (by simp) (by simp [Mem.get, assoc]) rfl rfl ?_
      rintro _ _ _ ⟨rfl, rfl, rfl⟩
      rw [hasB_three]
      by_cases h3 : (a : Int) < N ∧ (b : Int) < N ∧ (c : Int) < N
      · obtain ⟨x1, x2, x3⟩ := h3
        simp only [absE, absL, absF, reduceCtorEq, ↓reduceIte, Nat.reduceEqDiff, Nat.reduceAdd, Nat.reduceLT, Nat.reduceMul, Nat.reduceSub, Nat.reduceLeDiff, Int.reduceLT, Int.reduceLE, Int.reduceEq, Option.isSome_some, implies_true, false_implies, Prod.mk.injEq, ne_eq, not_false_eq_true, not_true_eq_false, ge_iff_le, gt_iff_lt, Int.toNat_natCast, Int.reduceToNat, Int.cast_ofNat_Int, Int.natCast_nonneg, x1, x2, x3, decide_true, Bool.and_self]
        refine CallsVia.none (newValues_ok N t ht hs) ?_
        rintro _ _ _ ⟨V, hV, rfl, rfl, rfl⟩
        simp only [absE, absL, absF, reduceCtorEq, ↓reduceIte, Nat.reduceEqDiff, Nat.reduceAdd, Nat.reduceLT, Nat.reduceMul, Nat.reduceSub, Nat.reduceLeDiff, Int.reduceLT, Int.reduceLE, Int.reduceEq, Option.isSome_some, implies_true, false_implies, Prod.mk.injEq, ne_eq, not_false_eq_true, not_true_eq_false, ge_iff_le, gt_iff_lt, Int.toNat_natCast, Int.reduceToNat, Int.cast_ofNat_Int, Int.natCast_nonneg]
        refine CallsVia.args [(22, 0), (0, 0)] (of_ok N t V a b c xs k hs hV (by omega) (by omega) (by omega) h2) (by simp) (by simp [Mem.get, assoc]) rfl rfl ?_
        rintro _ _ _ ⟨rfl, rfl, rfl⟩
        simp only [absE, absL, absF, reduceCtorEq, ↓reduceIte, Nat.reduceEqDiff, Nat.reduceAdd, Nat.reduceLT, Nat.reduceMul, Nat.reduceSub, Nat.reduceLeDiff, Int.reduceLT, Int.reduceLE, Int.reduceEq, Option.isSome_some, implies_true, false_implies, Prod.mk.injEq, ne_eq, not_false_eq_true, not_true_eq_false, ge_iff_le, gt_iff_lt, Int.toNat_natCast, Int.reduceToNat, Int.cast_ofNat_Int, Int.natCast_nonneg, Try.results39]
        exact ⟨[], by simp, by simp, by simp [renV, renVs, renBlk, renSegs, renSg, show a < N from by omega, show b < N from by omega, show c < N from by omega]⟩
      · have h4 : (decide ((a : Int) < N) && decide ((b : Int) < N) && decide ((c : Int) < N)) = false := by
          rw [Bool.eq_false_iff]; intro hh
          simp only [Bool.and_eq_true, decide_eq_true_eq] at hh
          exact h3 ⟨hh.1.1, hh.1.2, hh.2⟩
        simp only [absE, absL, absF, reduceCtorEq, ↓reduceIte, Nat.reduceEqDiff, Nat.reduceAdd, Nat.reduceLT, Nat.reduceMul, Nat.reduceSub, Nat.reduceLeDiff, Int.reduceLT, Int.reduceLE, Int.reduceEq, Option.isSome_some, implies_true, false_implies, Prod.mk.injEq, ne_eq, not_false_eq_true, not_true_eq_false, ge_iff_le, gt_iff_lt, Int.toNat_natCast, Int.reduceToNat, Int.cast_ofNat_Int, Int.natCast_nonneg, h4, Try.results39]
        exact ⟨[], by simp, by simp, by simp [renV, renVs, renBlk, renSegs, renSg]; omega⟩
theorem specTv_ok (n : Int) (t : List Int) (xs : List Int) (k a b c : Nat) (ht : Bytes 100 t) (ha : a < 256) (hb : b < 256) (hc : c < 256) (hx : xs.length = k) (hk : k ≤ 2 ^ 20) :
    ACalls Try.prog 37 [.agg (sqS n t), .ref (.sl 0 0 0 0 k 1), .i .u8 a, .i .u8 b, .i .u8 c] [.lv true [(0, .ints .u8 k xs)]] (fun v ms ns => v = tvAV n t xs k a b c ∧ ms = [.lv true [(0, .ints .u8 k xs)]] ∧ ns = []) := by
  have w1 := wrap_i64n (show a < 2 ^ 62 by omega)
  have w2 := wrap_i64n (show b < 2 ^ 62 by omega)
  have w3 := wrap_i64n (show c < 2 ^ 62 by omega)
  unfold tvAV
  refine acalls_of_body mix Try.func37 rfl fok37 (Nat.le_of_ble_eq_true rfl) ?_
  unfold abody
  simp only [absE, absL, absF, reduceCtorEq, ↓reduceIte, Nat.reduceEqDiff, Nat.reduceAdd, Nat.reduceLT, Nat.reduceMul, Nat.reduceSub, Nat.reduceLeDiff, Int.reduceLT, Int.reduceLE, Int.reduceEq, Option.isSome_some, implies_true, false_implies, Prod.mk.injEq, ne_eq, not_false_eq_true, not_true_eq_false, ge_iff_le, gt_iff_lt, Int.toNat_natCast, Int.reduceToNat, Int.cast_ofNat_Int, Int.natCast_nonneg, Try.f37]
  refine CallsVia.none (l01Is_ok n t ht) ?_
  rintro _ _ _ ⟨rfl, rfl, rfl⟩
  cases h1 : sqB n t
  · simp only [absE, absL, absF, reduceCtorEq, ↓reduceIte, Nat.reduceEqDiff, Nat.reduceAdd, Nat.reduceLT, Nat.reduceMul, Nat.reduceSub, Nat.reduceLeDiff, Int.reduceLT, Int.reduceLE, Int.reduceEq, Option.isSome_some, implies_true, false_implies, Prod.mk.injEq, ne_eq, not_false_eq_true, not_true_eq_false, ge_iff_le, gt_iff_lt, Int.toNat_natCast, Int.reduceToNat, Int.cast_ofNat_Int, Int.natCast_nonneg, Try.results37]
    exact ⟨[], by simp, by simp, by simp [renV, renVs, renBlk, renSegs, renSg]⟩
  · have hs := sqB_iff.1 h1
    obtain ⟨N, rfl⟩ : ∃ N : Nat, n = N := ⟨n.toNat, by have := hs.1; omega⟩
    simp only [absE, absL, absF, reduceCtorEq, ↓reduceIte, Nat.reduceEqDiff, Nat.reduceAdd, Nat.reduceLT, Nat.reduceMul, Nat.reduceSub, Nat.reduceLeDiff, Int.reduceLT, Int.reduceLE, Int.reduceEq, Option.isSome_some, implies_true, false_implies, Prod.mk.injEq, ne_eq, not_false_eq_true, not_true_eq_false, ge_iff_le, gt_iff_lt, Int.toNat_natCast, Int.reduceToNat, Int.cast_ofNat_Int, Int.natCast_nonneg]
    refine CallsVia.args [(0, 0)] (l03Is_ok xs k hk) (by simp) (by simp [Mem.get]) rfl rfl ?_
    rintro _ _ _ ⟨rfl, rfl, rfl⟩
    cases h2 : trmB xs k
    · simp only [absE, absL, absF, reduceCtorEq, ↓reduceIte, Nat.reduceEqDiff, Nat.reduceAdd, Nat.reduceLT, Nat.reduceMul, Nat.reduceSub, Nat.reduceLeDiff, Int.reduceLT, Int.reduceLE, Int.reduceEq, Option.isSome_some, implies_true, false_implies, Prod.mk.injEq, ne_eq, not_false_eq_true, not_true_eq_false, ge_iff_le, gt_iff_lt, Int.toNat_natCast, Int.reduceToNat, Int.cast_ofNat_Int, Int.natCast_nonneg, Try.results37]
      exact ⟨[], by simp, by simp, by simp [renV, renVs, renBlk, renSegs, renSg]⟩
    · simp only [absE, absL, absF, reduceCtorEq, ↓reduceIte, Nat.reduceEqDiff, Nat.reduceAdd, Nat.reduceLT, Nat.reduceMul, Nat.reduceSub, Nat.reduceLeDiff, Int.reduceLT, Int.reduceLE, Int.reduceEq, Option.isSome_some, implies_true, false_implies, Prod.mk.injEq, ne_eq, not_false_eq_true, not_true_eq_false, ge_iff_le, gt_iff_lt, Int.toNat_natCast, Int.reduceToNat, Int.cast_ofNat_Int, Int.natCast_nonneg, w1, w2, w3]
      by_cases x1 : (N : Int) ≤ a
      · have h3 : ¬((a : Int) < N ∧ (b : Int) < N ∧ (c : Int) < N) := fun hh => by omega
        simp only [absE, absL, absF, reduceCtorEq, ↓reduceIte, Nat.reduceEqDiff, Nat.reduceAdd, Nat.reduceLT, Nat.reduceMul, Nat.reduceSub, Nat.reduceLeDiff, Int.reduceLT, Int.reduceLE, Int.reduceEq, Option.isSome_some, implies_true, false_implies, Prod.mk.injEq, ne_eq, not_false_eq_true, not_true_eq_false, ge_iff_le, gt_iff_lt, Int.toNat_natCast, Int.reduceToNat, Int.cast_ofNat_Int, Int.natCast_nonneg, x1, Try.results37]
        exact ⟨[], by simp, by simp, by simp [renV, renVs, renBlk, renSegs, renSg]; omega⟩
      · by_cases x2 : (N : Int) ≤ b
        · have h3 : ¬((a : Int) < N ∧ (b : Int) < N ∧ (c : Int) < N) := fun hh => by omega
          simp only [absE, absL, absF, reduceCtorEq, ↓reduceIte, Nat.reduceEqDiff, Nat.reduceAdd, Nat.reduceLT, Nat.reduceMul, Nat.reduceSub, Nat.reduceLeDiff, Int.reduceLT, Int.reduceLE, Int.reduceEq, Option.isSome_some, implies_true, false_implies, Prod.mk.injEq, ne_eq, not_false_eq_true, not_true_eq_false, ge_iff_le, gt_iff_lt, Int.toNat_natCast, Int.reduceToNat, Int.cast_ofNat_Int, Int.natCast_nonneg, x1, x2, w1, w2, w3, Try.results37]
          exact ⟨[], by simp, by simp, by simp [renV, renVs, renBlk, renSegs, renSg]; omega⟩
        · by_cases x3 : (N : Int) ≤ c
          · have h3 : ¬((a : Int) < N ∧ (b : Int) < N ∧ (c : Int) < N) := fun hh => by omega
            simp only [absE, absL, absF, reduceCtorEq, ↓reduceIte, Nat.reduceEqDiff, Nat.reduceAdd, Nat.reduceLT, Nat.reduceMul, Nat.reduceSub, Nat.reduceLeDiff, Int.reduceLT, Int.reduceLE, Int.reduceEq, Option.isSome_some, implies_true, false_implies, Prod.mk.injEq, ne_eq, not_false_eq_true, not_true_eq_false, ge_iff_le, gt_iff_lt, Int.toNat_natCast, Int.reduceToNat, Int.cast_ofNat_Int, Int.natCast_nonneg, x1, x2, x3, w1, w2, w3, Try.results37]
            exact ⟨[], by simp, by simp, by simp [renV, renVs, renBlk, renSegs, renSg]; omega⟩
          · have h3 : (a : Int) < N ∧ (b : Int) < N ∧ (c : Int) < N := ⟨by omega, by omega, by omega⟩
            simp only [absE, absL, absF, reduceCtorEq, ↓reduceIte, Nat.reduceEqDiff, Nat.reduceAdd, Nat.reduceLT, Nat.reduceMul, Nat.reduceSub, Nat.reduceLeDiff, Int.reduceLT, Int.reduceLE, Int.reduceEq, Option.isSome_some, implies_true, false_implies, Prod.mk.injEq, ne_eq, not_false_eq_true, not_true_eq_false, ge_iff_le, gt_iff_lt, Int.toNat_natCast, Int.reduceToNat, Int.cast_ofNat_Int, Int.natCast_nonneg, x1, x2, x3, w1, w2, w3]
            refine CallsVia.args [(0, 0)] (l03Value_ok N t a b c xs k ht hs (by omega) (by omega) (by omega) h2) (by simp) (by simp [Mem.get]) rfl rfl ?_
            rintro _ _ _ ⟨rfl, rfl, rfl⟩
            simp only [absE, absL, absF, reduceCtorEq, ↓reduceIte, Nat.reduceEqDiff, Nat.reduceAdd, Nat.reduceLT, Nat.reduceMul, Nat.reduceSub, Nat.reduceLeDiff, Int.reduceLT, Int.reduceLE, Int.reduceEq, Option.isSome_some, implies_true, false_implies, Prod.mk.injEq, ne_eq, not_false_eq_true, not_true_eq_false, ge_iff_le, gt_iff_lt, Int.toNat_natCast, Int.reduceToNat, Int.cast_ofNat_Int, Int.natCast_nonneg, Try.results37]
            exact ⟨[], by simp, by simp, by simp [renV, renVs, renBlk, renSegs, renSg, show a < N from by omega, show b < N from by omega, show c < N from by omega]⟩

end Go.Proofs.Ytoccbgffekhcaaa
