/-
Contracts of functions of the given program, by the abstract walk.
-/
import Derived.Test.YtopkdpgbjpjgjaaAbsW
import Derived.Test.YtopkdpgbjpjgjaaDf
import Derived.Test.YtopkdpgbjpjgjaaDj
namespace Go.Proofs.Ytopkdpgbjpjgjaa
open Go Go.Abs
set_option linter.unusedVariables false
set_option linter.unusedSectionVars false
set_option linter.unusedSimpArgs false
set_option maxRecDepth 100000
noncomputable def ocode (n : Int) (t xs : List Int) (k : Nat) : Int := if loopB n t then (if hasB n xs k then 0 else 2) else 1
theorem ocode_zero {n : Int} {t xs : List Int} {k : Nat} (h : ocode n t xs k = 0) : SqP n t ∧ UnitP n.toNat t 0 ∧ HasP n xs k := by
  unfold ocode at h
  split at h
  · rename_i h1
    simp only [loopB, Bool.and_eq_true] at h1
    split at h
    · rename_i h2; exact ⟨sqB_iff.1 h1.1, unitB_iff.1 h1.2, hasB_iff.1 h2⟩
    · omega
  · omega
theorem loopB_sq {n : Int} {t : List Int} (h : loopB n t = true) : SqP n t := by
  simp only [loopB, Bool.and_eq_true] at h; exact sqB_iff.1 h.1
theorem ownCode_ok (n : Int) (t xs : List Int) (k : Nat) (ht : Bytes 100 t) (hx : Bytes k xs) (hk : k < 1000) :
    ACalls Try.prog 88 [.agg (sqS n t), .ref (.sl 0 0 0 0 k 1)] [.lv true [(0, .ints .u8 k xs)]] (fun v ms ns => v = .i .i64 (ocode n t xs k) ∧ ms = [.lv true [(0, .ints .u8 k xs)]] ∧ ns = []) := by
  refine acalls_of_body mix Try.func88 rfl fok88 (Nat.le_of_ble_eq_true rfl) ?_
  unfold abody
  simp only [absE, absL, absF, reduceCtorEq, ↓reduceIte, Nat.reduceEqDiff, Nat.reduceAdd, Nat.reduceLT, Nat.reduceMul, Nat.reduceSub, Nat.reduceLeDiff, Int.reduceLT, Int.reduceLE, Int.reduceEq, Option.isSome_some, implies_true, false_implies, Prod.mk.injEq, ne_eq, not_false_eq_true, not_true_eq_false, ge_iff_le, gt_iff_lt, Int.toNat_natCast, Int.reduceToNat, Int.cast_ofNat_Int, Int.natCast_nonneg, Try.f88]
  refine CallsVia.none (isLoop_ok n t ht) ?_
  rintro _ _ _ ⟨rfl, rfl, rfl⟩
  cases h1 : loopB n t
  · simp only [absE, absL, absF, reduceCtorEq, ↓reduceIte, Nat.reduceEqDiff, Nat.reduceAdd, Nat.reduceLT, Nat.reduceMul, Nat.reduceSub, Nat.reduceLeDiff, Int.reduceLT, Int.reduceLE, Int.reduceEq, Option.isSome_some, implies_true, false_implies, Prod.mk.injEq, ne_eq, not_false_eq_true, not_true_eq_false, ge_iff_le, gt_iff_lt, Int.toNat_natCast, Int.reduceToNat, Int.cast_ofNat_Int, Int.natCast_nonneg, Try.results88]
    exact ⟨[], by simp, by simp, by simp [renV, renBlk, renSegs, renSg, ocode, h1]⟩
  · simp only [absE, absL, absF, reduceCtorEq, ↓reduceIte, Nat.reduceEqDiff, Nat.reduceAdd, Nat.reduceLT, Nat.reduceMul, Nat.reduceSub, Nat.reduceLeDiff, Int.reduceLT, Int.reduceLE, Int.reduceEq, Option.isSome_some, implies_true, false_implies, Prod.mk.injEq, ne_eq, not_false_eq_true, not_true_eq_false, ge_iff_le, gt_iff_lt, Int.toNat_natCast, Int.reduceToNat, Int.cast_ofNat_Int, Int.natCast_nonneg]
    refine CallsVia.args [(0, 0)] (has_ok n t xs k hx hk) (by simp) (by simp [Mem.get]) rfl rfl ?_
    rintro _ _ _ ⟨rfl, rfl, rfl⟩
    cases h2 : hasB n xs k
    · simp only [absE, absL, absF, reduceCtorEq, ↓reduceIte, Nat.reduceEqDiff, Nat.reduceAdd, Nat.reduceLT, Nat.reduceMul, Nat.reduceSub, Nat.reduceLeDiff, Int.reduceLT, Int.reduceLE, Int.reduceEq, Option.isSome_some, implies_true, false_implies, Prod.mk.injEq, ne_eq, not_false_eq_true, not_true_eq_false, ge_iff_le, gt_iff_lt, Int.toNat_natCast, Int.reduceToNat, Int.cast_ofNat_Int, Int.natCast_nonneg, Try.results88]
      exact ⟨[], by simp, by simp, by simp [renV, renBlk, renSegs, renSg, ocode, h1, h2]⟩
    · simp only [absE, absL, absF, reduceCtorEq, ↓reduceIte, Nat.reduceEqDiff, Nat.reduceAdd, Nat.reduceLT, Nat.reduceMul, Nat.reduceSub, Nat.reduceLeDiff, Int.reduceLT, Int.reduceLE, Int.reduceEq, Option.isSome_some, implies_true, false_implies, Prod.mk.injEq, ne_eq, not_false_eq_true, not_true_eq_false, ge_iff_le, gt_iff_lt, Int.toNat_natCast, Int.reduceToNat, Int.cast_ofNat_Int, Int.natCast_nonneg, Try.results88]
      exact ⟨[], by simp, by simp, by simp [renV, renBlk, renSegs, renSg, ocode, h1, h2]⟩
theorem l05Code_ok (n : Int) (t : List Int) (x y z : Nat) (ht : Bytes 100 t) (hx : x < 256) (hy : y < 256) (hz : z < 256) :
    ACalls Try.prog 86 [.agg (sqS n t), .i .u8 x, .i .u8 y, .i .u8 z] [] (fun v ms ns => v = .i .i64 (ocode n t [(x : Int), (y : Int), (z : Int)] 3) ∧ ms = [] ∧ ns = []) := by
  have w1 := wrap_i64n (show x < 2 ^ 62 by omega)
  have w2 := wrap_i64n (show y < 2 ^ 62 by omega)
  have w3 := wrap_i64n (show z < 2 ^ 62 by omega)
  refine acalls_of_body mix Try.func86 rfl fok86 (Nat.le_of_ble_eq_true rfl) ?_
  unfold abody
  simp only [absE, absL, absF, reduceCtorEq, ↓reduceIte, Nat.reduceEqDiff, Nat.reduceAdd, Nat.reduceLT, Nat.reduceMul, Nat.reduceSub, Nat.reduceLeDiff, Int.reduceLT, Int.reduceLE, Int.reduceEq, Option.isSome_some, implies_true, false_implies, Prod.mk.injEq, ne_eq, not_false_eq_true, not_true_eq_false, ge_iff_le, gt_iff_lt, Int.toNat_natCast, Int.reduceToNat, Int.cast_ofNat_Int, Int.natCast_nonneg, Try.f86]
  refine CallsVia.none (l01Loop_ok n t ht) ?_
  rintro _ _ _ ⟨rfl, rfl, rfl⟩
  cases h1 : loopB n t
  · simp only [absE, absL, absF, reduceCtorEq, ↓reduceIte, Nat.reduceEqDiff, Nat.reduceAdd, Nat.reduceLT, Nat.reduceMul, Nat.reduceSub, Nat.reduceLeDiff, Int.reduceLT, Int.reduceLE, Int.reduceEq, Option.isSome_some, implies_true, false_implies, Prod.mk.injEq, ne_eq, not_false_eq_true, not_true_eq_false, ge_iff_le, gt_iff_lt, Int.toNat_natCast, Int.reduceToNat, Int.cast_ofNat_Int, Int.natCast_nonneg, Try.results86]
    exact ⟨[], by simp, by simp, by simp [renV, renVs, renSegs, renSg, ocode, h1]⟩
  · by_cases g1 : n ≤ (x : Int)
    · have e : hasB n [(x : Int), (y : Int), (z : Int)] 3 = false := by rw [hasB_three, decide_eq_false (show ¬(x : Int) < n by omega)]; rfl
      simp only [absE, absL, absF, reduceCtorEq, ↓reduceIte, Nat.reduceEqDiff, Nat.reduceAdd, Nat.reduceLT, Nat.reduceMul, Nat.reduceSub, Nat.reduceLeDiff, Int.reduceLT, Int.reduceLE, Int.reduceEq, Option.isSome_some, implies_true, false_implies, Prod.mk.injEq, ne_eq, not_false_eq_true, not_true_eq_false, ge_iff_le, gt_iff_lt, Int.toNat_natCast, Int.reduceToNat, Int.cast_ofNat_Int, Int.natCast_nonneg, w1, w2, w3, g1, Try.results86]
      exact ⟨[], by simp, by simp, by simp [renV, renVs, renSegs, renSg, ocode, h1, e]⟩
    · by_cases g2 : n ≤ (y : Int)
      · have e : hasB n [(x : Int), (y : Int), (z : Int)] 3 = false := by rw [hasB_three, decide_eq_false (show ¬(y : Int) < n by omega)]; simp
        simp only [absE, absL, absF, reduceCtorEq, ↓reduceIte, Nat.reduceEqDiff, Nat.reduceAdd, Nat.reduceLT, Nat.reduceMul, Nat.reduceSub, Nat.reduceLeDiff, Int.reduceLT, Int.reduceLE, Int.reduceEq, Option.isSome_some, implies_true, false_implies, Prod.mk.injEq, ne_eq, not_false_eq_true, not_true_eq_false, ge_iff_le, gt_iff_lt, Int.toNat_natCast, Int.reduceToNat, Int.cast_ofNat_Int, Int.natCast_nonneg, w1, w2, w3, g1, g2, Try.results86]
        exact ⟨[], by simp, by simp, by simp [renV, renVs, renSegs, renSg, ocode, h1, e]⟩
      · by_cases g3 : n ≤ (z : Int)
        · have e : hasB n [(x : Int), (y : Int), (z : Int)] 3 = false := by rw [hasB_three, decide_eq_false (show ¬(z : Int) < n by omega)]; simp
          simp only [absE, absL, absF, reduceCtorEq, ↓reduceIte, Nat.reduceEqDiff, Nat.reduceAdd, Nat.reduceLT, Nat.reduceMul, Nat.reduceSub, Nat.reduceLeDiff, Int.reduceLT, Int.reduceLE, Int.reduceEq, Option.isSome_some, implies_true, false_implies, Prod.mk.injEq, ne_eq, not_false_eq_true, not_true_eq_false, ge_iff_le, gt_iff_lt, Int.toNat_natCast, Int.reduceToNat, Int.cast_ofNat_Int, Int.natCast_nonneg, w1, w2, w3, g1, g2, g3, Try.results86]
          exact ⟨[], by simp, by simp, by simp [renV, renVs, renSegs, renSg, ocode, h1, e]⟩
        · have e : hasB n [(x : Int), (y : Int), (z : Int)] 3 = true := by rw [hasB_three]; simp; omega
          simp only [absE, absL, absF, reduceCtorEq, ↓reduceIte, Nat.reduceEqDiff, Nat.reduceAdd, Nat.reduceLT, Nat.reduceMul, Nat.reduceSub, Nat.reduceLeDiff, Int.reduceLT, Int.reduceLE, Int.reduceEq, Option.isSome_some, implies_true, false_implies, Prod.mk.injEq, ne_eq, not_false_eq_true, not_true_eq_false, ge_iff_le, gt_iff_lt, Int.toNat_natCast, Int.reduceToNat, Int.cast_ofNat_Int, Int.natCast_nonneg, w1, w2, w3, g1, g2, g3, Try.results86]
          exact ⟨[], by simp, by simp, by simp [renV, renVs, renSegs, renSg, ocode, h1, e]⟩
noncomputable def isoForAV (n : Int) (t : List Int) (a b : Nat) : AV := resSq (ocode n t [(a : Int), (b : Int)] 2) n (isoForR n.toNat t a b)
theorem isoFor_form (n : Int) (t : List Int) (a b : Nat) (ht : Bytes 100 t) (ha : a < 256) (hb : b < 256) : ∃ k s e, s.length = 100 ∧ isoForAV n t a b = .tup [.agg (sqS k s), .i .i64 e] := resSq_form _ _ (isoT_len _)
theorem implIsotopeFor_ok (n : Int) (t : List Int) (a b : Nat) (ht : Bytes 100 t) (ha : a < 256) (hb : b < 256) :
    ACalls Try.prog 45 [.agg (sqS n t), .i .u8 a, .i .u8 b] [] (fun v ms ns => v = isoForAV n t a b ∧ ms = [] ∧ ns = []) := by
  unfold isoForAV
  refine acalls_of_body mix Try.func45 rfl fok45 (Nat.le_of_ble_eq_true rfl) ?_
  unfold abody
  simp only [absE, absL, absF, reduceCtorEq, ↓reduceIte, Nat.reduceEqDiff, Nat.reduceAdd, Nat.reduceLT, Nat.reduceMul, Nat.reduceSub, Nat.reduceLeDiff, Int.reduceLT, Int.reduceLE, Int.reduceEq, Option.isSome_some, implies_true, false_implies, Prod.mk.injEq, ne_eq, not_false_eq_true, not_true_eq_false, ge_iff_le, gt_iff_lt, Int.toNat_natCast, Int.reduceToNat, Int.cast_ofNat_Int, Int.natCast_nonneg, Try.f45]
  refine CallsVia.args [(7, 0)] (ownCode_ok n t [(a : Int), (b : Int)] 2 ht (bytes_two ha hb) (by omega)) (by simp) (by simp [Mem.get, assoc]) rfl rfl ?_
  rintro _ _ _ ⟨rfl, rfl, rfl⟩
  by_cases h : ocode n t [(a : Int), (b : Int)] 2 = 0
  · obtain ⟨hs, _, hh⟩ := ocode_zero h
    obtain ⟨N, rfl⟩ : ∃ N : Nat, n = N := ⟨n.toNat, by have := hs.1; omega⟩
    have hx2 : a < N := by have := hh 0 (by omega); simp at this; omega
    have hy2 : b < N := by have := hh 1 (by omega); simp at this; omega
    simp only [absE, absL, absF, reduceCtorEq, ↓reduceIte, Nat.reduceEqDiff, Nat.reduceAdd, Nat.reduceLT, Nat.reduceMul, Nat.reduceSub, Nat.reduceLeDiff, Int.reduceLT, Int.reduceLE, Int.reduceEq, Option.isSome_some, implies_true, false_implies, Prod.mk.injEq, ne_eq, not_false_eq_true, not_true_eq_false, ge_iff_le, gt_iff_lt, Int.toNat_natCast, Int.reduceToNat, Int.cast_ofNat_Int, Int.natCast_nonneg, h]
    refine CallsVia.none (isotopeFor_ok N t a b ht hs hx2 hy2) ?_
    rintro _ _ _ ⟨rfl, rfl, rfl⟩
    simp only [absE, absL, absF, reduceCtorEq, ↓reduceIte, Nat.reduceEqDiff, Nat.reduceAdd, Nat.reduceLT, Nat.reduceMul, Nat.reduceSub, Nat.reduceLeDiff, Int.reduceLT, Int.reduceLE, Int.reduceEq, Option.isSome_some, implies_true, false_implies, Prod.mk.injEq, ne_eq, not_false_eq_true, not_true_eq_false, ge_iff_le, gt_iff_lt, Int.toNat_natCast, Int.reduceToNat, Int.cast_ofNat_Int, Int.natCast_nonneg, Try.results45]
    exact ⟨[], by simp, by simp, by simp [renV, renVs, renSegs, renSg, resSq0 h]⟩
  · simp only [absE, absL, absF, reduceCtorEq, ↓reduceIte, Nat.reduceEqDiff, Nat.reduceAdd, Nat.reduceLT, Nat.reduceMul, Nat.reduceSub, Nat.reduceLeDiff, Int.reduceLT, Int.reduceLE, Int.reduceEq, Option.isSome_some, implies_true, false_implies, Prod.mk.injEq, ne_eq, not_false_eq_true, not_true_eq_false, ge_iff_le, gt_iff_lt, Int.toNat_natCast, Int.reduceToNat, Int.cast_ofNat_Int, Int.natCast_nonneg, h, Try.results45]
    exact ⟨[], by simp, by simp, by simp [renV, renVs, renSegs, renSg, resSqN h]⟩
theorem ocode_pair {n : Int} {t : List Int} {a b : Nat} : ocode n t [(a : Int), (b : Int), ((0 : Nat) : Int)] 3 = ocode n t [(a : Int), (b : Int)] 2 := by
  unfold ocode
  split
  · rename_i h
    have := (loopB_sq h).1
    rw [hasB_three, hasB_two, decide_eq_true (show ((0 : Nat) : Int) < n by omega), Bool.and_true]
  · rfl
theorem specIsotopeFor_ok (n : Int) (t : List Int) (a b : Nat) (ht : Bytes 100 t) (ha : a < 256) (hb : b < 256) :
    ACalls Try.prog 44 [.agg (sqS n t), .i .u8 a, .i .u8 b] [] (fun v ms ns => v = isoForAV n t a b ∧ ms = [] ∧ ns = []) := by
  unfold isoForAV
  refine acalls_of_body mix Try.func44 rfl fok44 (Nat.le_of_ble_eq_true rfl) ?_
  unfold abody
  simp only [absE, absL, absF, reduceCtorEq, ↓reduceIte, Nat.reduceEqDiff, Nat.reduceAdd, Nat.reduceLT, Nat.reduceMul, Nat.reduceSub, Nat.reduceLeDiff, Int.reduceLT, Int.reduceLE, Int.reduceEq, Option.isSome_some, implies_true, false_implies, Prod.mk.injEq, ne_eq, not_false_eq_true, not_true_eq_false, ge_iff_le, gt_iff_lt, Int.toNat_natCast, Int.reduceToNat, Int.cast_ofNat_Int, Int.natCast_nonneg, Try.f44]
  have hc := l05Code_ok n t a b 0 ht ha hb (by omega)
  rw [ocode_pair] at hc
  refine CallsVia.none hc ?_
  rintro _ _ _ ⟨rfl, rfl, rfl⟩
  by_cases h : ocode n t [(a : Int), (b : Int)] 2 = 0
  · obtain ⟨hs, _, hh⟩ := ocode_zero h
    obtain ⟨N, rfl⟩ : ∃ N : Nat, n = N := ⟨n.toNat, by have := hs.1; omega⟩
    have hx2 : a < N := by have := hh 0 (by omega); simp at this; omega
    have hy2 : b < N := by have := hh 1 (by omega); simp at this; omega
    simp only [absE, absL, absF, reduceCtorEq, ↓reduceIte, Nat.reduceEqDiff, Nat.reduceAdd, Nat.reduceLT, Nat.reduceMul, Nat.reduceSub, Nat.reduceLeDiff, Int.reduceLT, Int.reduceLE, Int.reduceEq, Option.isSome_some, implies_true, false_implies, Prod.mk.injEq, ne_eq, not_false_eq_true, not_true_eq_false, ge_iff_le, gt_iff_lt, Int.toNat_natCast, Int.reduceToNat, Int.cast_ofNat_Int, Int.natCast_nonneg, h]
    refine CallsVia.none (l07Isotope_ok N t a b ht hs hx2 hy2) ?_
    rintro _ _ _ ⟨rfl, rfl, rfl⟩
    simp only [absE, absL, absF, reduceCtorEq, ↓reduceIte, Nat.reduceEqDiff, Nat.reduceAdd, Nat.reduceLT, Nat.reduceMul, Nat.reduceSub, Nat.reduceLeDiff, Int.reduceLT, Int.reduceLE, Int.reduceEq, Option.isSome_some, implies_true, false_implies, Prod.mk.injEq, ne_eq, not_false_eq_true, not_true_eq_false, ge_iff_le, gt_iff_lt, Int.toNat_natCast, Int.reduceToNat, Int.cast_ofNat_Int, Int.natCast_nonneg, Try.results44]
    exact ⟨[], by simp, by simp, by simp [renV, renVs, renSegs, renSg, resSq0 h]⟩
  · simp only [absE, absL, absF, reduceCtorEq, ↓reduceIte, Nat.reduceEqDiff, Nat.reduceAdd, Nat.reduceLT, Nat.reduceMul, Nat.reduceSub, Nat.reduceLeDiff, Int.reduceLT, Int.reduceLE, Int.reduceEq, Option.isSome_some, implies_true, false_implies, Prod.mk.injEq, ne_eq, not_false_eq_true, not_true_eq_false, ge_iff_le, gt_iff_lt, Int.toNat_natCast, Int.reduceToNat, Int.cast_ofNat_Int, Int.natCast_nonneg, h, Try.results44]
    exact ⟨[], by simp, by simp, by simp [renV, renVs, renSegs, renSg, resSqN h]⟩

end Go.Proofs.Ytopkdpgbjpjgjaa
