/-
Contracts of functions of the given program, by the abstract walk.
-/
import Derived.Test.YtopkdpgbjpjgjaaAbsW
import Derived.Test.YtopkdpgbjpjgjaaDc
import Derived.Test.YtopkdpgbjpjgjaaDe
namespace Go.Proofs.Ytopkdpgbjpjgjaa
open Go Go.Abs
set_option linter.unusedVariables false
set_option linter.unusedSectionVars false
set_option linter.unusedSimpArgs false
set_option maxRecDepth 100000
def resMap (c : Int) (m : List Int) : AV := if c = 0 then .tup [.agg (plS m), .i .i64 0] else .tup [.agg (plS (List.replicate 10 0)), .i .i64 c]
theorem resMap_form (c : Int) {m : List Int} (hm : m.length = 10) : ∃ s e, s.length = 10 ∧ resMap c m = .tup [.agg (plS s), .i .i64 e] := by
  unfold resMap
  split
  · exact ⟨_, _, hm, rfl⟩
  · exact ⟨_, _, by simp, rfl⟩
theorem resMap0 {c : Int} {m : List Int} (h : c = 0) : resMap c m = .tup [.agg (plS m), .i .i64 0] := if_pos h
theorem resMapN {c : Int} {m : List Int} (h : ¬c = 0) : resMap c m = .tup [.agg (plS (List.replicate 10 0)), .i .i64 c] := if_neg h
theorem lcode_zero {n : Int} {t xs : List Int} {k : Nat} (h : lcode n t xs k = 0) : SqP n t ∧ HasP n xs k ∧ UnitP n.toNat t 0 := by
  unfold lcode at h
  split at h
  · rename_i h1
    split at h
    · rename_i h2
      split at h
      · rename_i h3; exact ⟨sqB_iff.1 h1, hasB_iff.1 h2, unitB_iff.1 h3⟩
      · omega
    · omega
  · omega
theorem bytes_one {x : Nat} (h : x < 256) : Bytes 1 [(x : Int)] := ⟨rfl, fun i => by
  match i with
  | 0 => show 0 ≤ (x : Int) ∧ (x : Int) < 256; omega
  | _ + 1 => exact ⟨Int.le_refl 0, by show (0 : Int) < 256; omega⟩⟩
theorem bytes_cons {x k : Nat} {l : List Int} (h : x < 256) (hl : Bytes k l) : Bytes (k + 1) ((x : Int) :: l) := ⟨by simp [hl.len], fun i => by
  match i with
  | 0 => show 0 ≤ (x : Int) ∧ (x : Int) < 256; omega
  | j + 1 => exact hl.rng j⟩
theorem turnMap_form (n : Int) (t : List Int) (x : Nat) (ht : Bytes 100 t) (hx : x < 256) : ∃ s e, s.length = 10 ∧ resMap (lcode n t [(x : Int)] 1) (turnL n.toNat t x) = .tup [.agg (plS s), .i .i64 e] := resMap_form _ mapL_len
theorem leftMap_form (n : Int) (t : List Int) (x y : Nat) (ht : Bytes 100 t) (hx : x < 256) (hy : y < 256) : ∃ s e, s.length = 10 ∧ resMap (lcode n t [(x : Int), (y : Int)] 2) (leftL n.toNat t x y) = .tup [.agg (plS s), .i .i64 e] := resMap_form _ mapL_len
theorem rightMap_form (n : Int) (t : List Int) (x y : Nat) (ht : Bytes 100 t) (hx : x < 256) (hy : y < 256) : ∃ s e, s.length = 10 ∧ resMap (lcode n t [(x : Int), (y : Int)] 2) (rightL n.toNat t x y) = .tup [.agg (plS s), .i .i64 e] := resMap_form _ mapL_len
theorem implTurnMap_ok (n : Int) (t : List Int) (x : Nat) (ht : Bytes 100 t) (hx : x < 256) :
    ACalls Try.prog 36 [.agg (sqS n t), .i .u8 x] [] (fun v ms ns => v = resMap (lcode n t [(x : Int)] 1) (turnL n.toNat t x) ∧ ms = [] ∧ ns = []) := by
  refine acalls_of_body mix Try.func36 rfl fok36 (Nat.le_of_ble_eq_true rfl) ?_
  unfold abody
  simp only [absE, absL, absF, reduceCtorEq, ↓reduceIte, Nat.reduceEqDiff, Nat.reduceAdd, Nat.reduceLT, Nat.reduceMul, Nat.reduceSub, Nat.reduceLeDiff, Int.reduceLT, Int.reduceLE, Int.reduceEq, Option.isSome_some, implies_true, false_implies, Prod.mk.injEq, ne_eq, not_false_eq_true, not_true_eq_false, ge_iff_le, gt_iff_lt, Int.toNat_natCast, Int.reduceToNat, Int.cast_ofNat_Int, Int.natCast_nonneg, Try.f36]
  refine CallsVia.args [(6, 0)] (loopCode_ok n t [(x : Int)] 1 ht (bytes_one hx) (by omega)) (by simp) (by simp [Mem.get, assoc]) rfl rfl ?_
  rintro _ _ _ ⟨rfl, rfl, rfl⟩
  by_cases h : lcode n t [(x : Int)] 1 = 0
  · obtain ⟨hs, hh, _⟩ := lcode_zero h
    obtain ⟨N, rfl⟩ : ∃ N : Nat, n = N := ⟨n.toNat, by have := hs.1; omega⟩
    have hx2 : x < N := by have := hh 0 (by omega); simp at this; omega
    simp only [absE, absL, absF, reduceCtorEq, ↓reduceIte, Nat.reduceEqDiff, Nat.reduceAdd, Nat.reduceLT, Nat.reduceMul, Nat.reduceSub, Nat.reduceLeDiff, Int.reduceLT, Int.reduceLE, Int.reduceEq, Option.isSome_some, implies_true, false_implies, Prod.mk.injEq, ne_eq, not_false_eq_true, not_true_eq_false, ge_iff_le, gt_iff_lt, Int.toNat_natCast, Int.reduceToNat, Int.cast_ofNat_Int, Int.natCast_nonneg, h]
    refine CallsVia.none (implTurn_ok N t x ht hs hx2) ?_
    rintro _ _ _ ⟨rfl, rfl, rfl⟩
    simp only [absE, absL, absF, reduceCtorEq, ↓reduceIte, Nat.reduceEqDiff, Nat.reduceAdd, Nat.reduceLT, Nat.reduceMul, Nat.reduceSub, Nat.reduceLeDiff, Int.reduceLT, Int.reduceLE, Int.reduceEq, Option.isSome_some, implies_true, false_implies, Prod.mk.injEq, ne_eq, not_false_eq_true, not_true_eq_false, ge_iff_le, gt_iff_lt, Int.toNat_natCast, Int.reduceToNat, Int.cast_ofNat_Int, Int.natCast_nonneg, Try.results36]
    exact ⟨[], by simp, by simp, by simp [renV, renVs, renSegs, renSg, resMap0 h]⟩
  · simp only [absE, absL, absF, reduceCtorEq, ↓reduceIte, Nat.reduceEqDiff, Nat.reduceAdd, Nat.reduceLT, Nat.reduceMul, Nat.reduceSub, Nat.reduceLeDiff, Int.reduceLT, Int.reduceLE, Int.reduceEq, Option.isSome_some, implies_true, false_implies, Prod.mk.injEq, ne_eq, not_false_eq_true, not_true_eq_false, ge_iff_le, gt_iff_lt, Int.toNat_natCast, Int.reduceToNat, Int.cast_ofNat_Int, Int.natCast_nonneg, h, Try.results36]
    exact ⟨[], by simp, by simp, by simp [renV, renVs, renSegs, renSg, resMapN h]⟩
theorem specTurnMap_ok (n : Int) (t : List Int) (x : Nat) (ht : Bytes 100 t) (hx : x < 256) :
    ACalls Try.prog 35 [.agg (sqS n t), .i .u8 x] [] (fun v ms ns => v = resMap (lcode n t [(x : Int)] 1) (turnL n.toNat t x) ∧ ms = [] ∧ ns = []) := by
  refine acalls_of_body mix Try.func35 rfl fok35 (Nat.le_of_ble_eq_true rfl) ?_
  unfold abody
  simp only [absE, absL, absF, reduceCtorEq, ↓reduceIte, Nat.reduceEqDiff, Nat.reduceAdd, Nat.reduceLT, Nat.reduceMul, Nat.reduceSub, Nat.reduceLeDiff, Int.reduceLT, Int.reduceLE, Int.reduceEq, Option.isSome_some, implies_true, false_implies, Prod.mk.injEq, ne_eq, not_false_eq_true, not_true_eq_false, ge_iff_le, gt_iff_lt, Int.toNat_natCast, Int.reduceToNat, Int.cast_ofNat_Int, Int.natCast_nonneg, Try.f35]
  refine CallsVia.args [(6, 0)] (l04Loop_ok n t [(x : Int)] 1 ht (bytes_one hx) (by omega)) (by simp) (by simp [Mem.get, assoc]) rfl rfl ?_
  rintro _ _ _ ⟨rfl, rfl, rfl⟩
  by_cases h : lcode n t [(x : Int)] 1 = 0
  · obtain ⟨hs, hh, _⟩ := lcode_zero h
    obtain ⟨N, rfl⟩ : ∃ N : Nat, n = N := ⟨n.toNat, by have := hs.1; omega⟩
    have hx2 : x < N := by have := hh 0 (by omega); simp at this; omega
    simp only [absE, absL, absF, reduceCtorEq, ↓reduceIte, Nat.reduceEqDiff, Nat.reduceAdd, Nat.reduceLT, Nat.reduceMul, Nat.reduceSub, Nat.reduceLeDiff, Int.reduceLT, Int.reduceLE, Int.reduceEq, Option.isSome_some, implies_true, false_implies, Prod.mk.injEq, ne_eq, not_false_eq_true, not_true_eq_false, ge_iff_le, gt_iff_lt, Int.toNat_natCast, Int.reduceToNat, Int.cast_ofNat_Int, Int.natCast_nonneg, h]
    refine CallsVia.none (specTurn_ok N t x ht hs hx2) ?_
    rintro _ _ _ ⟨rfl, rfl, rfl⟩
    simp only [absE, absL, absF, reduceCtorEq, ↓reduceIte, Nat.reduceEqDiff, Nat.reduceAdd, Nat.reduceLT, Nat.reduceMul, Nat.reduceSub, Nat.reduceLeDiff, Int.reduceLT, Int.reduceLE, Int.reduceEq, Option.isSome_some, implies_true, false_implies, Prod.mk.injEq, ne_eq, not_false_eq_true, not_true_eq_false, ge_iff_le, gt_iff_lt, Int.toNat_natCast, Int.reduceToNat, Int.cast_ofNat_Int, Int.natCast_nonneg, Try.results35]
    exact ⟨[], by simp, by simp, by simp [renV, renVs, renSegs, renSg, resMap0 h]⟩
  · simp only [absE, absL, absF, reduceCtorEq, ↓reduceIte, Nat.reduceEqDiff, Nat.reduceAdd, Nat.reduceLT, Nat.reduceMul, Nat.reduceSub, Nat.reduceLeDiff, Int.reduceLT, Int.reduceLE, Int.reduceEq, Option.isSome_some, implies_true, false_implies, Prod.mk.injEq, ne_eq, not_false_eq_true, not_true_eq_false, ge_iff_le, gt_iff_lt, Int.toNat_natCast, Int.reduceToNat, Int.cast_ofNat_Int, Int.natCast_nonneg, h, Try.results35]
    exact ⟨[], by simp, by simp, by simp [renV, renVs, renSegs, renSg, resMapN h]⟩
theorem implLeftInnerMap_ok (n : Int) (t : List Int) (x y : Nat) (ht : Bytes 100 t) (hx : x < 256) (hy : y < 256) :
    ACalls Try.prog 17 [.agg (sqS n t), .i .u8 x, .i .u8 y] [] (fun v ms ns => v = resMap (lcode n t [(x : Int), (y : Int)] 2) (leftL n.toNat t x y) ∧ ms = [] ∧ ns = []) := by
  refine acalls_of_body mix Try.func17 rfl fok17 (Nat.le_of_ble_eq_true rfl) ?_
  unfold abody
  simp only [absE, absL, absF, reduceCtorEq, ↓reduceIte, Nat.reduceEqDiff, Nat.reduceAdd, Nat.reduceLT, Nat.reduceMul, Nat.reduceSub, Nat.reduceLeDiff, Int.reduceLT, Int.reduceLE, Int.reduceEq, Option.isSome_some, implies_true, false_implies, Prod.mk.injEq, ne_eq, not_false_eq_true, not_true_eq_false, ge_iff_le, gt_iff_lt, Int.toNat_natCast, Int.reduceToNat, Int.cast_ofNat_Int, Int.natCast_nonneg, Try.f17]
  refine CallsVia.args [(7, 0)] (loopCode_ok n t [(x : Int), (y : Int)] 2 ht (bytes_cons hx (bytes_one hy)) (by omega)) (by simp) (by simp [Mem.get, assoc]) rfl rfl ?_
  rintro _ _ _ ⟨rfl, rfl, rfl⟩
  by_cases h : lcode n t [(x : Int), (y : Int)] 2 = 0
  · obtain ⟨hs, hh, _⟩ := lcode_zero h
    obtain ⟨N, rfl⟩ : ∃ N : Nat, n = N := ⟨n.toNat, by have := hs.1; omega⟩
    have hx2 : x < N := by have := hh 0 (by omega); simp at this; omega
    have hy2 : y < N := by have := hh 1 (by omega); simp at this; omega
    simp only [absE, absL, absF, reduceCtorEq, ↓reduceIte, Nat.reduceEqDiff, Nat.reduceAdd, Nat.reduceLT, Nat.reduceMul, Nat.reduceSub, Nat.reduceLeDiff, Int.reduceLT, Int.reduceLE, Int.reduceEq, Option.isSome_some, implies_true, false_implies, Prod.mk.injEq, ne_eq, not_false_eq_true, not_true_eq_false, ge_iff_le, gt_iff_lt, Int.toNat_natCast, Int.reduceToNat, Int.cast_ofNat_Int, Int.natCast_nonneg, h]
    refine CallsVia.none (implLeftInner_ok N t x y ht hs hx2 hy2) ?_
    rintro _ _ _ ⟨rfl, rfl, rfl⟩
    simp only [absE, absL, absF, reduceCtorEq, ↓reduceIte, Nat.reduceEqDiff, Nat.reduceAdd, Nat.reduceLT, Nat.reduceMul, Nat.reduceSub, Nat.reduceLeDiff, Int.reduceLT, Int.reduceLE, Int.reduceEq, Option.isSome_some, implies_true, false_implies, Prod.mk.injEq, ne_eq, not_false_eq_true, not_true_eq_false, ge_iff_le, gt_iff_lt, Int.toNat_natCast, Int.reduceToNat, Int.cast_ofNat_Int, Int.natCast_nonneg, Try.results17]
    exact ⟨[], by simp, by simp, by simp [renV, renVs, renSegs, renSg, resMap0 h]⟩
  · simp only [absE, absL, absF, reduceCtorEq, ↓reduceIte, Nat.reduceEqDiff, Nat.reduceAdd, Nat.reduceLT, Nat.reduceMul, Nat.reduceSub, Nat.reduceLeDiff, Int.reduceLT, Int.reduceLE, Int.reduceEq, Option.isSome_some, implies_true, false_implies, Prod.mk.injEq, ne_eq, not_false_eq_true, not_true_eq_false, ge_iff_le, gt_iff_lt, Int.toNat_natCast, Int.reduceToNat, Int.cast_ofNat_Int, Int.natCast_nonneg, h, Try.results17]
    exact ⟨[], by simp, by simp, by simp [renV, renVs, renSegs, renSg, resMapN h]⟩
theorem specLeftInnerMap_ok (n : Int) (t : List Int) (x y : Nat) (ht : Bytes 100 t) (hx : x < 256) (hy : y < 256) :
    ACalls Try.prog 15 [.agg (sqS n t), .i .u8 x, .i .u8 y] [] (fun v ms ns => v = resMap (lcode n t [(x : Int), (y : Int)] 2) (leftL n.toNat t x y) ∧ ms = [] ∧ ns = []) := by
  refine acalls_of_body mix Try.func15 rfl fok15 (Nat.le_of_ble_eq_true rfl) ?_
  unfold abody
  simp only [absE, absL, absF, reduceCtorEq, ↓reduceIte, Nat.reduceEqDiff, Nat.reduceAdd, Nat.reduceLT, Nat.reduceMul, Nat.reduceSub, Nat.reduceLeDiff, Int.reduceLT, Int.reduceLE, Int.reduceEq, Option.isSome_some, implies_true, false_implies, Prod.mk.injEq, ne_eq, not_false_eq_true, not_true_eq_false, ge_iff_le, gt_iff_lt, Int.toNat_natCast, Int.reduceToNat, Int.cast_ofNat_Int, Int.natCast_nonneg, Try.f15]
  refine CallsVia.args [(7, 0)] (l04Loop_ok n t [(x : Int), (y : Int)] 2 ht (bytes_cons hx (bytes_one hy)) (by omega)) (by simp) (by simp [Mem.get, assoc]) rfl rfl ?_
  rintro _ _ _ ⟨rfl, rfl, rfl⟩
  by_cases h : lcode n t [(x : Int), (y : Int)] 2 = 0
  · obtain ⟨hs, hh, _⟩ := lcode_zero h
    obtain ⟨N, rfl⟩ : ∃ N : Nat, n = N := ⟨n.toNat, by have := hs.1; omega⟩
    have hx2 : x < N := by have := hh 0 (by omega); simp at this; omega
    have hy2 : y < N := by have := hh 1 (by omega); simp at this; omega
    simp only [absE, absL, absF, reduceCtorEq, ↓reduceIte, Nat.reduceEqDiff, Nat.reduceAdd, Nat.reduceLT, Nat.reduceMul, Nat.reduceSub, Nat.reduceLeDiff, Int.reduceLT, Int.reduceLE, Int.reduceEq, Option.isSome_some, implies_true, false_implies, Prod.mk.injEq, ne_eq, not_false_eq_true, not_true_eq_false, ge_iff_le, gt_iff_lt, Int.toNat_natCast, Int.reduceToNat, Int.cast_ofNat_Int, Int.natCast_nonneg, h]
    refine CallsVia.none (specLeftInner_ok N t x y ht hs hx2 hy2) ?_
    rintro _ _ _ ⟨rfl, rfl, rfl⟩
    simp only [absE, absL, absF, reduceCtorEq, ↓reduceIte, Nat.reduceEqDiff, Nat.reduceAdd, Nat.reduceLT, Nat.reduceMul, Nat.reduceSub, Nat.reduceLeDiff, Int.reduceLT, Int.reduceLE, Int.reduceEq, Option.isSome_some, implies_true, false_implies, Prod.mk.injEq, ne_eq, not_false_eq_true, not_true_eq_false, ge_iff_le, gt_iff_lt, Int.toNat_natCast, Int.reduceToNat, Int.cast_ofNat_Int, Int.natCast_nonneg, Try.results15]
    exact ⟨[], by simp, by simp, by simp [renV, renVs, renSegs, renSg, resMap0 h]⟩
  · simp only [absE, absL, absF, reduceCtorEq, ↓reduceIte, Nat.reduceEqDiff, Nat.reduceAdd, Nat.reduceLT, Nat.reduceMul, Nat.reduceSub, Nat.reduceLeDiff, Int.reduceLT, Int.reduceLE, Int.reduceEq, Option.isSome_some, implies_true, false_implies, Prod.mk.injEq, ne_eq, not_false_eq_true, not_true_eq_false, ge_iff_le, gt_iff_lt, Int.toNat_natCast, Int.reduceToNat, Int.cast_ofNat_Int, Int.natCast_nonneg, h, Try.results15]
    exact ⟨[], by simp, by simp, by simp [renV, renVs, renSegs, renSg, resMapN h]⟩
theorem implRightInnerMap_ok (n : Int) (t : List Int) (x y : Nat) (ht : Bytes 100 t) (hx : x < 256) (hy : y < 256) :
    ACalls Try.prog 32 [.agg (sqS n t), .i .u8 x, .i .u8 y] [] (fun v ms ns => v = resMap (lcode n t [(x : Int), (y : Int)] 2) (rightL n.toNat t x y) ∧ ms = [] ∧ ns = []) := by
  refine acalls_of_body mix Try.func32 rfl fok32 (Nat.le_of_ble_eq_true rfl) ?_
  unfold abody
  simp only [absE, absL, absF, reduceCtorEq, ↓reduceIte, Nat.reduceEqDiff, Nat.reduceAdd, Nat.reduceLT, Nat.reduceMul, Nat.reduceSub, Nat.reduceLeDiff, Int.reduceLT, Int.reduceLE, Int.reduceEq, Option.isSome_some, implies_true, false_implies, Prod.mk.injEq, ne_eq, not_false_eq_true, not_true_eq_false, ge_iff_le, gt_iff_lt, Int.toNat_natCast, Int.reduceToNat, Int.cast_ofNat_Int, Int.natCast_nonneg, Try.f32]
  refine CallsVia.args [(7, 0)] (loopCode_ok n t [(x : Int), (y : Int)] 2 ht (bytes_cons hx (bytes_one hy)) (by omega)) (by simp) (by simp [Mem.get, assoc]) rfl rfl ?_
  rintro _ _ _ ⟨rfl, rfl, rfl⟩
  by_cases h : lcode n t [(x : Int), (y : Int)] 2 = 0
  · obtain ⟨hs, hh, _⟩ := lcode_zero h
    obtain ⟨N, rfl⟩ : ∃ N : Nat, n = N := ⟨n.toNat, by have := hs.1; omega⟩
    have hx2 : x < N := by have := hh 0 (by omega); simp at this; omega
    have hy2 : y < N := by have := hh 1 (by omega); simp at this; omega
    simp only [absE, absL, absF, reduceCtorEq, ↓reduceIte, Nat.reduceEqDiff, Nat.reduceAdd, Nat.reduceLT, Nat.reduceMul, Nat.reduceSub, Nat.reduceLeDiff, Int.reduceLT, Int.reduceLE, Int.reduceEq, Option.isSome_some, implies_true, false_implies, Prod.mk.injEq, ne_eq, not_false_eq_true, not_true_eq_false, ge_iff_le, gt_iff_lt, Int.toNat_natCast, Int.reduceToNat, Int.cast_ofNat_Int, Int.natCast_nonneg, h]
    refine CallsVia.none (implRightInner_ok N t x y ht hs hx2 hy2) ?_
    rintro _ _ _ ⟨rfl, rfl, rfl⟩
    simp only [absE, absL, absF, reduceCtorEq, ↓reduceIte, Nat.reduceEqDiff, Nat.reduceAdd, Nat.reduceLT, Nat.reduceMul, Nat.reduceSub, Nat.reduceLeDiff, Int.reduceLT, Int.reduceLE, Int.reduceEq, Option.isSome_some, implies_true, false_implies, Prod.mk.injEq, ne_eq, not_false_eq_true, not_true_eq_false, ge_iff_le, gt_iff_lt, Int.toNat_natCast, Int.reduceToNat, Int.cast_ofNat_Int, Int.natCast_nonneg, Try.results32]
    exact ⟨[], by simp, by simp, by simp [renV, renVs, renSegs, renSg, resMap0 h]⟩
  · simp only [absE, absL, absF, reduceCtorEq, ↓reduceIte, Nat.reduceEqDiff, Nat.reduceAdd, Nat.reduceLT, Nat.reduceMul, Nat.reduceSub, Nat.reduceLeDiff, Int.reduceLT, Int.reduceLE, Int.reduceEq, Option.isSome_some, implies_true, false_implies, Prod.mk.injEq, ne_eq, not_false_eq_true, not_true_eq_false, ge_iff_le, gt_iff_lt, Int.toNat_natCast, Int.reduceToNat, Int.cast_ofNat_Int, Int.natCast_nonneg, h, Try.results32]
    exact ⟨[], by simp, by simp, by simp [renV, renVs, renSegs, renSg, resMapN h]⟩
theorem specRightInnerMap_ok (n : Int) (t : List Int) (x y : Nat) (ht : Bytes 100 t) (hx : x < 256) (hy : y < 256) :
    ACalls Try.prog 31 [.agg (sqS n t), .i .u8 x, .i .u8 y] [] (fun v ms ns => v = resMap (lcode n t [(x : Int), (y : Int)] 2) (rightL n.toNat t x y) ∧ ms = [] ∧ ns = []) := by
  refine acalls_of_body mix Try.func31 rfl fok31 (Nat.le_of_ble_eq_true rfl) ?_
  unfold abody
  simp only [absE, absL, absF, reduceCtorEq, ↓reduceIte, Nat.reduceEqDiff, Nat.reduceAdd, Nat.reduceLT, Nat.reduceMul, Nat.reduceSub, Nat.reduceLeDiff, Int.reduceLT, Int.reduceLE, Int.reduceEq, Option.isSome_some, implies_true, false_implies, Prod.mk.injEq, ne_eq, not_false_eq_true, not_true_eq_false, ge_iff_le, gt_iff_lt, Int.toNat_natCast, Int.reduceToNat, Int.cast_ofNat_Int, Int.natCast_nonneg, Try.f31]
  refine CallsVia.args [(7, 0)] (l04Loop_ok n t [(x : Int), (y : Int)] 2 ht (bytes_cons hx (bytes_one hy)) (by omega)) (by simp) (by simp [Mem.get, assoc]) rfl rfl ?_
  rintro _ _ _ ⟨rfl, rfl, rfl⟩
  by_cases h : lcode n t [(x : Int), (y : Int)] 2 = 0
  · obtain ⟨hs, hh, _⟩ := lcode_zero h
    obtain ⟨N, rfl⟩ : ∃ N : Nat, n = N := ⟨n.toNat, by have := hs.1; omega⟩
    have hx2 : x < N := by have := hh 0 (by omega); simp at this; omega
    have hy2 : y < N := by have := hh 1 (by omega); simp at this; omega
    simp only [absE, absL, absF, reduceCtorEq, ↓reduceIte, Nat.reduceEqDiff, Nat.reduceAdd, Nat.reduceLT, Nat.reduceMul, Nat.reduceSub, Nat.reduceLeDiff, Int.reduceLT, Int.reduceLE, Int.reduceEq, Option.isSome_some, implies_true, false_implies, Prod.mk.injEq, ne_eq, not_false_eq_true, not_true_eq_false, ge_iff_le, gt_iff_lt, Int.toNat_natCast, Int.reduceToNat, Int.cast_ofNat_Int, Int.natCast_nonneg, h]
    refine CallsVia.none (specRightInner_ok N t x y ht hs hx2 hy2) ?_
    rintro _ _ _ ⟨rfl, rfl, rfl⟩
    simp only [absE, absL, absF, reduceCtorEq, ↓reduceIte, Nat.reduceEqDiff, Nat.reduceAdd, Nat.reduceLT, Nat.reduceMul, Nat.reduceSub, Nat.reduceLeDiff, Int.reduceLT, Int.reduceLE, Int.reduceEq, Option.isSome_some, implies_true, false_implies, Prod.mk.injEq, ne_eq, not_false_eq_true, not_true_eq_false, ge_iff_le, gt_iff_lt, Int.toNat_natCast, Int.reduceToNat, Int.cast_ofNat_Int, Int.natCast_nonneg, Try.results31]
    exact ⟨[], by simp, by simp, by simp [renV, renVs, renSegs, renSg, resMap0 h]⟩
  · simp only [absE, absL, absF, reduceCtorEq, ↓reduceIte, Nat.reduceEqDiff, Nat.reduceAdd, Nat.reduceLT, Nat.reduceMul, Nat.reduceSub, Nat.reduceLeDiff, Int.reduceLT, Int.reduceLE, Int.reduceEq, Option.isSome_some, implies_true, false_implies, Prod.mk.injEq, ne_eq, not_false_eq_true, not_true_eq_false, ge_iff_le, gt_iff_lt, Int.toNat_natCast, Int.reduceToNat, Int.cast_ofNat_Int, Int.natCast_nonneg, h, Try.results31]
    exact ⟨[], by simp, by simp, by simp [renV, renVs, renSegs, renSg, resMapN h]⟩

end Go.Proofs.Ytopkdpgbjpjgjaa
