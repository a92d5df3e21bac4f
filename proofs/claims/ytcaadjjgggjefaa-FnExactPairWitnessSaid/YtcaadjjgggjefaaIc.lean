/-
Contracts of functions of the given program, by the abstract walk.
-/
import Derived.Test.YtcaadjjgggjefaaAbsW
import Derived.Test.YtcaadjjgggjefaaIb
namespace Go.Proofs.Ytcaadjjgggjefaa
open Go Go.Abs
set_option linter.unusedVariables false
set_option linter.unusedSectionVars false
set_option linter.unusedSimpArgs false
set_option maxRecDepth 100000
theorem genL_fun {N : Nat} {t : List Int} {S : Nat → Prop} (hs : SqP N t) (hS : ∀ z, S z → z < N) : (fun z => (genL N t S).getD z false) = genB N t S := by
  funext z
  have hN := hs.le
  by_cases h : z < 10
  · exact genL_get h
  · have h1 : (genL N t S).getD z false = false := by simp [genL, show 10 ≤ z by omega]
    have h2 : genB N t S z = false := by
      cases hg : genB N t S z
      · rfl
      · have := Gen.lt hs hS (genB_iff.1 hg); omega
    rw [h1, h2]
theorem l07Made_ok (N : Nat) (t : List Int) (x y : Nat) (ht : Bytes 100 t) (hs : SqP N t) (hx : x < N) (hy : y < N) :
    ACalls Try.prog 51 [.agg (sqS N t), .i .i64 x, .i .i64 y] [] (fun v ms ns => v = .b (mgB N t x y) ∧ ms = [] ∧ ns = []) := by
  have hN := hs.le
  have hS : ∀ z, two x y z → z < N := fun z hz => by rcases hz with rfl | rfl <;> assumption
  have i1 : (x : Int) < 10 := by omega
  have i2 : (y : Int) < 10 := by omega
  have u1 : 0 + x * 1 < 10 := by omega
  have u2 : 0 + y * 1 < 10 := by omega
  have v1 : 0 + x * 1 + 1 ≤ 10 := by omega
  have v2 : 0 + y * 1 + 1 ≤ 10 := by omega
  have hc := l05Close_ok N t (((List.replicate 10 false).set (0 + x * 1) true).set (0 + y * 1) true) (two x y) ht hs (by simp) (fun z => by
    rw [getD_setb (by simp; omega), getD_setb (by simp; omega)]
    unfold two
    by_cases e1 : z = y
    · subst e1; simp
    · rw [if_neg (by omega)]
      by_cases e2 : z = x
      · subst e2; simp
      · rw [if_neg (by omega), getD_repf]; simp [e1, e2]) hS
  have hg := l07Grouped_ok N t (genL N t (two x y)) ht hs (by simp [genL]) (fun z hz => by
    have e := congrFun (genL_fun (S := two x y) hs hS) z
    rw [e] at hz
    exact Gen.lt hs hS (genB_iff.1 hz))
  rw [genL_fun hs hS] at hg
  refine acalls_of_body mix Try.func51 rfl fok51 (Nat.le_of_ble_eq_true rfl) ?_
  unfold abody
  simp only [absE, absL, absF, reduceCtorEq, ↓reduceIte, Nat.reduceEqDiff, Nat.reduceAdd, Nat.reduceLT, Nat.reduceMul, Nat.reduceSub, Nat.reduceLeDiff, Int.reduceLT, Int.reduceLE, Int.reduceEq, Option.isSome_some, implies_true, false_implies, Prod.mk.injEq, ne_eq, not_false_eq_true, not_true_eq_false, ge_iff_le, gt_iff_lt, Int.toNat_natCast, Int.reduceToNat, Int.cast_ofNat_Int, Int.natCast_nonneg, i1, i2, u1, u2, v1, v2, Try.f51]
  repeat refine And.intro (by omega) ?_
  repeat refine And.intro (by decide +kernel) ?_
  refine CallsX.none hc ?_
  simp only [absE, absL, absF, reduceCtorEq, ↓reduceIte, Nat.reduceEqDiff, Nat.reduceAdd, Nat.reduceLT, Nat.reduceMul, Nat.reduceSub, Nat.reduceLeDiff, Int.reduceLT, Int.reduceLE, Int.reduceEq, Option.isSome_some, implies_true, false_implies, Prod.mk.injEq, ne_eq, not_false_eq_true, not_true_eq_false, ge_iff_le, gt_iff_lt, Int.toNat_natCast, Int.reduceToNat, Int.cast_ofNat_Int, Int.natCast_nonneg]
  repeat refine And.intro (by decide +kernel) ?_
  refine CallsX.none hg ?_
  simp only [absE, absL, absF, reduceCtorEq, ↓reduceIte, Nat.reduceEqDiff, Nat.reduceAdd, Nat.reduceLT, Nat.reduceMul, Nat.reduceSub, Nat.reduceLeDiff, Int.reduceLT, Int.reduceLE, Int.reduceEq, Option.isSome_some, implies_true, false_implies, Prod.mk.injEq, ne_eq, not_false_eq_true, not_true_eq_false, ge_iff_le, gt_iff_lt, Int.toNat_natCast, Int.reduceToNat, Int.cast_ofNat_Int, Int.natCast_nonneg, Try.results51]
  exact ⟨[], by simp, by simp, by simp [renV, renVs, renSegs, renSg, mgB]⟩
theorem fnd_ge {f : Nat → Nat} {z k : Nat} (h : ∀ i, i < k → f i ≠ z) : ¬ fnd f z k < k := fun h1 => h _ h1 (fnd_at h1)
noncomputable def mgN (N : Nat) (t : List Int) (x y : Nat) : Nat := if mgB N t x y = true then 1 else 0
noncomputable def pwN (N : Nat) (t : List Int) : Nat := fnd (fun x => mgN N t x x) 0 N
noncomputable def pwitR (n : Int) (t : List Int) : AV := if loopB n t then (if pwN n.toNat t < n.toNat then .tup [.i .u8 (pwN n.toNat t : Nat), .i .i64 0] else .tup [.i .u8 0, .i .i64 4]) else .tup [.i .u8 0, .i .i64 1]
theorem pwit_form (n : Int) (t : List Int) (ht : Bytes 100 t) : ∃ s e, pwitR n t = .tup [.i .u8 s, .i .i64 e] := by
  unfold pwitR
  split
  · split
    · exact ⟨_, _, rfl⟩
    · exact ⟨_, _, rfl⟩
  · exact ⟨_, _, rfl⟩
theorem pwit_no {n : Int} {t : List Int} (h : loopB n t = false) : pwitR n t = .tup [.i .u8 0, .i .i64 1] := by simp [pwitR, h]
theorem mgN_t {N : Nat} {t : List Int} {x y : Nat} (h : mgB N t x y = true) : mgN N t x y ≠ 0 := by simp [mgN, h]
theorem mgN_f {N : Nat} {t : List Int} {x y : Nat} (h : mgB N t x y = false) : mgN N t x y = 0 := by simp [mgN, h]
theorem pwit_at {N : Nat} {t : List Int} {x : Nat} (h : loopB N t = true) (hx : x < N) (hm : mgB N t x x = false) (hp : ∀ j, j < x → mgB N t j j = true) : pwitR N t = .tup [.i .u8 x, .i .i64 0] := by
  have e : pwN N t = x := fnd_eq hx (mgN_f hm) fun j hj => mgN_t (hp j hj)
  unfold pwitR
  rw [if_pos h, show (N : Int).toNat = N by omega, e, if_pos hx]
theorem pwit_none {N : Nat} {t : List Int} (h : loopB N t = true) (hp : ∀ j, j < N → mgB N t j j = true) : pwitR N t = .tup [.i .u8 0, .i .i64 4] := by
  have e : ¬ pwN N t < N := fnd_ge fun j hj => mgN_t (hp j hj)
  unfold pwitR
  rw [if_pos h, show (N : Int).toNat = N by omega, if_neg e]
theorem specPowerWit_ok (n : Int) (t : List Int) (ht : Bytes 100 t) : ACalls Try.prog 15 [.agg (sqS n t)] [] (fun v ms ns => v = pwitR n t ∧ ms = [] ∧ ns = []) := by
  refine acalls_of_body mix Try.func15 rfl fok15 (Nat.le_of_ble_eq_true rfl) ?_
  unfold abody
  simp only [absE, absL, absF, reduceCtorEq, ↓reduceIte, Nat.reduceEqDiff, Nat.reduceAdd, Nat.reduceLT, Nat.reduceMul, Nat.reduceSub, Nat.reduceLeDiff, Int.reduceLT, Int.reduceLE, Int.reduceEq, Option.isSome_some, implies_true, false_implies, Prod.mk.injEq, ne_eq, not_false_eq_true, not_true_eq_false, ge_iff_le, gt_iff_lt, Int.toNat_natCast, Int.reduceToNat, Int.cast_ofNat_Int, Int.natCast_nonneg, Try.f15]
  refine CallsVia.none (l01Loop_ok n t ht) ?_
  rintro _ _ _ ⟨rfl, rfl, rfl⟩
  cases h1 : loopB n t
  · simp only [absE, absL, absF, reduceCtorEq, ↓reduceIte, Nat.reduceEqDiff, Nat.reduceAdd, Nat.reduceLT, Nat.reduceMul, Nat.reduceSub, Nat.reduceLeDiff, Int.reduceLT, Int.reduceLE, Int.reduceEq, Option.isSome_some, implies_true, false_implies, Prod.mk.injEq, ne_eq, not_false_eq_true, not_true_eq_false, ge_iff_le, gt_iff_lt, Int.toNat_natCast, Int.reduceToNat, Int.cast_ofNat_Int, Int.natCast_nonneg, Try.results15]
    exact ⟨[], by simp, by simp, by simp [renV, renVs, renSegs, renSg, pwit_no h1]⟩
  · have hs : SqP n t := by simp only [loopB, Bool.and_eq_true] at h1; exact sqB_iff.1 h1.1
    obtain ⟨N, rfl⟩ : ∃ N : Nat, n = N := ⟨n.toNat, by have := hs.1; omega⟩
    have hN := hs.le
    simp only [absE, absL, absF, reduceCtorEq, ↓reduceIte, Nat.reduceEqDiff, Nat.reduceAdd, Nat.reduceLT, Nat.reduceMul, Nat.reduceSub, Nat.reduceLeDiff, Int.reduceLT, Int.reduceLE, Int.reduceEq, Option.isSome_some, implies_true, false_implies, Prod.mk.injEq, ne_eq, not_false_eq_true, not_true_eq_false, ge_iff_le, gt_iff_lt, Int.toNat_natCast, Int.reduceToNat, Int.cast_ofNat_Int, Int.natCast_nonneg]
    refine awpLoop.intro (fun x : Nat => [(1, .ref (.ptr 1 0 0 0)), (4, .i .i64 x)]) (fun x => ⟨[], [((1, 0), .lv true (sqS N t))], 8⟩)
      (fun x => x ≤ N ∧ ∀ j, j < x → mgB N t j j = true) (fun x => N - x) 0 ⟨by omega, fun j hj => absurd hj (by omega)⟩ ⟨[((1,0),(1,0))], rfl, ?_, ?_⟩ ?_
    · simp [wkEnv, lk, renV, renAt, renTo]
    · simp [wkMem, wkLoc, Mem.get, assoc, renBlk, renSegs, renSg, renTo]
    · rintro x ⟨hx, hp⟩
      by_cases h : (x : Int) < N
      · have w := wrap_i64s (show x < 2 ^ 62 by omega)
        have w8 := wrap_u8n (show x < 256 by omega)
        simp only [absE, absL, absF, reduceCtorEq, ↓reduceIte, Nat.reduceEqDiff, Nat.reduceAdd, Nat.reduceLT, Nat.reduceMul, Nat.reduceSub, Nat.reduceLeDiff, Int.reduceLT, Int.reduceLE, Int.reduceEq, Option.isSome_some, implies_true, false_implies, Prod.mk.injEq, ne_eq, not_false_eq_true, not_true_eq_false, ge_iff_le, gt_iff_lt, Int.toNat_natCast, Int.reduceToNat, Int.cast_ofNat_Int, Int.natCast_nonneg, h]
        refine CallsVia.none (l07Made_ok N t x x ht hs (by omega) (by omega)) ?_
        rintro _ _ _ ⟨rfl, rfl, rfl⟩
        cases hm : mgB N t x x
        · simp only [absE, absL, absF, reduceCtorEq, ↓reduceIte, Nat.reduceEqDiff, Nat.reduceAdd, Nat.reduceLT, Nat.reduceMul, Nat.reduceSub, Nat.reduceLeDiff, Int.reduceLT, Int.reduceLE, Int.reduceEq, Option.isSome_some, implies_true, false_implies, Prod.mk.injEq, ne_eq, not_false_eq_true, not_true_eq_false, ge_iff_le, gt_iff_lt, Int.toNat_natCast, Int.reduceToNat, Int.cast_ofNat_Int, Int.natCast_nonneg, w8, Try.results15]
          exact ⟨[], by simp, by simp, by simp [renV, renVs, renSegs, renSg, pwit_at h1 (show x < N by omega) hm hp]⟩
        · simp only [absE, absL, absF, reduceCtorEq, ↓reduceIte, Nat.reduceEqDiff, Nat.reduceAdd, Nat.reduceLT, Nat.reduceMul, Nat.reduceSub, Nat.reduceLeDiff, Int.reduceLT, Int.reduceLE, Int.reduceEq, Option.isSome_some, implies_true, false_implies, Prod.mk.injEq, ne_eq, not_false_eq_true, not_true_eq_false, ge_iff_le, gt_iff_lt, Int.toNat_natCast, Int.reduceToNat, Int.cast_ofNat_Int, Int.natCast_nonneg]
          refine LoopNext.intro (x + 1) ⟨by omega, fun j hj => ?_⟩ (by omega) ⟨[((1,0),(1,0))], rfl, ?_, ?_⟩
          · by_cases ej : j = x
            · subst ej; exact hm
            · exact hp j (by omega)
          · simp [wkEnv, lk, renV, renAt, renTo, w]
          · simp [wkMem, wkLoc, Mem.get, assoc, renBlk, renSegs, renSg, renTo, w]
      · obtain rfl : x = N := by omega
        simp only [absE, absL, absF, reduceCtorEq, ↓reduceIte, Nat.reduceEqDiff, Nat.reduceAdd, Nat.reduceLT, Nat.reduceMul, Nat.reduceSub, Nat.reduceLeDiff, Int.reduceLT, Int.reduceLE, Int.reduceEq, Option.isSome_some, implies_true, false_implies, Prod.mk.injEq, ne_eq, not_false_eq_true, not_true_eq_false, ge_iff_le, gt_iff_lt, Int.toNat_natCast, Int.reduceToNat, Int.cast_ofNat_Int, Int.natCast_nonneg, h, Try.results15]
        exact ⟨[], by simp, by simp, by simp [renV, renVs, renSegs, renSg, pwit_none h1 hp]⟩
theorem implPowerWit_ok (n : Int) (t : List Int) (ht : Bytes 100 t) : ACalls Try.prog 17 [.agg (sqS n t)] [] (fun v ms ns => v = pwitR n t ∧ ms = [] ∧ ns = []) := by
  refine acalls_of_body mix Try.func17 rfl fok17 (Nat.le_of_ble_eq_true rfl) ?_
  unfold abody
  simp only [absE, absL, absF, reduceCtorEq, ↓reduceIte, Nat.reduceEqDiff, Nat.reduceAdd, Nat.reduceLT, Nat.reduceMul, Nat.reduceSub, Nat.reduceLeDiff, Int.reduceLT, Int.reduceLE, Int.reduceEq, Option.isSome_some, implies_true, false_implies, Prod.mk.injEq, ne_eq, not_false_eq_true, not_true_eq_false, ge_iff_le, gt_iff_lt, Int.toNat_natCast, Int.reduceToNat, Int.cast_ofNat_Int, Int.natCast_nonneg, Try.f17]
  refine CallsVia.none (isLoop_ok n t ht) ?_
  rintro _ _ _ ⟨rfl, rfl, rfl⟩
  cases h1 : loopB n t
  · simp only [absE, absL, absF, reduceCtorEq, ↓reduceIte, Nat.reduceEqDiff, Nat.reduceAdd, Nat.reduceLT, Nat.reduceMul, Nat.reduceSub, Nat.reduceLeDiff, Int.reduceLT, Int.reduceLE, Int.reduceEq, Option.isSome_some, implies_true, false_implies, Prod.mk.injEq, ne_eq, not_false_eq_true, not_true_eq_false, ge_iff_le, gt_iff_lt, Int.toNat_natCast, Int.reduceToNat, Int.cast_ofNat_Int, Int.natCast_nonneg, Try.results17]
    exact ⟨[], by simp, by simp, by simp [renV, renVs, renSegs, renSg, pwit_no h1]⟩
  · have hs : SqP n t := by simp only [loopB, Bool.and_eq_true] at h1; exact sqB_iff.1 h1.1
    obtain ⟨N, rfl⟩ : ∃ N : Nat, n = N := ⟨n.toNat, by have := hs.1; omega⟩
    have hN := hs.le
    simp only [absE, absL, absF, reduceCtorEq, ↓reduceIte, Nat.reduceEqDiff, Nat.reduceAdd, Nat.reduceLT, Nat.reduceMul, Nat.reduceSub, Nat.reduceLeDiff, Int.reduceLT, Int.reduceLE, Int.reduceEq, Option.isSome_some, implies_true, false_implies, Prod.mk.injEq, ne_eq, not_false_eq_true, not_true_eq_false, ge_iff_le, gt_iff_lt, Int.toNat_natCast, Int.reduceToNat, Int.cast_ofNat_Int, Int.natCast_nonneg]
    refine CallsVia.none (elements_ok N t hN) ?_
    rintro _ _ _ ⟨rfl, rfl, rfl⟩
    simp only [absE, absL, absF, reduceCtorEq, ↓reduceIte, Nat.reduceEqDiff, Nat.reduceAdd, Nat.reduceLT, Nat.reduceMul, Nat.reduceSub, Nat.reduceLeDiff, Int.reduceLT, Int.reduceLE, Int.reduceEq, Option.isSome_some, implies_true, false_implies, Prod.mk.injEq, ne_eq, not_false_eq_true, not_true_eq_false, ge_iff_le, gt_iff_lt, Int.toNat_natCast, Int.reduceToNat, Int.cast_ofNat_Int, Int.natCast_nonneg]
    refine awpLoop.intro (fun x : Nat => [(1, .ref (.ptr 1 0 0 0)), (10, .ref (.sl 8 0 0 0 N 1)), (11, .i .i64 N), (12, .i .i64 x)]) (fun x => ⟨[], [((1, 0), .lv true (sqS N t)), ((8, 0), .lv true ([(0, .ints .u8 N (bytesTo N))]))], 11⟩)
      (fun x => x ≤ N ∧ ∀ j, j < x → mgB N t j j = true) (fun x => N - x) 0 ⟨by omega, fun j hj => absurd hj (by omega)⟩ ⟨[((1,0),(1,0)), ((8,0),(8,0))], rfl, ?_, ?_⟩ ?_
    · simp [wkEnv, lk, renV, renAt, renTo]
    · simp [wkMem, wkLoc, Mem.get, assoc, renBlk, renSegs, renSg, renTo]
    · rintro x ⟨hx, hp⟩
      by_cases h : (x : Int) < N
      · have w := wrap_i64s (show x < 2 ^ 62 by omega)
        have b1 : (bytesTo N).getD (0 + x * 1) 0 = (x : Int) := by rw [Nat.zero_add, Nat.mul_one]; exact bytesTo_get (by omega)
        have v1 : 0 + x * 1 < N := by omega
        simp only [absE, absL, absF, reduceCtorEq, ↓reduceIte, Nat.reduceEqDiff, Nat.reduceAdd, Nat.reduceLT, Nat.reduceMul, Nat.reduceSub, Nat.reduceLeDiff, Int.reduceLT, Int.reduceLE, Int.reduceEq, Option.isSome_some, implies_true, false_implies, Prod.mk.injEq, ne_eq, not_false_eq_true, not_true_eq_false, ge_iff_le, gt_iff_lt, Int.toNat_natCast, Int.reduceToNat, Int.cast_ofNat_Int, Int.natCast_nonneg, h, b1, v1]
        refine CallsVia.none (makesGroup_ok N t x x ht hs (by omega) (by omega)) ?_
        rintro _ _ _ ⟨rfl, rfl, rfl⟩
        cases hm : mgB N t x x
        · simp only [absE, absL, absF, reduceCtorEq, ↓reduceIte, Nat.reduceEqDiff, Nat.reduceAdd, Nat.reduceLT, Nat.reduceMul, Nat.reduceSub, Nat.reduceLeDiff, Int.reduceLT, Int.reduceLE, Int.reduceEq, Option.isSome_some, implies_true, false_implies, Prod.mk.injEq, ne_eq, not_false_eq_true, not_true_eq_false, ge_iff_le, gt_iff_lt, Int.toNat_natCast, Int.reduceToNat, Int.cast_ofNat_Int, Int.natCast_nonneg, Try.results17]
          exact ⟨[], by simp, by simp, by simp [renV, renVs, renSegs, renSg, pwit_at h1 (show x < N by omega) hm hp]⟩
        · simp only [absE, absL, absF, reduceCtorEq, ↓reduceIte, Nat.reduceEqDiff, Nat.reduceAdd, Nat.reduceLT, Nat.reduceMul, Nat.reduceSub, Nat.reduceLeDiff, Int.reduceLT, Int.reduceLE, Int.reduceEq, Option.isSome_some, implies_true, false_implies, Prod.mk.injEq, ne_eq, not_false_eq_true, not_true_eq_false, ge_iff_le, gt_iff_lt, Int.toNat_natCast, Int.reduceToNat, Int.cast_ofNat_Int, Int.natCast_nonneg]
          refine LoopNext.intro (x + 1) ⟨by omega, fun j hj => ?_⟩ (by omega) ⟨[((1,0),(1,0)), ((8,0),(8,0))], rfl, ?_, ?_⟩
          · by_cases ej : j = x
            · subst ej; exact hm
            · exact hp j (by omega)
          · simp [wkEnv, lk, renV, renAt, renTo, w]
          · simp [wkMem, wkLoc, Mem.get, assoc, renBlk, renSegs, renSg, renTo, w]
      · obtain rfl : x = N := by omega
        simp only [absE, absL, absF, reduceCtorEq, ↓reduceIte, Nat.reduceEqDiff, Nat.reduceAdd, Nat.reduceLT, Nat.reduceMul, Nat.reduceSub, Nat.reduceLeDiff, Int.reduceLT, Int.reduceLE, Int.reduceEq, Option.isSome_some, implies_true, false_implies, Prod.mk.injEq, ne_eq, not_false_eq_true, not_true_eq_false, ge_iff_le, gt_iff_lt, Int.toNat_natCast, Int.reduceToNat, Int.cast_ofNat_Int, Int.natCast_nonneg, h, Try.results17]
        exact ⟨[], by simp, by simp, by simp [renV, renVs, renSegs, renSg, pwit_none h1 hp]⟩

end Go.Proofs.Ytcaadjjgggjefaa
