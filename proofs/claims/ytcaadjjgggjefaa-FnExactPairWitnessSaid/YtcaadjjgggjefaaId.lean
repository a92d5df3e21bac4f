/-
Contracts of functions of the given program, by the abstract walk.
-/
import Derived.Test.YtcaadjjgggjefaaAbsW
import Derived.Test.YtcaadjjgggjefaaIc
import Derived.Test.YtcaadjjgggjefaaDq
namespace Go.Proofs.Ytcaadjjgggjefaa
open Go Go.Abs
set_option linter.unusedVariables false
set_option linter.unusedSectionVars false
set_option linter.unusedSimpArgs false
set_option maxRecDepth 100000
noncomputable def prow (N : Nat) (t : List Int) (x : Nat) : Nat := fnd (mgN N t x) 0 N
noncomputable def prx (N : Nat) (t : List Int) : Nat := fnd (fun x => if prow N t x < N then 0 else 1) 0 N
noncomputable def pgB (n : Int) (t : List Int) : Bool := loopB n t && decide (prx n.toNat t < n.toNat)
noncomputable def prL (N : Nat) (t : List Int) : List Int := [(prx N t : Int), (prow N t (prx N t) : Int)]
theorem prL_len {N : Nat} {t : List Int} : (prL N t).length < 2 ^ 40 := by show 2 < 2 ^ 40; decide
noncomputable def prC (n : Int) (t : List Int) : Int := if loopB n t then 4 else 1
theorem pr_at {N : Nat} {t : List Int} {x y : Nat} (h : loopB N t = true) (hx : x < N) (hy : y < N) (hm : mgB N t x y = false) (hp : ∀ j, j < x → ∀ k, k < N → mgB N t j k = true) (hq : ∀ k, k < y → mgB N t x k = true) :
    pgB N t = true ∧ prL N t = [(x : Int), (y : Int)] := by
  have e1 : prow N t x = y := fnd_eq hy (mgN_f hm) fun j hj => mgN_t (hq j hj)
  have e2 : prx N t = x := by
    refine fnd_eq hx (by rw [e1, if_pos hy]) fun j hj => ?_
    have e3 : ¬ prow N t j < N := fnd_ge fun k hk => mgN_t (hp j hj k hk)
    rw [if_neg e3]; decide
  refine ⟨?_, by rw [prL, e2, e1]⟩
  rw [pgB, h, show (N : Int).toNat = N by omega, e2, decide_eq_true hx]; rfl
theorem pr_none {N : Nat} {t : List Int} (hp : ∀ j, j < N → ∀ k, k < N → mgB N t j k = true) : pgB N t = false := by
  have e2 : ¬ prx N t < N := fnd_ge fun j hj => by
    have e3 : ¬ prow N t j < N := fnd_ge fun k hk => mgN_t (hp j hj k hk)
    rw [if_neg e3]; decide
  rw [pgB, show (N : Int).toNat = N by omega, decide_eq_false e2, Bool.and_false]
theorem specPair_key (n : Int) (t : List Int) (ht : Bytes 100 t) : ACalls Try.prog 18 [.agg (sqS n t)] [] (fun v ms ns => (pgB n t = true → v = listV (prL n.toNat t) ∧ ms = [] ∧ ns = listN (prL n.toNat t)) ∧ (pgB n t = false → v = .tup [.ref .nils, .i .i64 (prC n t)] ∧ ms = [] ∧ ns = [])) := by
  refine acalls_of_body mix Try.func18 rfl fok18 (Nat.le_of_ble_eq_true rfl) ?_
  unfold abody
  simp only [absE, absL, absF, reduceCtorEq, ↓reduceIte, Nat.reduceEqDiff, Nat.reduceAdd, Nat.reduceLT, Nat.reduceMul, Nat.reduceSub, Nat.reduceLeDiff, Int.reduceLT, Int.reduceLE, Int.reduceEq, Option.isSome_some, implies_true, false_implies, Prod.mk.injEq, ne_eq, not_false_eq_true, not_true_eq_false, ge_iff_le, gt_iff_lt, Int.toNat_natCast, Int.reduceToNat, Int.cast_ofNat_Int, Int.natCast_nonneg, Try.f18]
  refine CallsVia.none (l01Loop_ok n t ht) ?_
  rintro _ _ _ ⟨rfl, rfl, rfl⟩
  cases h1 : loopB n t
  · simp only [absE, absL, absF, reduceCtorEq, ↓reduceIte, Nat.reduceEqDiff, Nat.reduceAdd, Nat.reduceLT, Nat.reduceMul, Nat.reduceSub, Nat.reduceLeDiff, Int.reduceLT, Int.reduceLE, Int.reduceEq, Option.isSome_some, implies_true, false_implies, Prod.mk.injEq, ne_eq, not_false_eq_true, not_true_eq_false, ge_iff_le, gt_iff_lt, Int.toNat_natCast, Int.reduceToNat, Int.cast_ofNat_Int, Int.natCast_nonneg, Try.results18]
    have e : pgB n t = false := by rw [pgB, h1]; rfl
    exact ⟨[], by simp, by simp, by rw [e]; exact fun h => absurd h (by decide), fun _ => by simp [renV, renVs, renAt, prC, h1]⟩
  · have hs : SqP n t := by simp only [loopB, Bool.and_eq_true] at h1; exact sqB_iff.1 h1.1
    obtain ⟨N, rfl⟩ : ∃ N : Nat, n = N := ⟨n.toNat, by have := hs.1; omega⟩
    have hN := hs.le
    simp only [absE, absL, absF, reduceCtorEq, ↓reduceIte, Nat.reduceEqDiff, Nat.reduceAdd, Nat.reduceLT, Nat.reduceMul, Nat.reduceSub, Nat.reduceLeDiff, Int.reduceLT, Int.reduceLE, Int.reduceEq, Option.isSome_some, implies_true, false_implies, Prod.mk.injEq, ne_eq, not_false_eq_true, not_true_eq_false, ge_iff_le, gt_iff_lt, Int.toNat_natCast, Int.reduceToNat, Int.cast_ofNat_Int, Int.natCast_nonneg]
    first
      | (refine CallsVia.none (elements_ok N t hN) ?_; rintro _ _ _ ⟨rfl, rfl, rfl⟩; simp only [absE, absL, absF, reduceCtorEq, ↓reduceIte, Nat.reduceEqDiff, Nat.reduceAdd, Nat.reduceLT, Nat.reduceMul, Nat.reduceSub, Nat.reduceLeDiff, Int.reduceLT, Int.reduceLE, Int.reduceEq, Option.isSome_some, implies_true, false_implies, Prod.mk.injEq, ne_eq, not_false_eq_true, not_true_eq_false, ge_iff_le, gt_iff_lt, Int.toNat_natCast, Int.reduceToNat, Int.cast_ofNat_Int, Int.natCast_nonneg])
      | skip
    refine awpLoop.intro (fun x : Nat => [(1, .ref (.ptr 1 0 0 0)), (4, .i .i64 x)]) (fun x => ⟨[], [((1, 0), .lv true (sqS N t))], 8⟩)
      (fun x => x ≤ N ∧ ∀ j, j < x → ∀ k, k < N → mgB N t j k = true) (fun x => N - x) 0 ⟨by omega, fun j hj => absurd hj (by omega)⟩ ⟨[((1,0),(1,0))], rfl, ?_, ?_⟩ ?_
    · simp [wkEnv, lk, renV, renAt, renTo]
    · simp [wkMem, wkLoc, Mem.get, assoc, renBlk, renSegs, renSg, renTo]
    · rintro x ⟨hx, hp⟩
      by_cases h : (x : Int) < N
      · have w := wrap_i64s (show x < 2 ^ 62 by omega)
        have b1 : (bytesTo N).getD (0 + x * 1) 0 = (x : Int) := by rw [Nat.zero_add, Nat.mul_one]; exact bytesTo_get (by omega)
        have v1 : 0 + x * 1 < N := by omega
        have wx := wrap_i64n (show x < 2 ^ 62 by omega)
        simp only [absE, absL, absF, reduceCtorEq, ↓reduceIte, Nat.reduceEqDiff, Nat.reduceAdd, Nat.reduceLT, Nat.reduceMul, Nat.reduceSub, Nat.reduceLeDiff, Int.reduceLT, Int.reduceLE, Int.reduceEq, Option.isSome_some, implies_true, false_implies, Prod.mk.injEq, ne_eq, not_false_eq_true, not_true_eq_false, ge_iff_le, gt_iff_lt, Int.toNat_natCast, Int.reduceToNat, Int.cast_ofNat_Int, Int.natCast_nonneg, h, b1, v1]
        first
          | (refine CallsVia.none (elements_ok N t hN) ?_; rintro _ _ _ ⟨rfl, rfl, rfl⟩; simp only [absE, absL, absF, reduceCtorEq, ↓reduceIte, Nat.reduceEqDiff, Nat.reduceAdd, Nat.reduceLT, Nat.reduceMul, Nat.reduceSub, Nat.reduceLeDiff, Int.reduceLT, Int.reduceLE, Int.reduceEq, Option.isSome_some, implies_true, false_implies, Prod.mk.injEq, ne_eq, not_false_eq_true, not_true_eq_false, ge_iff_le, gt_iff_lt, Int.toNat_natCast, Int.reduceToNat, Int.cast_ofNat_Int, Int.natCast_nonneg])
          | skip
        refine awpLoop.intro (fun y : Nat => [(1, .ref (.ptr 1 0 0 0)), (4, .i .i64 x), (5, .i .i64 y)]) (fun y => ⟨[], [((1, 0), .lv true (sqS N t))], 13⟩)
          (fun y => y ≤ N ∧ ∀ k, k < y → mgB N t x k = true) (fun y => N - y) 0 ⟨by omega, fun j hj => absurd hj (by omega)⟩ ⟨[((1,0),(1,0))], rfl, ?_, ?_⟩ ?_
        · simp [wkEnv, lk, renV, renAt, renTo]
        · simp [wkMem, wkLoc, Mem.get, assoc, renBlk, renSegs, renSg, renTo]
        · rintro y ⟨hy, hq⟩
          by_cases h' : (y : Int) < N
          · have w' := wrap_i64s (show y < 2 ^ 62 by omega)
            have b2 : (bytesTo N).getD (0 + y * 1) 0 = (y : Int) := by rw [Nat.zero_add, Nat.mul_one]; exact bytesTo_get (by omega)
            have v2 : 0 + y * 1 < N := by omega
            have wy := wrap_i64n (show y < 2 ^ 62 by omega)
            simp only [absE, absL, absF, reduceCtorEq, ↓reduceIte, Nat.reduceEqDiff, Nat.reduceAdd, Nat.reduceLT, Nat.reduceMul, Nat.reduceSub, Nat.reduceLeDiff, Int.reduceLT, Int.reduceLE, Int.reduceEq, Option.isSome_some, implies_true, false_implies, Prod.mk.injEq, ne_eq, not_false_eq_true, not_true_eq_false, ge_iff_le, gt_iff_lt, Int.toNat_natCast, Int.reduceToNat, Int.cast_ofNat_Int, Int.natCast_nonneg, h', b2, v2]
            refine CallsVia.none (l07Made_ok N t x y ht hs (by omega) (by omega)) ?_
            rintro _ _ _ ⟨rfl, rfl, rfl⟩
            cases hm : mgB N t x y
            · simp only [absE, absL, absF, reduceCtorEq, ↓reduceIte, Nat.reduceEqDiff, Nat.reduceAdd, Nat.reduceLT, Nat.reduceMul, Nat.reduceSub, Nat.reduceLeDiff, Int.reduceLT, Int.reduceLE, Int.reduceEq, Option.isSome_some, implies_true, false_implies, Prod.mk.injEq, ne_eq, not_false_eq_true, not_true_eq_false, ge_iff_le, gt_iff_lt, Int.toNat_natCast, Int.reduceToNat, Int.cast_ofNat_Int, Int.natCast_nonneg, wx, wy, Try.results18]
              obtain ⟨k1, k2⟩ := pr_at h1 (show x < N by omega) (show y < N by omega) hm hp hq
              have k2' : prL (N : Int).toNat t = [(x : Int), (y : Int)] := k2
              refine ⟨[(24, 0)], by simp, by simp, fun _ => ?_, by rw [k1]; exact fun h => absurd h (by decide)⟩
              rw [k2']
              exact ⟨by simp [renV, renVs, renAt, renFin, idx, listV], by simp, by simp [renBlk, renSegs, renSg, Mem.get, assoc, listN, zeroArr, spl]⟩
            · simp only [absE, absL, absF, reduceCtorEq, ↓reduceIte, Nat.reduceEqDiff, Nat.reduceAdd, Nat.reduceLT, Nat.reduceMul, Nat.reduceSub, Nat.reduceLeDiff, Int.reduceLT, Int.reduceLE, Int.reduceEq, Option.isSome_some, implies_true, false_implies, Prod.mk.injEq, ne_eq, not_false_eq_true, not_true_eq_false, ge_iff_le, gt_iff_lt, Int.toNat_natCast, Int.reduceToNat, Int.cast_ofNat_Int, Int.natCast_nonneg]
              refine LoopNext.intro (y + 1) ⟨by omega, fun j hj => ?_⟩ (by omega) ⟨[((1,0),(1,0))], rfl, ?_, ?_⟩
              · by_cases ej : j = y
                · subst ej; exact hm
                · exact hq j (by omega)
              · simp [wkEnv, lk, renV, renAt, renTo, w']
              · simp [wkMem, wkLoc, Mem.get, assoc, renBlk, renSegs, renSg, renTo, w']
          · obtain rfl : y = N := by omega
            simp only [absE, absL, absF, reduceCtorEq, ↓reduceIte, Nat.reduceEqDiff, Nat.reduceAdd, Nat.reduceLT, Nat.reduceMul, Nat.reduceSub, Nat.reduceLeDiff, Int.reduceLT, Int.reduceLE, Int.reduceEq, Option.isSome_some, implies_true, false_implies, Prod.mk.injEq, ne_eq, not_false_eq_true, not_true_eq_false, ge_iff_le, gt_iff_lt, Int.toNat_natCast, Int.reduceToNat, Int.cast_ofNat_Int, Int.natCast_nonneg, h', w]
            refine LoopNext.intro (x + 1) ⟨by omega, fun j hj => ?_⟩ (by omega) ⟨[((1,0),(1,0))], rfl, ?_, ?_⟩
            · by_cases ej : j = x
              · subst ej; exact hq
              · exact hp j (by omega)
            · simp [wkEnv, lk, renV, renAt, renTo, w]
            · simp [wkMem, wkLoc, Mem.get, assoc, renBlk, renSegs, renSg, renTo, w]
      · obtain rfl : x = N := by omega
        simp only [absE, absL, absF, reduceCtorEq, ↓reduceIte, Nat.reduceEqDiff, Nat.reduceAdd, Nat.reduceLT, Nat.reduceMul, Nat.reduceSub, Nat.reduceLeDiff, Int.reduceLT, Int.reduceLE, Int.reduceEq, Option.isSome_some, implies_true, false_implies, Prod.mk.injEq, ne_eq, not_false_eq_true, not_true_eq_false, ge_iff_le, gt_iff_lt, Int.toNat_natCast, Int.reduceToNat, Int.cast_ofNat_Int, Int.natCast_nonneg, h, Try.results18]
        have e := pr_none hp
        exact ⟨[], by simp, by simp, by rw [e]; exact fun h => absurd h (by decide), fun _ => by simp [renV, renVs, renAt, prC, h1]⟩
theorem specPair_yes (n : Int) (t : List Int) (ht : Bytes 100 t) (h : pgB n t = true) : ACalls Try.prog 18 [.agg (sqS n t)] [] (fun v ms ns => v = listV (prL n.toNat t) ∧ ms = [] ∧ ns = listN (prL n.toNat t)) :=
  (specPair_key n t ht).mono fun v ms ns hh => hh.1 h
theorem specPair_no (n : Int) (t : List Int) (ht : Bytes 100 t) (h : pgB n t = false) : ACalls Try.prog 18 [.agg (sqS n t)] [] (fun v ms ns => v = .tup [.ref .nils, .i .i64 (prC n t)] ∧ ms = [] ∧ ns = []) :=
  (specPair_key n t ht).mono fun v ms ns hh => hh.2 h
theorem implPair_key (n : Int) (t : List Int) (ht : Bytes 100 t) : ACalls Try.prog 19 [.agg (sqS n t)] [] (fun v ms ns => (pgB n t = true → v = listV (prL n.toNat t) ∧ ms = [] ∧ ns = listN (prL n.toNat t)) ∧ (pgB n t = false → v = .tup [.ref .nils, .i .i64 (prC n t)] ∧ ms = [] ∧ ns = [])) := by
  refine acalls_of_body mix Try.func19 rfl fok19 (Nat.le_of_ble_eq_true rfl) ?_
  unfold abody
  simp only [absE, absL, absF, reduceCtorEq, ↓reduceIte, Nat.reduceEqDiff, Nat.reduceAdd, Nat.reduceLT, Nat.reduceMul, Nat.reduceSub, Nat.reduceLeDiff, Int.reduceLT, Int.reduceLE, Int.reduceEq, Option.isSome_some, implies_true, false_implies, Prod.mk.injEq, ne_eq, not_false_eq_true, not_true_eq_false, ge_iff_le, gt_iff_lt, Int.toNat_natCast, Int.reduceToNat, Int.cast_ofNat_Int, Int.natCast_nonneg, Try.f19]
  refine CallsVia.none (isLoop_ok n t ht) ?_
  rintro _ _ _ ⟨rfl, rfl, rfl⟩
  cases h1 : loopB n t
  · simp only [absE, absL, absF, reduceCtorEq, ↓reduceIte, Nat.reduceEqDiff, Nat.reduceAdd, Nat.reduceLT, Nat.reduceMul, Nat.reduceSub, Nat.reduceLeDiff, Int.reduceLT, Int.reduceLE, Int.reduceEq, Option.isSome_some, implies_true, false_implies, Prod.mk.injEq, ne_eq, not_false_eq_true, not_true_eq_false, ge_iff_le, gt_iff_lt, Int.toNat_natCast, Int.reduceToNat, Int.cast_ofNat_Int, Int.natCast_nonneg, Try.results19]
    have e : pgB n t = false := by rw [pgB, h1]; rfl
    exact ⟨[], by simp, by simp, by rw [e]; exact fun h => absurd h (by decide), fun _ => by simp [renV, renVs, renAt, prC, h1]⟩
  · have hs : SqP n t := by simp only [loopB, Bool.and_eq_true] at h1; exact sqB_iff.1 h1.1
    obtain ⟨N, rfl⟩ : ∃ N : Nat, n = N := ⟨n.toNat, by have := hs.1; omega⟩
    have hN := hs.le
    simp only [absE, absL, absF, reduceCtorEq, ↓reduceIte, Nat.reduceEqDiff, Nat.reduceAdd, Nat.reduceLT, Nat.reduceMul, Nat.reduceSub, Nat.reduceLeDiff, Int.reduceLT, Int.reduceLE, Int.reduceEq, Option.isSome_some, implies_true, false_implies, Prod.mk.injEq, ne_eq, not_false_eq_true, not_true_eq_false, ge_iff_le, gt_iff_lt, Int.toNat_natCast, Int.reduceToNat, Int.cast_ofNat_Int, Int.natCast_nonneg]
    first
      | (refine CallsVia.none (elements_ok N t hN) ?_; rintro _ _ _ ⟨rfl, rfl, rfl⟩; simp only [absE, absL, absF, reduceCtorEq, ↓reduceIte, Nat.reduceEqDiff, Nat.reduceAdd, Nat.reduceLT, Nat.reduceMul, Nat.reduceSub, Nat.reduceLeDiff, Int.reduceLT, Int.reduceLE, Int.reduceEq, Option.isSome_some, implies_true, false_implies, Prod.mk.injEq, ne_eq, not_false_eq_true, not_true_eq_false, ge_iff_le, gt_iff_lt, Int.toNat_natCast, Int.reduceToNat, Int.cast_ofNat_Int, Int.natCast_nonneg])
      | skip
    refine awpLoop.intro (fun x : Nat => [(1, .ref (.ptr 1 0 0 0)), (12, .ref (.sl 8 0 0 0 N 1)), (13, .i .i64 N), (14, .i .i64 x)]) (fun x => ⟨[], [((1, 0), .lv true (sqS N t)), ((8, 0), .lv true ([(0, .ints .u8 N (bytesTo N))]))], 11⟩)
      (fun x => x ≤ N ∧ ∀ j, j < x → ∀ k, k < N → mgB N t j k = true) (fun x => N - x) 0 ⟨by omega, fun j hj => absurd hj (by omega)⟩ ⟨[((1,0),(1,0)), ((8,0),(8,0))], rfl, ?_, ?_⟩ ?_
    · simp [wkEnv, lk, renV, renAt, renTo]
    · simp [wkMem, wkLoc, Mem.get, assoc, renBlk, renSegs, renSg, renTo]
    · rintro x ⟨hx, hp⟩
      by_cases h : (x : Int) < N
      · have w := wrap_i64s (show x < 2 ^ 62 by omega)
        have b1 : (bytesTo N).getD (0 + x * 1) 0 = (x : Int) := by rw [Nat.zero_add, Nat.mul_one]; exact bytesTo_get (by omega)
        have v1 : 0 + x * 1 < N := by omega
        have wx := wrap_i64n (show x < 2 ^ 62 by omega)
        simp only [absE, absL, absF, reduceCtorEq, ↓reduceIte, Nat.reduceEqDiff, Nat.reduceAdd, Nat.reduceLT, Nat.reduceMul, Nat.reduceSub, Nat.reduceLeDiff, Int.reduceLT, Int.reduceLE, Int.reduceEq, Option.isSome_some, implies_true, false_implies, Prod.mk.injEq, ne_eq, not_false_eq_true, not_true_eq_false, ge_iff_le, gt_iff_lt, Int.toNat_natCast, Int.reduceToNat, Int.cast_ofNat_Int, Int.natCast_nonneg, h, b1, v1]
        first
          | (refine CallsVia.none (elements_ok N t hN) ?_; rintro _ _ _ ⟨rfl, rfl, rfl⟩; simp only [absE, absL, absF, reduceCtorEq, ↓reduceIte, Nat.reduceEqDiff, Nat.reduceAdd, Nat.reduceLT, Nat.reduceMul, Nat.reduceSub, Nat.reduceLeDiff, Int.reduceLT, Int.reduceLE, Int.reduceEq, Option.isSome_some, implies_true, false_implies, Prod.mk.injEq, ne_eq, not_false_eq_true, not_true_eq_false, ge_iff_le, gt_iff_lt, Int.toNat_natCast, Int.reduceToNat, Int.cast_ofNat_Int, Int.natCast_nonneg])
          | skip
        refine awpLoop.intro (fun y : Nat => [(1, .ref (.ptr 1 0 0 0)), (12, .ref (.sl 8 0 0 0 N 1)), (13, .i .i64 N), (14, .i .i64 x), (5, .i .u8 x), (19, .ref (.sl 16 0 0 0 N 1)), (20, .i .i64 N), (21, .i .i64 y)]) (fun y => ⟨[], [((1, 0), .lv true (sqS N t)), ((8, 0), .lv true ([(0, .ints .u8 N (bytesTo N))])), ((16, 0), .lv true ([(0, .ints .u8 N (bytesTo N))]))], 19⟩)
          (fun y => y ≤ N ∧ ∀ k, k < y → mgB N t x k = true) (fun y => N - y) 0 ⟨by omega, fun j hj => absurd hj (by omega)⟩ ⟨[((1,0),(1,0)), ((8,0),(8,0)), ((16,0),(16,0))], rfl, ?_, ?_⟩ ?_
        · simp [wkEnv, lk, renV, renAt, renTo]
        · simp [wkMem, wkLoc, Mem.get, assoc, renBlk, renSegs, renSg, renTo]
        · rintro y ⟨hy, hq⟩
          by_cases h' : (y : Int) < N
          · have w' := wrap_i64s (show y < 2 ^ 62 by omega)
            have b2 : (bytesTo N).getD (0 + y * 1) 0 = (y : Int) := by rw [Nat.zero_add, Nat.mul_one]; exact bytesTo_get (by omega)
            have v2 : 0 + y * 1 < N := by omega
            have wy := wrap_i64n (show y < 2 ^ 62 by omega)
            simp only [absE, absL, absF, reduceCtorEq, ↓reduceIte, Nat.reduceEqDiff, Nat.reduceAdd, Nat.reduceLT, Nat.reduceMul, Nat.reduceSub, Nat.reduceLeDiff, Int.reduceLT, Int.reduceLE, Int.reduceEq, Option.isSome_some, implies_true, false_implies, Prod.mk.injEq, ne_eq, not_false_eq_true, not_true_eq_false, ge_iff_le, gt_iff_lt, Int.toNat_natCast, Int.reduceToNat, Int.cast_ofNat_Int, Int.natCast_nonneg, h', b2, v2]
            refine CallsVia.none (makesGroup_ok N t x y ht hs (by omega) (by omega)) ?_
            rintro _ _ _ ⟨rfl, rfl, rfl⟩
            cases hm : mgB N t x y
            · simp only [absE, absL, absF, reduceCtorEq, ↓reduceIte, Nat.reduceEqDiff, Nat.reduceAdd, Nat.reduceLT, Nat.reduceMul, Nat.reduceSub, Nat.reduceLeDiff, Int.reduceLT, Int.reduceLE, Int.reduceEq, Option.isSome_some, implies_true, false_implies, Prod.mk.injEq, ne_eq, not_false_eq_true, not_true_eq_false, ge_iff_le, gt_iff_lt, Int.toNat_natCast, Int.reduceToNat, Int.cast_ofNat_Int, Int.natCast_nonneg, wx, wy, Try.results19]
              obtain ⟨k1, k2⟩ := pr_at h1 (show x < N by omega) (show y < N by omega) hm hp hq
              have k2' : prL (N : Int).toNat t = [(x : Int), (y : Int)] := k2
              refine ⟨[(32, 0)], by simp, by simp, fun _ => ?_, by rw [k1]; exact fun h => absurd h (by decide)⟩
              rw [k2']
              exact ⟨by simp [renV, renVs, renAt, renFin, idx, listV], by simp, by simp [renBlk, renSegs, renSg, Mem.get, assoc, listN, zeroArr, spl]⟩
            · simp only [absE, absL, absF, reduceCtorEq, ↓reduceIte, Nat.reduceEqDiff, Nat.reduceAdd, Nat.reduceLT, Nat.reduceMul, Nat.reduceSub, Nat.reduceLeDiff, Int.reduceLT, Int.reduceLE, Int.reduceEq, Option.isSome_some, implies_true, false_implies, Prod.mk.injEq, ne_eq, not_false_eq_true, not_true_eq_false, ge_iff_le, gt_iff_lt, Int.toNat_natCast, Int.reduceToNat, Int.cast_ofNat_Int, Int.natCast_nonneg]
              refine LoopNext.intro (y + 1) ⟨by omega, fun j hj => ?_⟩ (by omega) ⟨[((1,0),(1,0)), ((8,0),(8,0)), ((16,0),(16,0))], rfl, ?_, ?_⟩
              · by_cases ej : j = y
                · subst ej; exact hm
                · exact hq j (by omega)
              · simp [wkEnv, lk, renV, renAt, renTo, w']
              · simp [wkMem, wkLoc, Mem.get, assoc, renBlk, renSegs, renSg, renTo, w']
          · obtain rfl : y = N := by omega
            simp only [absE, absL, absF, reduceCtorEq, ↓reduceIte, Nat.reduceEqDiff, Nat.reduceAdd, Nat.reduceLT, Nat.reduceMul, Nat.reduceSub, Nat.reduceLeDiff, Int.reduceLT, Int.reduceLE, Int.reduceEq, Option.isSome_some, implies_true, false_implies, Prod.mk.injEq, ne_eq, not_false_eq_true, not_true_eq_false, ge_iff_le, gt_iff_lt, Int.toNat_natCast, Int.reduceToNat, Int.cast_ofNat_Int, Int.natCast_nonneg, h', w]
            refine LoopNext.intro (x + 1) ⟨by omega, fun j hj => ?_⟩ (by omega) ⟨[((1,0),(1,0)), ((8,0),(8,0))], rfl, ?_, ?_⟩
            · by_cases ej : j = x
              · subst ej; exact hq
              · exact hp j (by omega)
            · simp [wkEnv, lk, renV, renAt, renTo, w]
            · simp [wkMem, wkLoc, Mem.get, assoc, renBlk, renSegs, renSg, renTo, w]
      · obtain rfl : x = N := by omega
        simp only [absE, absL, absF, reduceCtorEq, ↓reduceIte, Nat.reduceEqDiff, Nat.reduceAdd, Nat.reduceLT, Nat.reduceMul, Nat.reduceSub, Nat.reduceLeDiff, Int.reduceLT, Int.reduceLE, Int.reduceEq, Option.isSome_some, implies_true, false_implies, Prod.mk.injEq, ne_eq, not_false_eq_true, not_true_eq_false, ge_iff_le, gt_iff_lt, Int.toNat_natCast, Int.reduceToNat, Int.cast_ofNat_Int, Int.natCast_nonneg, h, Try.results19]
        have e := pr_none hp
        exact ⟨[], by simp, by simp, by rw [e]; exact fun h => absurd h (by decide), fun _ => by simp [renV, renVs, renAt, prC, h1]⟩
theorem implPair_yes (n : Int) (t : List Int) (ht : Bytes 100 t) (h : pgB n t = true) : ACalls Try.prog 19 [.agg (sqS n t)] [] (fun v ms ns => v = listV (prL n.toNat t) ∧ ms = [] ∧ ns = listN (prL n.toNat t)) :=
  (implPair_key n t ht).mono fun v ms ns hh => hh.1 h
theorem implPair_no (n : Int) (t : List Int) (ht : Bytes 100 t) (h : pgB n t = false) : ACalls Try.prog 19 [.agg (sqS n t)] [] (fun v ms ns => v = .tup [.ref .nils, .i .i64 (prC n t)] ∧ ms = [] ∧ ns = []) :=
  (implPair_key n t ht).mono fun v ms ns hh => hh.2 h

end Go.Proofs.Ytcaadjjgggjefaa
