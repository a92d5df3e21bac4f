/-
Contracts of functions of the given program, by the abstract walk.
-/
import Derived.Test.YtgblnnodoabdeaaAbsY
import Derived.Test.YtgblnnodoabdeaaUf
namespace Go.Proofs.Ytgblnnodoabdeaa
open Go Go.Abs
set_option linter.unusedVariables false
set_option linter.unusedSectionVars false
set_option linter.unusedSimpArgs false
set_option maxRecDepth 100000
/-! CanonicalIsotope -/
noncomputable def isoAt (N : Nat) (t : List Int) (a b : Nat) : List Int := isoT N t (toA N t a b) (toB N t a b) (swL N (cl t a b)) N
theorem swL_perm {N : Nat} {t : List Int} (hs : SqP N t) {a b : Nat} (ha : a < N) (hb : b < N) : PermP N (swL N (cl t a b)) := PermP_of hs.pos hs.le (swL_permF hs.le (hs.cl_lt ha hb))
theorem isoAt_sq {N : Nat} {t : List Int} (hs : SqP N t) {a b : Nat} (ha : a < N) (hb : b < N) : SqP N (isoAt N t a b) := isoT_sq hs (toA_perm hs ha hb) (toB_perm hs ha hb) (swL_perm hs ha hb)
theorem isoAt_bytes {N : Nat} {t : List Int} (hs : SqP N t) {a b : Nat} (ha : a < N) (hb : b < N) : Bytes 100 (isoAt N t a b) := isoT_bytes (swL_bytes hs.le (hs.cl_lt ha hb))
noncomputable def cisF (N : Nat) (t : List Int) (a b : Nat) : List Int := canT N (isoAt N t a b)
theorem cisF_bytes {N : Nat} {t : List Int} (hs : SqP N t) {a b : Nat} (ha : a < N) (hb : b < N) : Bytes 100 (cisF N t a b) := canT_ok N _ (isoAt_bytes hs ha hb) (isoAt_sq hs ha hb)
def mnIn (f : Nat → List Int) (b : List Int) : Nat → List Int
  | 0 => b
  | y + 1 => if cmpR (f y) (mnIn f b y) < 0 then f y else mnIn f b y
def mnT (f : Nat → Nat → List Int) (N : Nat) (b : List Int) : Nat → List Int
  | 0 => b
  | x + 1 => mnIn (f x) (mnT f N b x) N
theorem mnIn_bytes {f : Nat → List Int} {b : List Int} (hb : Bytes 100 b) : ∀ {y}, (∀ j, j < y → Bytes 100 (f j)) → Bytes 100 (mnIn f b y)
  | 0, _ => hb
  | y + 1, hf => by
    rw [mnIn]; split
    · exact hf y (by omega)
    · exact mnIn_bytes hb fun j hj => hf j (by omega)
theorem mnT_bytes {f : Nat → Nat → List Int} {N : Nat} {b : List Int} (hb : Bytes 100 b) : ∀ {x}, (∀ i j, i < x → j < N → Bytes 100 (f i j)) → Bytes 100 (mnT f N b x)
  | 0, _ => hb
  | x + 1, hf => mnIn_bytes (mnT_bytes hb fun i j hi hj => hf i j (by omega) hj) fun j hj => hf x j (by omega) hj
noncomputable def cisT (N : Nat) (t : List Int) : List Int := mnT (cisF N t) N (cisF N t 0 0) N
noncomputable def cisC (n : Int) (t : List Int) : Int := if sqB n t then (if 7 < n then 3 else 0) else 1
noncomputable def cisR (n : Int) (t : List Int) : AV := resSq (cisC n t) n (if cisC n t = 0 then cisT n.toNat t else List.replicate 100 0)
theorem cisT_len {N : Nat} {t : List Int} (hs : SqP N t) : Bytes 100 (cisT N t) :=
  mnT_bytes (cisF_bytes hs hs.pos hs.pos) fun i j hi hj => cisF_bytes hs hi hj
theorem cis_form (n : Int) (t : List Int) (ht : Bytes 100 t) : ∃ k s e, s.length = 100 ∧ cisR n t = .tup [.agg (sqS k s), .i .i64 e] := by
  refine resSq_form _ _ ?_
  split
  · rename_i h
    have hs : SqP n t := by
      unfold cisC at h
      split at h
      · rename_i h1; exact sqB_iff.1 h1
      · cases h
    obtain ⟨N, rfl⟩ : ∃ N : Nat, n = N := ⟨n.toNat, by have := hs.1; omega⟩
    exact (cisT_len hs).len
  · simp
theorem specCis_ok (n : Int) (t : List Int) (ht : Bytes 100 t) : ACalls Try.prog 36 [.agg (sqS n t)] [] (fun v ms ns => v = cisR n t ∧ ms = [] ∧ ns = []) := by
  refine acalls_of_body mix Try.func36 rfl fok36 (Nat.le_of_ble_eq_true rfl) ?_
  unfold abody
  simp only [absE, absL, absF, reduceCtorEq, ↓reduceIte, Nat.reduceEqDiff, Nat.reduceAdd, Nat.reduceLT, Nat.reduceMul, Nat.reduceSub, Nat.reduceLeDiff, Int.reduceLT, Int.reduceLE, Int.reduceEq, Option.isSome_some, implies_true, false_implies, Prod.mk.injEq, ne_eq, not_false_eq_true, not_true_eq_false, ge_iff_le, gt_iff_lt, Int.toNat_natCast, Int.reduceToNat, Int.cast_ofNat_Int, Int.natCast_nonneg, Try.f36]
  refine CallsVia.none (l01Is_ok n t ht) ?_
  rintro _ _ _ ⟨rfl, rfl, rfl⟩
  cases h1 : sqB n t
  · have e : cisC n t = 1 := by unfold cisC; rw [h1]; rfl
    have e2 : cisR n t = .tup [.agg (sqS 0 (List.replicate 100 0)), .i .i64 1] := by unfold cisR; rw [resSqN (by rw [e]; decide), e]
    simp only [absE, absL, absF, reduceCtorEq, ↓reduceIte, Nat.reduceEqDiff, Nat.reduceAdd, Nat.reduceLT, Nat.reduceMul, Nat.reduceSub, Nat.reduceLeDiff, Int.reduceLT, Int.reduceLE, Int.reduceEq, Option.isSome_some, implies_true, false_implies, Prod.mk.injEq, ne_eq, not_false_eq_true, not_true_eq_false, ge_iff_le, gt_iff_lt, Int.toNat_natCast, Int.reduceToNat, Int.cast_ofNat_Int, Int.natCast_nonneg, h1, Try.results36]
    exact ⟨[], by simp, by simp, by simp [renV, renVs, renSegs, renSg, e2]⟩
  · have hs := sqB_iff.1 h1
    obtain ⟨N, rfl⟩ : ∃ N : Nat, n = N := ⟨n.toNat, by have := hs.1; omega⟩
    by_cases h3 : (7 : Int) < N
    · have e : cisC N t = 3 := by unfold cisC; rw [h1, if_pos h3]; rfl
      have e2 : cisR N t = .tup [.agg (sqS 0 (List.replicate 100 0)), .i .i64 3] := by unfold cisR; rw [resSqN (by rw [e]; decide), e]
      simp only [absE, absL, absF, reduceCtorEq, ↓reduceIte, Nat.reduceEqDiff, Nat.reduceAdd, Nat.reduceLT, Nat.reduceMul, Nat.reduceSub, Nat.reduceLeDiff, Int.reduceLT, Int.reduceLE, Int.reduceEq, Option.isSome_some, implies_true, false_implies, Prod.mk.injEq, ne_eq, not_false_eq_true, not_true_eq_false, ge_iff_le, gt_iff_lt, Int.toNat_natCast, Int.reduceToNat, Int.cast_ofNat_Int, Int.natCast_nonneg, h1, h3, Try.results36]
      exact ⟨[], by simp, by simp, by simp [renV, renVs, renSegs, renSg, e2]⟩
    · have e : cisC N t = 0 := by unfold cisC; rw [h1, if_neg h3]; rfl
      have e2 : cisR N t = .tup [.agg (sqS N (cisT N t)), .i .i64 0] := by unfold cisR; rw [resSq0 e, if_pos e, Int.toNat_natCast]
      have hN := hs.le
      have h0 := hs.pos
      have hT0 := specTo_ok N t 0 0 ht hs h0 h0
      simp only [absE, absL, absF, reduceCtorEq, ↓reduceIte, Nat.reduceEqDiff, Nat.reduceAdd, Nat.reduceLT, Nat.reduceMul, Nat.reduceSub, Nat.reduceLeDiff, Int.reduceLT, Int.reduceLE, Int.reduceEq, Option.isSome_some, implies_true, false_implies, Prod.mk.injEq, ne_eq, not_false_eq_true, not_true_eq_false, ge_iff_le, gt_iff_lt, Int.toNat_natCast, Int.reduceToNat, Int.cast_ofNat_Int, Int.natCast_nonneg, h1, h3]
      refine CallsX.none (hT0) ?_
      simp only [absE, absL, absF, reduceCtorEq, ↓reduceIte, Nat.reduceEqDiff, Nat.reduceAdd, Nat.reduceLT, Nat.reduceMul, Nat.reduceSub, Nat.reduceLeDiff, Int.reduceLT, Int.reduceLE, Int.reduceEq, Option.isSome_some, implies_true, false_implies, Prod.mk.injEq, ne_eq, not_false_eq_true, not_true_eq_false, ge_iff_le, gt_iff_lt, Int.toNat_natCast, Int.reduceToNat, Int.cast_ofNat_Int, Int.natCast_nonneg]
      repeat refine And.intro (by decide +kernel) ?_
      refine CallsX.none (l02Isotope_ok N t _ _ _ ht (toA_bytes hs h0 h0) (toB_bytes hs h0 h0) (swL_bytes hN (hs.cl_lt h0 h0)) hs (toA_perm hs h0 h0) (toB_perm hs h0 h0)) ?_
      simp only [absE, absL, absF, reduceCtorEq, ↓reduceIte, Nat.reduceEqDiff, Nat.reduceAdd, Nat.reduceLT, Nat.reduceMul, Nat.reduceSub, Nat.reduceLeDiff, Int.reduceLT, Int.reduceLE, Int.reduceEq, Option.isSome_some, implies_true, false_implies, Prod.mk.injEq, ne_eq, not_false_eq_true, not_true_eq_false, ge_iff_le, gt_iff_lt, Int.toNat_natCast, Int.reduceToNat, Int.cast_ofNat_Int, Int.natCast_nonneg]
      repeat refine And.intro (by decide +kernel) ?_
      refine CallsX.none (l02Canonical_ok N (isoAt N t 0 0) (isoAt_bytes hs h0 h0) (isoAt_sq hs h0 h0)) ?_
      simp only [absE, absL, absF, reduceCtorEq, ↓reduceIte, Nat.reduceEqDiff, Nat.reduceAdd, Nat.reduceLT, Nat.reduceMul, Nat.reduceSub, Nat.reduceLeDiff, Int.reduceLT, Int.reduceLE, Int.reduceEq, Option.isSome_some, implies_true, false_implies, Prod.mk.injEq, ne_eq, not_false_eq_true, not_true_eq_false, ge_iff_le, gt_iff_lt, Int.toNat_natCast, Int.reduceToNat, Int.cast_ofNat_Int, Int.natCast_nonneg]
      repeat refine And.intro (by decide +kernel) ?_
      rw [show canT N (isoAt N t 0 0) = cisF N t 0 0 from rfl]
      refine awpLoop.intro (fun x : Nat => [(1, .ref (.ptr 1 0 0 0)), (2, .ref (.ptr 2 0 0 0)), (4, .ref (.ptr 17 0 0 0)), (5, .i .i64 x), (3, .i .i64 0)]) (fun x => ⟨[], [((1, 0), .lv true (sqS N t)), ((2, 0), .lv true (sqS 0 (List.replicate 100 0))), ((17, 0), .lv true (sqS N (mnT (cisF N t) N (cisF N t 0 0) x)))], 30⟩) (fun x => x ≤ N) (fun x => N - x) 0 (by omega) ⟨[((1,0),(1,0)), ((2,0),(2,0)), ((17,0),(17,0))], rfl, ?_, ?_⟩ ?_
      · simp [wkEnv, lk, renV, renAt, renTo, mnT]
      · simp [wkMem, wkLoc, Mem.get, assoc, renBlk, renSegs, renSg, renTo, mnT]
      · intro x hx
        by_cases h : (x : Int) < N
        · have w := wrap_i64s (show x < 2 ^ 62 by omega)
          have wx := wrap_u8n (show x < 256 by omega)
          simp only [absE, absL, absF, reduceCtorEq, ↓reduceIte, Nat.reduceEqDiff, Nat.reduceAdd, Nat.reduceLT, Nat.reduceMul, Nat.reduceSub, Nat.reduceLeDiff, Int.reduceLT, Int.reduceLE, Int.reduceEq, Option.isSome_some, implies_true, false_implies, Prod.mk.injEq, ne_eq, not_false_eq_true, not_true_eq_false, ge_iff_le, gt_iff_lt, Int.toNat_natCast, Int.reduceToNat, Int.cast_ofNat_Int, Int.natCast_nonneg, h]
          refine awpLoop.intro (fun y : Nat => [(1, .ref (.ptr 1 0 0 0)), (2, .ref (.ptr 2 0 0 0)), (4, .ref (.ptr 17 0 0 0)), (5, .i .i64 x), (6, .i .i64 y), (3, .i .i64 0)]) (fun y => ⟨[], [((1, 0), .lv true (sqS N t)), ((2, 0), .lv true (sqS 0 (List.replicate 100 0))), ((17, 0), .lv true (sqS N (mnIn (cisF N t x) (mnT (cisF N t) N (cisF N t 0 0) x) y)))], 40⟩) (fun y => y ≤ N) (fun y => N - y) 0 (by omega) ⟨[((1,0),(1,0)), ((2,0),(2,0)), ((17,0),(17,0))], rfl, ?_, ?_⟩ ?_
          · simp [wkEnv, lk, renV, renAt, renTo, mnIn]
          · simp [wkMem, wkLoc, Mem.get, assoc, renBlk, renSegs, renSg, renTo, mnIn]
          · intro y hy
            by_cases h' : (y : Int) < N
            · have w' := wrap_i64s (show y < 2 ^ 62 by omega)
              have wy := wrap_u8n (show y < 256 by omega)
              have hx' : x < N := by omega
              have hy' : y < N := by omega
              have hb : Bytes 100 (mnIn (cisF N t x) (mnT (cisF N t) N (cisF N t 0 0) x) y) := mnIn_bytes (mnT_bytes (cisF_bytes hs h0 h0) fun i j hi hj => cisF_bytes hs (by omega) hj) fun j hj => cisF_bytes hs hx' (by omega)
              simp only [absE, absL, absF, reduceCtorEq, ↓reduceIte, Nat.reduceEqDiff, Nat.reduceAdd, Nat.reduceLT, Nat.reduceMul, Nat.reduceSub, Nat.reduceLeDiff, Int.reduceLT, Int.reduceLE, Int.reduceEq, Option.isSome_some, implies_true, false_implies, Prod.mk.injEq, ne_eq, not_false_eq_true, not_true_eq_false, ge_iff_le, gt_iff_lt, Int.toNat_natCast, Int.reduceToNat, Int.cast_ofNat_Int, Int.natCast_nonneg, h', wx, wy]
              refine CallsX.none (specTo_ok N t x y ht hs hx' hy') ?_
              simp only [absE, absL, absF, reduceCtorEq, ↓reduceIte, Nat.reduceEqDiff, Nat.reduceAdd, Nat.reduceLT, Nat.reduceMul, Nat.reduceSub, Nat.reduceLeDiff, Int.reduceLT, Int.reduceLE, Int.reduceEq, Option.isSome_some, implies_true, false_implies, Prod.mk.injEq, ne_eq, not_false_eq_true, not_true_eq_false, ge_iff_le, gt_iff_lt, Int.toNat_natCast, Int.reduceToNat, Int.cast_ofNat_Int, Int.natCast_nonneg]
              repeat refine And.intro (by decide +kernel) ?_
              refine CallsX.none (l02Isotope_ok N t _ _ _ ht (toA_bytes hs hx' hy') (toB_bytes hs hx' hy') (swL_bytes hN (hs.cl_lt hx' hy')) hs (toA_perm hs hx' hy') (toB_perm hs hx' hy')) ?_
              simp only [absE, absL, absF, reduceCtorEq, ↓reduceIte, Nat.reduceEqDiff, Nat.reduceAdd, Nat.reduceLT, Nat.reduceMul, Nat.reduceSub, Nat.reduceLeDiff, Int.reduceLT, Int.reduceLE, Int.reduceEq, Option.isSome_some, implies_true, false_implies, Prod.mk.injEq, ne_eq, not_false_eq_true, not_true_eq_false, ge_iff_le, gt_iff_lt, Int.toNat_natCast, Int.reduceToNat, Int.cast_ofNat_Int, Int.natCast_nonneg]
              repeat refine And.intro (by decide +kernel) ?_
              refine CallsX.none (l02Canonical_ok N (isoAt N t x y) (isoAt_bytes hs hx' hy') (isoAt_sq hs hx' hy')) ?_
              simp only [absE, absL, absF, reduceCtorEq, ↓reduceIte, Nat.reduceEqDiff, Nat.reduceAdd, Nat.reduceLT, Nat.reduceMul, Nat.reduceSub, Nat.reduceLeDiff, Int.reduceLT, Int.reduceLE, Int.reduceEq, Option.isSome_some, implies_true, false_implies, Prod.mk.injEq, ne_eq, not_false_eq_true, not_true_eq_false, ge_iff_le, gt_iff_lt, Int.toNat_natCast, Int.reduceToNat, Int.cast_ofNat_Int, Int.natCast_nonneg]
              repeat refine And.intro (by decide +kernel) ?_
              rw [show canT N (isoAt N t x y) = cisF N t x y from rfl]
              refine CallsVia.none (l02Lower_ok (cisF N t x y) (mnIn (cisF N t x) (mnT (cisF N t) N (cisF N t 0 0) x) y) (cisF_bytes hs hx' hy') hb) ?_
              rintro _ _ _ ⟨rfl, rfl, rfl⟩
              by_cases hc : cmpR (cisF N t x y) (mnIn (cisF N t x) (mnT (cisF N t) N (cisF N t 0 0) x) y) < 0
              · simp only [absE, absL, absF, reduceCtorEq, ↓reduceIte, Nat.reduceEqDiff, Nat.reduceAdd, Nat.reduceLT, Nat.reduceMul, Nat.reduceSub, Nat.reduceLeDiff, Int.reduceLT, Int.reduceLE, Int.reduceEq, Option.isSome_some, implies_true, false_implies, Prod.mk.injEq, ne_eq, not_false_eq_true, not_true_eq_false, ge_iff_le, gt_iff_lt, Int.toNat_natCast, Int.reduceToNat, Int.cast_ofNat_Int, Int.natCast_nonneg, hc]
                refine LoopNext.intro (y + 1) (by omega) (by omega) ⟨[((1,0),(1,0)), ((2,0),(2,0)), ((17,0),(17,0))], rfl, ?_, ?_⟩
                · simp [wkEnv, lk, renV, renAt, renTo, w']
                · rw [mnIn, if_pos hc]; simp [wkMem, wkLoc, Mem.get, assoc, renBlk, renSegs, renSg, renTo]
              · simp only [absE, absL, absF, reduceCtorEq, ↓reduceIte, Nat.reduceEqDiff, Nat.reduceAdd, Nat.reduceLT, Nat.reduceMul, Nat.reduceSub, Nat.reduceLeDiff, Int.reduceLT, Int.reduceLE, Int.reduceEq, Option.isSome_some, implies_true, false_implies, Prod.mk.injEq, ne_eq, not_false_eq_true, not_true_eq_false, ge_iff_le, gt_iff_lt, Int.toNat_natCast, Int.reduceToNat, Int.cast_ofNat_Int, Int.natCast_nonneg, hc]
                refine LoopNext.intro (y + 1) (by omega) (by omega) ⟨[((1,0),(1,0)), ((2,0),(2,0)), ((17,0),(17,0))], rfl, ?_, ?_⟩
                · simp [wkEnv, lk, renV, renAt, renTo, w']
                · rw [mnIn, if_neg hc]; simp [wkMem, wkLoc, Mem.get, assoc, renBlk, renSegs, renSg, renTo]
            · obtain rfl : y = N := by omega
              simp only [absE, absL, absF, reduceCtorEq, ↓reduceIte, Nat.reduceEqDiff, Nat.reduceAdd, Nat.reduceLT, Nat.reduceMul, Nat.reduceSub, Nat.reduceLeDiff, Int.reduceLT, Int.reduceLE, Int.reduceEq, Option.isSome_some, implies_true, false_implies, Prod.mk.injEq, ne_eq, not_false_eq_true, not_true_eq_false, ge_iff_le, gt_iff_lt, Int.toNat_natCast, Int.reduceToNat, Int.cast_ofNat_Int, Int.natCast_nonneg, h', w]
              refine LoopNext.intro (x + 1) (by omega) (by omega) ⟨[((1,0),(1,0)), ((2,0),(2,0)), ((17,0),(17,0))], rfl, ?_, ?_⟩
              · simp [wkEnv, lk, renV, renAt, renTo, mnT]
              · simp [wkMem, wkLoc, Mem.get, assoc, renBlk, renSegs, renSg, renTo, mnT]
        · obtain rfl : x = N := by omega
          simp only [absE, absL, absF, reduceCtorEq, ↓reduceIte, Nat.reduceEqDiff, Nat.reduceAdd, Nat.reduceLT, Nat.reduceMul, Nat.reduceSub, Nat.reduceLeDiff, Int.reduceLT, Int.reduceLE, Int.reduceEq, Option.isSome_some, implies_true, false_implies, Prod.mk.injEq, ne_eq, not_false_eq_true, not_true_eq_false, ge_iff_le, gt_iff_lt, Int.toNat_natCast, Int.reduceToNat, Int.cast_ofNat_Int, Int.natCast_nonneg, h, Try.results36]
          exact ⟨[], by simp, by simp, by rw [e2]; simp [renV, renVs, renSegs, renSg, cisT], by simp, by simp⟩

end Go.Proofs.Ytgblnnodoabdeaa
