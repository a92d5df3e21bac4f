/-
Contracts of functions of the given program, by the abstract walk.
-/
import Derived.Test.YtgblnnodoabdeaaAbsY
import Derived.Test.YtgblnnodoabdeaaXg
import Derived.Test.YtgblnnodoabdeaaUq
import Derived.Test.YtgblnnodoabdeaaJj
import Derived.Test.YtgblnnodoabdeaaCc
namespace Go.Proofs.Ytgblnnodoabdeaa
open Go Go.Abs
set_option linter.unusedVariables false
set_option linter.unusedSectionVars false
set_option linter.unusedSimpArgs false
set_option maxRecDepth 100000
/-! homomorphisms: both functions -/
noncomputable def homL (n m : Int) (t s : List Int) : LLs := hsm n.toNat m.toNat t s leM (n.toNat + 1) freeL 0
noncomputable def homC (n : Int) (t : List Int) (m : Int) (s : List Int) : Int := if sqB n t && sqB m s then (if 2000 < (homL n m t s).length then 3 else 0) else 1
theorem homC_zero {n : Int} {t : List Int} {m : Int} {s : List Int} (h : homC n t m s = 0) : SqP n t ∧ SqP m s ∧ (homL n m t s).length ≤ 2000 := by
  unfold homC at h
  cases hb : (sqB n t && sqB m s)
  · rw [hb] at h; simp at h
  · rw [hb, if_pos rfl] at h
    rw [Bool.and_eq_true] at hb
    refine ⟨sqB_iff.1 hb.1, sqB_iff.1 hb.2, ?_⟩
    apply Decidable.byContradiction; intro hn
    rw [if_pos (by omega)] at h; cases h
theorem hcall_ok (N M : Nat) (t s : List Int) (ht : Bytes 100 t) (hs : Bytes 100 s) (st : SqP N t) (ss : SqP M s) :
    ACalls Try.prog 71 [.agg (sdS N t M s freeL), .ref (.ptr 0 0 0 0), .ref (.ptr 0 1 0 0), .ref (.ptr 0 2 0 0), .ref (.ptr 0 3 0 0)] (P4 N M t s (.sl 0 4 0 0 0 1) (.lv true [(0, .cells 0 [])]) [])
      (fun v ms ns => v = .b (leM (homL N M t s).length) ∧ ((homL N M t s = [] ∧ ms = P4 N M t s (.sl 0 4 0 0 0 1) (.lv true [(0, .cells 0 [])]) [] ∧ ns = []) ∨ (ms = P4 N M t s (.sl 1 0 0 0 (homL N M t s).length 1) .dead [] ∧ ns = llN (homL N M t s)))) := by
  have h := hsearch_ok N M t s ht hs st ss (N + 1) freeL 0 [] [] (free_good st.le) (by omega) (by omega) Opq.nil
  refine h.mono ?_
  rintro v ms ns ⟨rfl, h⟩
  unfold homL
  rw [Int.toNat_natCast, Int.toNat_natCast]
  refine ⟨by rw [Nat.zero_add], ?_⟩
  rcases h with ⟨h1, h2, h3⟩ | ⟨h1, h2, h3⟩
  · exact .inl ⟨h1, h2, h3⟩
  · refine .inr ⟨by rw [h2, Nat.zero_add], by rw [h3, llN, ob, Nat.zero_add, List.nil_append]⟩
theorem implHom_no (n : Int) (t : List Int) (m : Int) (s : List Int) (ht : Bytes 100 t) (hs : Bytes 100 s) (h : (sqB n t && sqB m s) = false) :
    ACalls Try.prog 27 [.agg (sqS n t), .agg (sqS m s)] [] (fun v ms ns => v = .tup [.ref .nils, .i .i64 1] ∧ ms = [] ∧ ns = []) := by
  cases h1 : sqB n t
  · refine acalls_of_body mix Try.func27 rfl fok27 (Nat.le_of_ble_eq_true rfl) ?_
    unfold abody
    simp only [absE, absL, absF, reduceCtorEq, ↓reduceIte, Nat.reduceEqDiff, Nat.reduceAdd, Nat.reduceLT, Nat.reduceMul, Nat.reduceSub, Nat.reduceLeDiff, Int.reduceLT, Int.reduceLE, Int.reduceEq, Option.isSome_some, implies_true, false_implies, Prod.mk.injEq, ne_eq, not_false_eq_true, not_true_eq_false, ge_iff_le, gt_iff_lt, Int.toNat_natCast, Int.reduceToNat, Int.cast_ofNat_Int, Int.natCast_nonneg, Try.f27]
    refine CallsVia.none (isSquare_ok n t ht) ?_
    rintro _ _ _ ⟨rfl, rfl, rfl⟩
    simp only [absE, absL, absF, reduceCtorEq, ↓reduceIte, Nat.reduceEqDiff, Nat.reduceAdd, Nat.reduceLT, Nat.reduceMul, Nat.reduceSub, Nat.reduceLeDiff, Int.reduceLT, Int.reduceLE, Int.reduceEq, Option.isSome_some, implies_true, false_implies, Prod.mk.injEq, ne_eq, not_false_eq_true, not_true_eq_false, ge_iff_le, gt_iff_lt, Int.toNat_natCast, Int.reduceToNat, Int.cast_ofNat_Int, Int.natCast_nonneg, h1, Try.results27]
    exact ⟨[], by simp, by simp, by simp [renV, renVs, renSegs, renSg, renAt]⟩
  · have h2 : sqB m s = false := by rw [h1] at h; exact h
    refine acalls_of_body mix Try.func27 rfl fok27 (Nat.le_of_ble_eq_true rfl) ?_
    unfold abody
    simp only [absE, absL, absF, reduceCtorEq, ↓reduceIte, Nat.reduceEqDiff, Nat.reduceAdd, Nat.reduceLT, Nat.reduceMul, Nat.reduceSub, Nat.reduceLeDiff, Int.reduceLT, Int.reduceLE, Int.reduceEq, Option.isSome_some, implies_true, false_implies, Prod.mk.injEq, ne_eq, not_false_eq_true, not_true_eq_false, ge_iff_le, gt_iff_lt, Int.toNat_natCast, Int.reduceToNat, Int.cast_ofNat_Int, Int.natCast_nonneg, Try.f27]
    refine CallsVia.none (isSquare_ok n t ht) ?_
    rintro _ _ _ ⟨rfl, rfl, rfl⟩
    simp only [absE, absL, absF, reduceCtorEq, ↓reduceIte, Nat.reduceEqDiff, Nat.reduceAdd, Nat.reduceLT, Nat.reduceMul, Nat.reduceSub, Nat.reduceLeDiff, Int.reduceLT, Int.reduceLE, Int.reduceEq, Option.isSome_some, implies_true, false_implies, Prod.mk.injEq, ne_eq, not_false_eq_true, not_true_eq_false, ge_iff_le, gt_iff_lt, Int.toNat_natCast, Int.reduceToNat, Int.cast_ofNat_Int, Int.natCast_nonneg, h1]
    refine CallsVia.none (isSquare_ok m s hs) ?_
    rintro _ _ _ ⟨rfl, rfl, rfl⟩
    simp only [absE, absL, absF, reduceCtorEq, ↓reduceIte, Nat.reduceEqDiff, Nat.reduceAdd, Nat.reduceLT, Nat.reduceMul, Nat.reduceSub, Nat.reduceLeDiff, Int.reduceLT, Int.reduceLE, Int.reduceEq, Option.isSome_some, implies_true, false_implies, Prod.mk.injEq, ne_eq, not_false_eq_true, not_true_eq_false, ge_iff_le, gt_iff_lt, Int.toNat_natCast, Int.reduceToNat, Int.cast_ofNat_Int, Int.natCast_nonneg, h2, Try.results27]
    exact ⟨[], by simp, by simp, by simp [renV, renVs, renSegs, renSg, renAt]⟩
theorem implHom_in (N M : Nat) (t s : List Int) (ht : Bytes 100 t) (hs : Bytes 100 s) (st : SqP N t) (ss : SqP M s) :
    ACalls Try.prog 27 [.agg (sqS N t), .agg (sqS M s)] [] (fun v ms ns => (2000 < (homL N M t s).length ∧ v = .tup [.ref .nils, .i .i64 3] ∧ ms = [] ∧ ns = []) ∨ ((homL N M t s).length ≤ 2000 ∧ v = llV (homL N M t s) ∧ ms = [] ∧ ns = llN (homL N M t s))) := by
  have h1 := sqB_true st
  have h2 := sqB_true ss
  have hS := hcall_ok N M t s ht hs st ss
  generalize homL N M t s = L at hS
  unfold P4 at hS
  refine acalls_of_body mix Try.func27 rfl fok27 (Nat.le_of_ble_eq_true rfl) ?_
  unfold abody
  simp only [absE, absL, absF, reduceCtorEq, ↓reduceIte, Nat.reduceEqDiff, Nat.reduceAdd, Nat.reduceLT, Nat.reduceMul, Nat.reduceSub, Nat.reduceLeDiff, Int.reduceLT, Int.reduceLE, Int.reduceEq, Option.isSome_some, implies_true, false_implies, Prod.mk.injEq, ne_eq, not_false_eq_true, not_true_eq_false, ge_iff_le, gt_iff_lt, Int.toNat_natCast, Int.reduceToNat, Int.cast_ofNat_Int, Int.natCast_nonneg, Try.f27]
  refine CallsVia.none (isSquare_ok N t ht) ?_
  rintro _ _ _ ⟨rfl, rfl, rfl⟩
  simp only [absE, absL, absF, reduceCtorEq, ↓reduceIte, Nat.reduceEqDiff, Nat.reduceAdd, Nat.reduceLT, Nat.reduceMul, Nat.reduceSub, Nat.reduceLeDiff, Int.reduceLT, Int.reduceLE, Int.reduceEq, Option.isSome_some, implies_true, false_implies, Prod.mk.injEq, ne_eq, not_false_eq_true, not_true_eq_false, ge_iff_le, gt_iff_lt, Int.toNat_natCast, Int.reduceToNat, Int.cast_ofNat_Int, Int.natCast_nonneg, h1]
  refine CallsVia.none (isSquare_ok M s hs) ?_
  rintro _ _ _ ⟨rfl, rfl, rfl⟩
  simp only [absE, absL, absF, reduceCtorEq, ↓reduceIte, Nat.reduceEqDiff, Nat.reduceAdd, Nat.reduceLT, Nat.reduceMul, Nat.reduceSub, Nat.reduceLeDiff, Int.reduceLT, Int.reduceLE, Int.reduceEq, Option.isSome_some, implies_true, false_implies, Prod.mk.injEq, ne_eq, not_false_eq_true, not_true_eq_false, ge_iff_le, gt_iff_lt, Int.toNat_natCast, Int.reduceToNat, Int.cast_ofNat_Int, Int.natCast_nonneg, h2]
  repeat refine And.intro (by decide +kernel) ?_
  refine awpLoop.intro (fun i : Nat => [(2, .ref (.ptr 1 0 0 0)), (3, .ref (.ptr 2 0 0 0)), (6, .ref (.ptr 17 0 0 0)), (7, .ref (.ptr 18 0 0 0)), (22, .i .i64 i)]) (fun i => ⟨[], [((1, 0), .lv true (sqS N t)), ((2, 0), .lv true (sqS M s)), ((13, 0), .lv true ([(0, .cells 0 [])])), ((17, 0), .lv true ([(0, .cells 1 [.sl 13 0 0 0 0 1])])), ((18, 0), .lv true (sdS N t M s (fzL i)))], 30⟩) (fun i => i ≤ 10) (fun i => 10 - i) 0 (by omega) ⟨[((1,0),(1,0)), ((2,0),(2,0)), ((13,0),(13,0)), ((17,0),(17,0)), ((18,0),(18,0))], rfl, ?_, ?_⟩ ?_
  · simp [wkEnv, lk, renV, renAt, renTo]
  · simp [wkMem, wkLoc, Mem.get, assoc, renBlk, renSegs, renSg, renAt, renCaps, renTo, fzL]; try decide
  · intro i hi
    by_cases h : (i : Int) < 10
    · have w := wrap_i64s (show i < 2 ^ 62 by omega)
      have i11 : 0 + i * 1 + 1 ≤ 10 := by omega
      have es : (fzL i).set (0 + i * 1) 255 = fzL (i + 1) := by rw [Nat.zero_add, Nat.mul_one]; exact fzL_set (by omega)
      simp only [absE, absL, absF, reduceCtorEq, ↓reduceIte, Nat.reduceEqDiff, Nat.reduceAdd, Nat.reduceLT, Nat.reduceMul, Nat.reduceSub, Nat.reduceLeDiff, Int.reduceLT, Int.reduceLE, Int.reduceEq, Option.isSome_some, implies_true, false_implies, Prod.mk.injEq, ne_eq, not_false_eq_true, not_true_eq_false, ge_iff_le, gt_iff_lt, Int.toNat_natCast, Int.reduceToNat, Int.cast_ofNat_Int, Int.natCast_nonneg, h, i11, es]
      repeat first | refine And.intro (by decide +kernel) ?_ | refine And.intro (by omega) ?_
      refine LoopNext.intro (i + 1) (by omega) (by omega) ⟨[((1,0),(1,0)), ((2,0),(2,0)), ((13,0),(13,0)), ((17,0),(17,0)), ((18,0),(18,0))], rfl, ?_, ?_⟩
      · simp [wkEnv, lk, renV, renAt, renTo, w]
      · simp [wkMem, wkLoc, Mem.get, assoc, renBlk, renSegs, renSg, renAt, renCaps, renTo]
    · obtain rfl : i = 10 := by omega
      simp only [absE, absL, absF, reduceCtorEq, ↓reduceIte, Nat.reduceEqDiff, Nat.reduceAdd, Nat.reduceLT, Nat.reduceMul, Nat.reduceSub, Nat.reduceLeDiff, Int.reduceLT, Int.reduceLE, Int.reduceEq, Option.isSome_some, implies_true, false_implies, Prod.mk.injEq, ne_eq, not_false_eq_true, not_true_eq_false, ge_iff_le, gt_iff_lt, Int.toNat_natCast, Int.reduceToNat, Int.cast_ofNat_Int, Int.natCast_nonneg, h, fzL_ten]
      refine CallsVia.args [(1, 0), (2, 0), (31, 0), (17, 0), (13, 0)] hS (by simp) (by simp [Mem.get, assoc]) rfl rfl ?_
      rintro _ _ _ ⟨rfl, (⟨rfl, rfl, rfl⟩ | ⟨rfl, rfl⟩)⟩
      · have hl : leM ([] : LLs).length = true := by decide
        simp only [absE, absL, absF, reduceCtorEq, ↓reduceIte, Nat.reduceEqDiff, Nat.reduceAdd, Nat.reduceLT, Nat.reduceMul, Nat.reduceSub, Nat.reduceLeDiff, Int.reduceLT, Int.reduceLE, Int.reduceEq, Option.isSome_some, implies_true, false_implies, Prod.mk.injEq, ne_eq, not_false_eq_true, not_true_eq_false, ge_iff_le, gt_iff_lt, Int.toNat_natCast, Int.reduceToNat, Int.cast_ofNat_Int, Int.natCast_nonneg, hl, Try.results27]
        exact ⟨[(13, 0)], by simp, by simp, .inr ⟨by simp, by simp [renV, renVs, renAt, renFin, idx, llV], by simp, by simp [Mem.get, assoc, renBlk, renSegs, renSg, llN, ob, inn, outs]⟩⟩
      · cases hl : leM L.length
        · have hd : ¬ L.length ≤ 2000 := of_decide_eq_false hl
          simp only [absE, absL, absF, reduceCtorEq, ↓reduceIte, Nat.reduceEqDiff, Nat.reduceAdd, Nat.reduceLT, Nat.reduceMul, Nat.reduceSub, Nat.reduceLeDiff, Int.reduceLT, Int.reduceLE, Int.reduceEq, Option.isSome_some, implies_true, false_implies, Prod.mk.injEq, ne_eq, not_false_eq_true, not_true_eq_false, ge_iff_le, gt_iff_lt, Int.toNat_natCast, Int.reduceToNat, Int.cast_ofNat_Int, Int.natCast_nonneg, hl, llN, newUps_inn, ob_out, Mem.upd_bagU, assoc_rbag_ne, Try.results27]
          exact ⟨[], by simp, by simp, .inl ⟨by omega, by simp [renV, renVs, renAt], by simp, by simp⟩⟩
        · have hd : L.length ≤ 2000 := of_decide_eq_true hl
          simp only [absE, absL, absF, reduceCtorEq, ↓reduceIte, Nat.reduceEqDiff, Nat.reduceAdd, Nat.reduceLT, Nat.reduceMul, Nat.reduceSub, Nat.reduceLeDiff, Int.reduceLT, Int.reduceLE, Int.reduceEq, Option.isSome_some, implies_true, false_implies, Prod.mk.injEq, ne_eq, not_false_eq_true, not_true_eq_false, ge_iff_le, gt_iff_lt, Int.toNat_natCast, Int.reduceToNat, Int.cast_ofNat_Int, Int.natCast_nonneg, hl, llN, newUps_inn, ob_out, Mem.upd_bagU, assoc_rbag_ne, Try.results27]
          refine ⟨(36, 0) :: srcs 36 1 L.length, row_nodup (.inr (by decide)), row_keep (by decide) (by decide), .inr ⟨hd, by simp [renV, renVs, renAt, renFin, idx, llV], by simp, ?_⟩⟩
          exact row_map' (p := (36, 0)) (B := 36) (k := 1) (LL := L) (.inr (by decide)) (by decide) (by simp only [Mem.get, assoc]; rw [if_neg (by decide), assoc_rbag_lt (by decide)]; simp [assoc]) fun j hj => by
            simp only [Mem.get]
            rw [if_neg (by decide), assoc_rbag_in hj]
theorem homL_nat {N M : Nat} {t s : List Int} : homL N M t s = hsm N M t s leM (N + 1) freeL 0 := by unfold homL; rw [Int.toNat_natCast, Int.toNat_natCast]
theorem l06Nil_ok (N M : Nat) (t s : List Int) (ht : Bytes 100 t) (hs : Bytes 100 s) (st : SqP N t) (ss : SqP M s) :
    ACalls Try.prog 70 [.agg (sqS N t), .agg (sqS M s), .agg (thS freeL), .ref .nils] [] (fun v ms ns => HRn (homL N M t s) v ms ns) := by
  rw [homL_nat]
  exact mapsHN_ok N M t s ht hs st ss (N + 1) freeL (free_good st.le) (by omega)
theorem specHom_no (n : Int) (t : List Int) (m : Int) (s : List Int) (ht : Bytes 100 t) (hs : Bytes 100 s) (h : (sqB n t && sqB m s) = false) :
    ACalls Try.prog 26 [.agg (sqS n t), .agg (sqS m s)] [] (fun v ms ns => v = .tup [.ref .nils, .i .i64 1] ∧ ms = [] ∧ ns = []) := by
  cases h1 : sqB n t
  · refine acalls_of_body mix Try.func26 rfl fok26 (Nat.le_of_ble_eq_true rfl) ?_
    unfold abody
    simp only [absE, absL, absF, reduceCtorEq, ↓reduceIte, Nat.reduceEqDiff, Nat.reduceAdd, Nat.reduceLT, Nat.reduceMul, Nat.reduceSub, Nat.reduceLeDiff, Int.reduceLT, Int.reduceLE, Int.reduceEq, Option.isSome_some, implies_true, false_implies, Prod.mk.injEq, ne_eq, not_false_eq_true, not_true_eq_false, ge_iff_le, gt_iff_lt, Int.toNat_natCast, Int.reduceToNat, Int.cast_ofNat_Int, Int.natCast_nonneg, Try.f26]
    refine CallsVia.none (l01Is_ok n t ht) ?_
    rintro _ _ _ ⟨rfl, rfl, rfl⟩
    simp only [absE, absL, absF, reduceCtorEq, ↓reduceIte, Nat.reduceEqDiff, Nat.reduceAdd, Nat.reduceLT, Nat.reduceMul, Nat.reduceSub, Nat.reduceLeDiff, Int.reduceLT, Int.reduceLE, Int.reduceEq, Option.isSome_some, implies_true, false_implies, Prod.mk.injEq, ne_eq, not_false_eq_true, not_true_eq_false, ge_iff_le, gt_iff_lt, Int.toNat_natCast, Int.reduceToNat, Int.cast_ofNat_Int, Int.natCast_nonneg, h1, Try.results26]
    exact ⟨[], by simp, by simp, by simp [renV, renVs, renSegs, renSg, renAt]⟩
  · have h2 : sqB m s = false := by rw [h1] at h; exact h
    refine acalls_of_body mix Try.func26 rfl fok26 (Nat.le_of_ble_eq_true rfl) ?_
    unfold abody
    simp only [absE, absL, absF, reduceCtorEq, ↓reduceIte, Nat.reduceEqDiff, Nat.reduceAdd, Nat.reduceLT, Nat.reduceMul, Nat.reduceSub, Nat.reduceLeDiff, Int.reduceLT, Int.reduceLE, Int.reduceEq, Option.isSome_some, implies_true, false_implies, Prod.mk.injEq, ne_eq, not_false_eq_true, not_true_eq_false, ge_iff_le, gt_iff_lt, Int.toNat_natCast, Int.reduceToNat, Int.cast_ofNat_Int, Int.natCast_nonneg, Try.f26]
    refine CallsVia.none (l01Is_ok n t ht) ?_
    rintro _ _ _ ⟨rfl, rfl, rfl⟩
    simp only [absE, absL, absF, reduceCtorEq, ↓reduceIte, Nat.reduceEqDiff, Nat.reduceAdd, Nat.reduceLT, Nat.reduceMul, Nat.reduceSub, Nat.reduceLeDiff, Int.reduceLT, Int.reduceLE, Int.reduceEq, Option.isSome_some, implies_true, false_implies, Prod.mk.injEq, ne_eq, not_false_eq_true, not_true_eq_false, ge_iff_le, gt_iff_lt, Int.toNat_natCast, Int.reduceToNat, Int.cast_ofNat_Int, Int.natCast_nonneg, h1]
    refine CallsVia.none (l01Is_ok m s hs) ?_
    rintro _ _ _ ⟨rfl, rfl, rfl⟩
    simp only [absE, absL, absF, reduceCtorEq, ↓reduceIte, Nat.reduceEqDiff, Nat.reduceAdd, Nat.reduceLT, Nat.reduceMul, Nat.reduceSub, Nat.reduceLeDiff, Int.reduceLT, Int.reduceLE, Int.reduceEq, Option.isSome_some, implies_true, false_implies, Prod.mk.injEq, ne_eq, not_false_eq_true, not_true_eq_false, ge_iff_le, gt_iff_lt, Int.toNat_natCast, Int.reduceToNat, Int.cast_ofNat_Int, Int.natCast_nonneg, h2, Try.results26]
    exact ⟨[], by simp, by simp, by simp [renV, renVs, renSegs, renSg, renAt]⟩
theorem thS_free : thS freeL = [(0, .ints .i64 10 [-1, -1, -1, -1, -1, -1, -1, -1, -1, -1])] := rfl
theorem specHom_in (N M : Nat) (t s : List Int) (ht : Bytes 100 t) (hs : Bytes 100 s) (st : SqP N t) (ss : SqP M s) :
    ACalls Try.prog 26 [.agg (sqS N t), .agg (sqS M s)] [] (fun v ms ns => (2000 < (homL N M t s).length ∧ v = .tup [.ref .nils, .i .i64 3] ∧ ms = [] ∧ ns = []) ∨ (homL N M t s = [] ∧ v = .tup [.ref .nils, .i .i64 0] ∧ ms = [] ∧ ns = []) ∨ (homL N M t s ≠ [] ∧ (homL N M t s).length ≤ 2000 ∧ v = llV (homL N M t s) ∧ ms = [] ∧ ns = llN (homL N M t s))) := by
  have h1 := sqB_true st
  have h2 := sqB_true ss
  have hS := l06Nil_ok N M t s ht hs st ss
  rw [thS_free] at hS
  generalize homL N M t s = L at hS
  refine acalls_of_body mix Try.func26 rfl fok26 (Nat.le_of_ble_eq_true rfl) ?_
  unfold abody
  simp only [absE, absL, absF, reduceCtorEq, ↓reduceIte, Nat.reduceEqDiff, Nat.reduceAdd, Nat.reduceLT, Nat.reduceMul, Nat.reduceSub, Nat.reduceLeDiff, Int.reduceLT, Int.reduceLE, Int.reduceEq, Option.isSome_some, implies_true, false_implies, Prod.mk.injEq, ne_eq, not_false_eq_true, not_true_eq_false, ge_iff_le, gt_iff_lt, Int.toNat_natCast, Int.reduceToNat, Int.cast_ofNat_Int, Int.natCast_nonneg, Try.f26]
  refine CallsVia.none (l01Is_ok N t ht) ?_
  rintro _ _ _ ⟨rfl, rfl, rfl⟩
  simp only [absE, absL, absF, reduceCtorEq, ↓reduceIte, Nat.reduceEqDiff, Nat.reduceAdd, Nat.reduceLT, Nat.reduceMul, Nat.reduceSub, Nat.reduceLeDiff, Int.reduceLT, Int.reduceLE, Int.reduceEq, Option.isSome_some, implies_true, false_implies, Prod.mk.injEq, ne_eq, not_false_eq_true, not_true_eq_false, ge_iff_le, gt_iff_lt, Int.toNat_natCast, Int.reduceToNat, Int.cast_ofNat_Int, Int.natCast_nonneg, h1]
  refine CallsVia.none (l01Is_ok M s hs) ?_
  rintro _ _ _ ⟨rfl, rfl, rfl⟩
  simp only [absE, absL, absF, reduceCtorEq, ↓reduceIte, Nat.reduceEqDiff, Nat.reduceAdd, Nat.reduceLT, Nat.reduceMul, Nat.reduceSub, Nat.reduceLeDiff, Int.reduceLT, Int.reduceLE, Int.reduceEq, Option.isSome_some, implies_true, false_implies, Prod.mk.injEq, ne_eq, not_false_eq_true, not_true_eq_false, ge_iff_le, gt_iff_lt, Int.toNat_natCast, Int.reduceToNat, Int.cast_ofNat_Int, Int.natCast_nonneg, h2]
  refine CallsVia.none hS ?_
  rintro _ _ _ (⟨rfl, rfl, rfl, rfl⟩ | ⟨hne, rfl, rfl, rfl⟩)
  · simp only [absE, absL, absF, reduceCtorEq, ↓reduceIte, Nat.reduceEqDiff, Nat.reduceAdd, Nat.reduceLT, Nat.reduceMul, Nat.reduceSub, Nat.reduceLeDiff, Int.reduceLT, Int.reduceLE, Int.reduceEq, Option.isSome_some, implies_true, false_implies, Prod.mk.injEq, ne_eq, not_false_eq_true, not_true_eq_false, ge_iff_le, gt_iff_lt, Int.toNat_natCast, Int.reduceToNat, Int.cast_ofNat_Int, Int.natCast_nonneg, Try.results26]
    exact ⟨[], by simp, by simp, .inr (.inl ⟨rfl, by simp [renV, renVs, renAt], by simp, by simp⟩)⟩
  · by_cases hl : (L.length : Int) > 2000
    · simp only [absE, absL, absF, reduceCtorEq, ↓reduceIte, Nat.reduceEqDiff, Nat.reduceAdd, Nat.reduceLT, Nat.reduceMul, Nat.reduceSub, Nat.reduceLeDiff, Int.reduceLT, Int.reduceLE, Int.reduceEq, Option.isSome_some, implies_true, false_implies, Prod.mk.injEq, ne_eq, not_false_eq_true, not_true_eq_false, ge_iff_le, gt_iff_lt, Int.toNat_natCast, Int.reduceToNat, Int.cast_ofNat_Int, Int.natCast_nonneg, hl, newUps_inn, ob_out, Mem.upd_bagU, assoc_rbag_ne, Try.results26]
      exact ⟨[], by simp, by simp, .inl ⟨by omega, by simp [renV, renVs, renAt], by simp, by simp⟩⟩
    · simp only [absE, absL, absF, reduceCtorEq, ↓reduceIte, Nat.reduceEqDiff, Nat.reduceAdd, Nat.reduceLT, Nat.reduceMul, Nat.reduceSub, Nat.reduceLeDiff, Int.reduceLT, Int.reduceLE, Int.reduceEq, Option.isSome_some, implies_true, false_implies, Prod.mk.injEq, ne_eq, not_false_eq_true, not_true_eq_false, ge_iff_le, gt_iff_lt, Int.toNat_natCast, Int.reduceToNat, Int.cast_ofNat_Int, Int.natCast_nonneg, hl, newUps_inn, ob_out, Mem.upd_bagU, assoc_rbag_ne, Try.results26]
      refine ⟨(16, 0) :: srcs 16 1 L.length, row_nodup (.inr (by decide)), row_keep (by decide) (by decide), .inr (.inr ⟨hne, by omega, by simp [renV, renVs, renAt, renFin, idx, llV], by simp, ?_⟩)⟩
      exact row_map' (p := (16, 0)) (B := 16) (k := 1) (LL := L) (.inr (by decide)) (by decide) (by simp only [Mem.get, assoc]; rw [if_neg (by decide), assoc_rbag_lt (by decide)]; simp [assoc]) fun j hj => by
        simp only [Mem.get]
        rw [if_neg (by decide), assoc_rbag_in hj]
noncomputable def homOk (n : Int) (t : List Int) (m : Int) (s : List Int) : Bool := decide (homC n t m s = 0)
theorem hom_one {n : Int} {t : List Int} {m : Int} {s : List Int} (h : (sqB n t && sqB m s) = false) : homC n t m s = 1 := by unfold homC; rw [h]; rfl
theorem hom_in {n : Int} {t : List Int} {m : Int} {s : List Int} (h : (sqB n t && sqB m s) = true) : ∃ N M : Nat, n = N ∧ m = M ∧ SqP N t ∧ SqP M s ∧ homC N t M s = if 2000 < (homL N M t s).length then 3 else 0 := by
  have h2 := h
  rw [Bool.and_eq_true] at h2
  have st := sqB_iff.1 h2.1
  have ss := sqB_iff.1 h2.2
  obtain ⟨N, rfl⟩ : ∃ N : Nat, n = N := ⟨n.toNat, by have := st.1; omega⟩
  obtain ⟨M, rfl⟩ : ∃ M : Nat, m = M := ⟨m.toNat, by have := ss.1; omega⟩
  exact ⟨N, M, rfl, rfl, st, ss, by unfold homC; rw [h, if_pos rfl]⟩
theorem hom_zero {n : Int} {t : List Int} {m : Int} {s : List Int} (h : homOk n t m s = true) : (sqB n t && sqB m s) = true := by
  have h0 : homC n t m s = 0 := of_decide_eq_true h
  cases hb : (sqB n t && sqB m s)
  · rw [hom_one hb] at h0; cases h0
  · rfl
section
variable (n : Int) (t : List Int) (m : Int) (s : List Int) (ht : Bytes 100 t) (hs : Bytes 100 s)
include ht hs
theorem specHom_bad (h : homOk n t m s = false) : ACalls Try.prog 26 [.agg (sqS n t), .agg (sqS m s)] [] (fun v ms ns => v = .tup [.ref .nils, .i .i64 (homC n t m s)] ∧ ms = [] ∧ ns = []) := by
  have h0 : ¬ homC n t m s = 0 := of_decide_eq_false h
  cases hb : (sqB n t && sqB m s)
  · rw [hom_one hb]; exact specHom_no n t m s ht hs hb
  · obtain ⟨N, M, rfl, rfl, st, ss, e⟩ := hom_in hb
    have hl : 2000 < (homL N M t s).length := by
      apply Decidable.byContradiction; intro hn; rw [e, if_neg hn] at h0; exact h0 rfl
    rw [e, if_pos hl]
    refine (specHom_in N M t s ht hs st ss).mono ?_
    rintro v ms ns (⟨_, rfl, rfl, rfl⟩ | ⟨h1, _⟩ | ⟨_, h1, _⟩)
    · exact ⟨rfl, rfl, rfl⟩
    · rw [h1] at hl; cases hl
    · omega
theorem implHom_bad (h : homOk n t m s = false) : ACalls Try.prog 27 [.agg (sqS n t), .agg (sqS m s)] [] (fun v ms ns => v = .tup [.ref .nils, .i .i64 (homC n t m s)] ∧ ms = [] ∧ ns = []) := by
  have h0 : ¬ homC n t m s = 0 := of_decide_eq_false h
  cases hb : (sqB n t && sqB m s)
  · rw [hom_one hb]; exact implHom_no n t m s ht hs hb
  · obtain ⟨N, M, rfl, rfl, st, ss, e⟩ := hom_in hb
    have hl : 2000 < (homL N M t s).length := by
      apply Decidable.byContradiction; intro hn; rw [e, if_neg hn] at h0; exact h0 rfl
    rw [e, if_pos hl]
    refine (implHom_in N M t s ht hs st ss).mono ?_
    rintro v ms ns (⟨_, rfl, rfl, rfl⟩ | ⟨h1, _⟩)
    · exact ⟨rfl, rfl, rfl⟩
    · omega
theorem specHom_nil (h : homOk n t m s = true) (hz : homL n m t s = []) : ACalls Try.prog 26 [.agg (sqS n t), .agg (sqS m s)] [] (fun v ms ns => v = .tup [.ref .nils, .i .i64 0] ∧ ms = [] ∧ ns = []) := by
  obtain ⟨N, M, rfl, rfl, st, ss, e⟩ := hom_in (hom_zero h)
  refine (specHom_in N M t s ht hs st ss).mono ?_
  rintro v ms ns (⟨h1, _⟩ | ⟨_, rfl, rfl, rfl⟩ | ⟨h1, _⟩)
  · rw [hz] at h1; cases h1
  · exact ⟨rfl, rfl, rfl⟩
  · exact absurd hz h1
theorem specHom_yes (h : homOk n t m s = true) (hz : homL n m t s ≠ []) : ACalls Try.prog 26 [.agg (sqS n t), .agg (sqS m s)] [] (fun v ms ns => v = llV (homL n m t s) ∧ ms = [] ∧ ns = llN (homL n m t s)) := by
  have h0 : homC n t m s = 0 := of_decide_eq_true h
  obtain ⟨N, M, rfl, rfl, st, ss, e⟩ := hom_in (hom_zero h)
  refine (specHom_in N M t s ht hs st ss).mono ?_
  rintro v ms ns (⟨h1, _⟩ | ⟨h1, _⟩ | ⟨_, _, rfl, rfl, rfl⟩)
  · rw [e, if_pos h1] at h0; cases h0
  · exact absurd h1 hz
  · exact ⟨rfl, rfl, rfl⟩
theorem implHom_yes (h : homOk n t m s = true) : ACalls Try.prog 27 [.agg (sqS n t), .agg (sqS m s)] [] (fun v ms ns => v = llV (homL n m t s) ∧ ms = [] ∧ ns = llN (homL n m t s)) := by
  have h0 : homC n t m s = 0 := of_decide_eq_true h
  obtain ⟨N, M, rfl, rfl, st, ss, e⟩ := hom_in (hom_zero h)
  refine (implHom_in N M t s ht hs st ss).mono ?_
  rintro v ms ns (⟨h1, _⟩ | ⟨_, rfl, rfl, rfl⟩)
  · rw [e, if_pos h1] at h0; cases h0
  · exact ⟨rfl, rfl, rfl⟩
end
theorem hom_fits {n : Int} {t : List Int} {m : Int} {s : List Int} (h : homOk n t m s = true) : FitsL (homL n m t s) := by
  obtain ⟨N, M, rfl, rfl, st, ss, _⟩ := hom_in (hom_zero h)
  have hN := st.le
  rw [homL_nat]
  refine ⟨?_, fun i hi => ?_⟩
  · have := hsm_len (N := N) (M := M) (t := t) (s := s) (d := N + 1) (f := freeL) (n := 0) (by omega)
    omega
  · rw [hsm_rows (N := N) _ (by rw [at_lt hi]; exact List.getElem_mem _)]; omega
def ebk : Blk := .lv true [(0, .cells 0 [])]
theorem eqLists_bn : ACalls Try.prog 18 [.ref (.sl 0 0 0 0 0 1), .ref .nils] [ebk] (fun v ms ns => v = .b true ∧ ms = [ebk] ∧ ns = []) := by
  unfold ebk
  refine acalls_of_body mix Try.func18 rfl fok18 (Nat.le_of_ble_eq_true rfl) ?_
  unfold abody
  simp only [absE, absL, absF, reduceCtorEq, ↓reduceIte, Nat.reduceEqDiff, Nat.reduceAdd, Nat.reduceLT, Nat.reduceMul, Nat.reduceSub, Nat.reduceLeDiff, Int.reduceLT, Int.reduceLE, Int.reduceEq, Option.isSome_some, implies_true, false_implies, Prod.mk.injEq, ne_eq, not_false_eq_true, not_true_eq_false, ge_iff_le, gt_iff_lt, Int.toNat_natCast, Int.reduceToNat, Int.cast_ofNat_Int, Int.natCast_nonneg, Try.f18]
  refine awpLoop.intro (fun i : Nat => [(0, .ref (.sl 0 0 0 0 0 1)), (1, .ref .nils), (5, .i .i64 i)]) (fun i => ⟨[.lv true [(0, .cells 0 [])]], [], 8⟩) (fun i => i = 0) (fun i => 0) 0 rfl ⟨[], rfl, ?_, ?_⟩ ?_
  · simp [wkEnv, lk, renV, renAt, renTo]
  · simp [wkMem, wkLoc, Mem.get, assoc, renBlk, renSegs, renSg, renAt, renCaps, renTo]
  · rintro i rfl
    simp only [absE, absL, absF, reduceCtorEq, ↓reduceIte, Nat.reduceEqDiff, Nat.reduceAdd, Nat.reduceLT, Nat.reduceMul, Nat.reduceSub, Nat.reduceLeDiff, Int.reduceLT, Int.reduceLE, Int.reduceEq, Option.isSome_some, implies_true, false_implies, Prod.mk.injEq, ne_eq, not_false_eq_true, not_true_eq_false, ge_iff_le, gt_iff_lt, Int.toNat_natCast, Int.reduceToNat, Int.cast_ofNat_Int, Int.natCast_nonneg, Int.lt_irrefl, Try.results18]
    exact ⟨[], by simp, by simp, by simp [renV], by simp [renBlk, renSegs, renSg], by simp⟩
theorem markLists_e : ACalls Try.prog 19 [.ref (.sl 0 0 0 0 0 1), .i .i64 1] [ebk] (fun v ms ns => v = .i .i64 1 ∧ ms = [ebk] ∧ ns = []) :=
  markLists_ok [] 1 (by decide) (by decide)
theorem heldLists_e : ACalls Try.prog 20 [.ref (.sl 0 0 0 0 0 1), .i .i64 1] [ebk] (fun v ms ns => v = .i .i64 1 ∧ ms = [ebk] ∧ ns = []) :=
  heldLists_ok [] 1 (by decide) (by decide)
theorem implHom_nil (n : Int) (t : List Int) (m : Int) (s : List Int) (ht : Bytes 100 t) (hs : Bytes 100 s) (h : homOk n t m s = true) (hz : homL n m t s = []) :
    ACalls Try.prog 27 [.agg (sqS n t), .agg (sqS m s)] [] (fun v ms ns => v = .tup [.ref (.sl 1 0 0 0 0 1), .i .i64 0] ∧ ms = [] ∧ ns = [ebk]) := by
  have h0 := implHom_yes n t m s ht hs h
  rw [hz] at h0
  exact h0
theorem chk_h {ops : List Oper} {j : Nat} {wr rd : List Abs.Id} : ∀ {h : Hist} {l : List Nat}, h.map (fun x => x.1) = l → (l.all fun i => ordB ops i j) = true → chk ops j wr rd h
  | [], _, _, _ => trivial
  | (i, wr', rd') :: r, _, rfl, hh => by
    simp only [List.map_cons, List.all_cons, Bool.and_eq_true] at hh
    refine ⟨?_, chk_h rfl hh.2⟩
    rw [hh.1, Bool.or_true]

end Go.Proofs.Ytgblnnodoabdeaa
