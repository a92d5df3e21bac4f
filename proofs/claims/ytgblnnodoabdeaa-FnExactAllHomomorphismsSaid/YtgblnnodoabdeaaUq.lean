/-
Contracts of functions of the given program, by the abstract walk.
-/
import Derived.Test.YtgblnnodoabdeaaAbsY
import Derived.Test.YtgblnnodoabdeaaUp
namespace Go.Proofs.Ytgblnnodoabdeaa
open Go Go.Abs
set_option linter.unusedVariables false
set_option linter.unusedSectionVars false
set_option linter.unusedSimpArgs false
set_option maxRecDepth 100000
/-! isomorphisms: the program's automorphisms -/
def fzL (i : Nat) : List Int := (List.range 10).map fun j => if j < i then 255 else 0
theorem fzL_set {i : Nat} (hi : i < 10) : (fzL i).set i 255 = fzL (i + 1) := by
  refine ext_getD (by simp [fzL]) fun j hj => ?_
  have hj : j < 10 := by simpa [fzL] using hj
  have e : ∀ k, (fzL k).getD j 0 = if j < k then 255 else 0 := fun k => by
    unfold fzL; rw [List.getD_eq_getElem?_getD, List.getElem?_map, List.getElem?_range hj]; rfl
  rw [getD_set_int (by simp [fzL]; exact hi), e, e]
  by_cases h : i = j
  · rw [if_pos h, if_pos (by omega)]
  · rw [if_neg h]
    by_cases h2 : j < i
    · rw [if_pos h2, if_pos (by omega)]
    · rw [if_neg h2, if_neg (by omega)]
theorem fzL_ten : fzL 10 = freeL := by decide
theorem free_frS {N : Nat} (hN : N ≤ 10) : frS N freeL = freeL := by
  refine ext_getD (by simp [frS, freeL]) fun j hj => ?_
  have hj : j < 10 := by simpa [frS] using hj
  have e : freeL.getD j 0 = 255 := by
    unfold freeL; rw [List.getD_eq_getElem?_getD, List.getElem?_replicate, if_pos hj]; rfl
  rw [e, frS_free hN hj]
  intro c hc
  rw [free_pl (by omega)]; omega
theorem isomorphisms_ok (N : Nat) (t s : List Int) (ht : Bytes 100 t) (hs : Bytes 100 s) (st : SqP N t) (ss : SqP N s) :
    ACalls Try.prog 67 [.agg (sqS N t), .agg (sqS N s), .ref (.fn 110 [(0, 0, 0, 0)])] [ceB (.sl 0 1 0 0 0 10), plB []]
      (fun v ms ns => v = .tup [] ∧ ((isoM 1000000 N t s = [] ∧ ms = [ceB (.sl 0 1 0 0 0 10), plB []] ∧ ns = []) ∨ (ms = [ceB (.sl 1 0 0 0 (isoM 1000000 N t s).length 10), .dead] ∧ ns = [plB (isoM 1000000 N t s)]))) := by
  have hN := st.le
  have hS := search_ok N t s ht hs st ss (N + 1) freeL [] (free_good hN) (by omega) (by rw [free_cnt hN]; decide)
  rw [isoM_all st ss]
  generalize ism N t s noM (N + 1) freeL [] = L' at hS
  have hfr := free_frS hN
  rw [hfr] at hS
  unfold iArgs ceB plB at hS
  unfold ceB plB
  refine acalls_of_body mix Try.func67 rfl fok67 (Nat.le_of_ble_eq_true rfl) ?_
  unfold abody
  simp only [absE, absL, absF, reduceCtorEq, ↓reduceIte, Nat.reduceEqDiff, Nat.reduceAdd, Nat.reduceLT, Nat.reduceMul, Nat.reduceSub, Nat.reduceLeDiff, Int.reduceLT, Int.reduceLE, Int.reduceEq, Option.isSome_some, implies_true, false_implies, Prod.mk.injEq, ne_eq, not_false_eq_true, not_true_eq_false, ge_iff_le, gt_iff_lt, Int.toNat_natCast, Int.reduceToNat, Int.cast_ofNat_Int, Int.natCast_nonneg, Try.f67]
  refine awpLoop.intro (fun i : Nat => [(3, .ref (.ptr 1 0 0 0)), (5, .ref (.ptr 3 0 0 0)), (6, .ref (.ptr 12 0 0 0)), (17, .i .i64 i)]) (fun i => ⟨[.lv true [(0, .cells 1 [.sl 0 1 0 0 0 10])], .lv true [(0, .ints .u8 (([] : List (List Int)).length * 10) [].flatten)]], [((1, 0), .lv true (sqS N t)), ((3, 0), .lv true ([(0, .cells 1 [.fn 110 [(0, 0, 0, 0)]])])), ((12, 0), .lv true (ldS N t N s (fzL i) (fzL i)))], 30⟩) (fun i => i ≤ 10) (fun i => 10 - i) 0 (by omega) ⟨[((1,0),(1,0)), ((3,0),(3,0)), ((12,0),(12,0))], rfl, ?_, ?_⟩ ?_
  · simp [wkEnv, lk, renV, renAt, renTo]
  · simp [wkMem, wkLoc, Mem.get, assoc, renBlk, renSegs, renSg, renAt, renCaps, renTo, fzL]; decide
  · intro i hi
    by_cases h : (i : Int) < 10
    · have w := wrap_i64s (show i < 2 ^ 62 by omega)
      have i11 : 0 + i * 1 + 1 ≤ 10 := by omega
      have es : (fzL i).set (0 + i * 1) 255 = fzL (i + 1) := by rw [Nat.zero_add, Nat.mul_one]; exact fzL_set (by omega)
      simp only [absE, absL, absF, reduceCtorEq, ↓reduceIte, Nat.reduceEqDiff, Nat.reduceAdd, Nat.reduceLT, Nat.reduceMul, Nat.reduceSub, Nat.reduceLeDiff, Int.reduceLT, Int.reduceLE, Int.reduceEq, Option.isSome_some, implies_true, false_implies, Prod.mk.injEq, ne_eq, not_false_eq_true, not_true_eq_false, ge_iff_le, gt_iff_lt, Int.toNat_natCast, Int.reduceToNat, Int.cast_ofNat_Int, Int.natCast_nonneg, h, i11, es]
      repeat first | refine And.intro (by decide +kernel) ?_ | refine And.intro (by omega) ?_
      refine LoopNext.intro (i + 1) (by omega) (by omega) ⟨[((1,0),(1,0)), ((3,0),(3,0)), ((12,0),(12,0))], rfl, ?_, ?_⟩
      · simp [wkEnv, lk, renV, renAt, renTo, w]
      · simp [wkMem, wkLoc, Mem.get, assoc, renBlk, renSegs, renSg, renAt, renCaps, renTo]
    · obtain rfl : i = 10 := by omega
      simp only [absE, absL, absF, reduceCtorEq, ↓reduceIte, Nat.reduceEqDiff, Nat.reduceAdd, Nat.reduceLT, Nat.reduceMul, Nat.reduceSub, Nat.reduceLeDiff, Int.reduceLT, Int.reduceLE, Int.reduceEq, Option.isSome_some, implies_true, false_implies, Prod.mk.injEq, ne_eq, not_false_eq_true, not_true_eq_false, ge_iff_le, gt_iff_lt, Int.toNat_natCast, Int.reduceToNat, Int.cast_ofNat_Int, Int.natCast_nonneg, h, fzL_ten]
      refine CallsVia.args [(1, 0), (31, 0), (3, 0), (0, 0), (0, 1)] hS (by simp) (by simp [Mem.get, assoc]) rfl rfl ?_
      rintro _ _ _ ⟨rfl, (⟨hsame, rfl, rfl⟩ | ⟨rfl, rfl⟩)⟩
      · simp only [absE, absL, absF, reduceCtorEq, ↓reduceIte, Nat.reduceEqDiff, Nat.reduceAdd, Nat.reduceLT, Nat.reduceMul, Nat.reduceSub, Nat.reduceLeDiff, Int.reduceLT, Int.reduceLE, Int.reduceEq, Option.isSome_some, implies_true, false_implies, Prod.mk.injEq, ne_eq, not_false_eq_true, not_true_eq_false, ge_iff_le, gt_iff_lt, Int.toNat_natCast, Int.reduceToNat, Int.cast_ofNat_Int, Int.natCast_nonneg, iArgs, ceB, plB, Try.results67]
        exact ⟨[], by simp, by simp, by simp [renV, renVs], .inl ⟨hsame, by simp [renBlk, renSegs, renSg, renAt, renOut, renFin], by simp⟩⟩
      · simp only [absE, absL, absF, reduceCtorEq, ↓reduceIte, Nat.reduceEqDiff, Nat.reduceAdd, Nat.reduceLT, Nat.reduceMul, Nat.reduceSub, Nat.reduceLeDiff, Int.reduceLT, Int.reduceLE, Int.reduceEq, Option.isSome_some, implies_true, false_implies, Prod.mk.injEq, ne_eq, not_false_eq_true, not_true_eq_false, ge_iff_le, gt_iff_lt, Int.toNat_natCast, Int.reduceToNat, Int.cast_ofNat_Int, Int.natCast_nonneg, iArgs, ceB, plB, Try.results67]
        exact ⟨[(36, 0)], by simp, by simp, by simp [renV, renVs], .inr ⟨by simp [renBlk, renSegs, renSg, renAt, renOut, renFin, idx], by simp [Mem.get, assoc, renBlk, renSegs, renSg]⟩⟩
theorem allIso_ok (N : Nat) (t s : List Int) (ht : Bytes 100 t) (hs : Bytes 100 s) (st : SqP N t) (ss : SqP N s) :
    ACalls Try.prog 64 [.agg (sqS N t), .agg (sqS N s)] [] (fun v ms ns => v = .ref (.sl 1 0 0 0 (isoM 1000000 N t s).length 10) ∧ ms = [] ∧ ns = [plB (isoM 1000000 N t s)]) := by
  have hI := isomorphisms_ok N t s ht hs st ss
  unfold ceB plB at hI
  generalize isoM 1000000 N t s = L' at hI
  refine acalls_of_body mix Try.func64 rfl fok64 (Nat.le_of_ble_eq_true rfl) ?_
  unfold abody
  simp only [absE, absL, absF, reduceCtorEq, ↓reduceIte, Nat.reduceEqDiff, Nat.reduceAdd, Nat.reduceLT, Nat.reduceMul, Nat.reduceSub, Nat.reduceLeDiff, Int.reduceLT, Int.reduceLE, Int.reduceEq, Option.isSome_some, implies_true, false_implies, Prod.mk.injEq, ne_eq, not_false_eq_true, not_true_eq_false, ge_iff_le, gt_iff_lt, Int.toNat_natCast, Int.reduceToNat, Int.cast_ofNat_Int, Int.natCast_nonneg, Try.f64]
  refine CallsVia.args [(5, 0), (4, 0)] hI (by simp) (by simp [Mem.get, assoc]) rfl (by simp [argBlks, Mem.get, assoc, renBlk, renSegs, renSg, renAt, renIn, idx]) ?_
  rintro _ _ _ ⟨rfl, (⟨rfl, rfl, rfl⟩ | ⟨rfl, rfl⟩)⟩
  · simp only [absE, absL, absF, reduceCtorEq, ↓reduceIte, Nat.reduceEqDiff, Nat.reduceAdd, Nat.reduceLT, Nat.reduceMul, Nat.reduceSub, Nat.reduceLeDiff, Int.reduceLT, Int.reduceLE, Int.reduceEq, Option.isSome_some, implies_true, false_implies, Prod.mk.injEq, ne_eq, not_false_eq_true, not_true_eq_false, ge_iff_le, gt_iff_lt, Int.toNat_natCast, Int.reduceToNat, Int.cast_ofNat_Int, Int.natCast_nonneg, Try.results64]
    exact ⟨[(4, 0)], by simp, by simp, by simp [renV, renAt, renOut, renFin, idx], by simp, by simp [plB, Mem.get, assoc, renBlk, renSegs, renSg]⟩
  · simp only [absE, absL, absF, reduceCtorEq, ↓reduceIte, Nat.reduceEqDiff, Nat.reduceAdd, Nat.reduceLT, Nat.reduceMul, Nat.reduceSub, Nat.reduceLeDiff, Int.reduceLT, Int.reduceLE, Int.reduceEq, Option.isSome_some, implies_true, false_implies, Prod.mk.injEq, ne_eq, not_false_eq_true, not_true_eq_false, ge_iff_le, gt_iff_lt, Int.toNat_natCast, Int.reduceToNat, Int.cast_ofNat_Int, Int.natCast_nonneg, Try.results64]
    exact ⟨[(10, 0)], by simp, by simp, by simp [renV, renAt, renOut, renFin, idx], by simp, by simp [plB, Mem.get, assoc, renBlk, renSegs, renSg]⟩
theorem implAut_no (n : Int) (t : List Int) (ht : Bytes 100 t) (h : autC n t ≠ 0) : ACalls Try.prog 29 [.agg (sqS n t)] [] (fun v ms ns => v = .tup [.ref .nils, .i .i64 (autC n t)] ∧ ms = [] ∧ ns = []) := by
  obtain ⟨h1, h2⟩ := autC_one h
  refine acalls_of_body mix Try.func29 rfl fok29 (Nat.le_of_ble_eq_true rfl) ?_
  unfold abody
  simp only [absE, absL, absF, reduceCtorEq, ↓reduceIte, Nat.reduceEqDiff, Nat.reduceAdd, Nat.reduceLT, Nat.reduceMul, Nat.reduceSub, Nat.reduceLeDiff, Int.reduceLT, Int.reduceLE, Int.reduceEq, Option.isSome_some, implies_true, false_implies, Prod.mk.injEq, ne_eq, not_false_eq_true, not_true_eq_false, ge_iff_le, gt_iff_lt, Int.toNat_natCast, Int.reduceToNat, Int.cast_ofNat_Int, Int.natCast_nonneg, Try.f29]
  refine CallsVia.none (isSquare_ok n t ht) ?_
  rintro _ _ _ ⟨rfl, rfl, rfl⟩
  simp only [absE, absL, absF, reduceCtorEq, ↓reduceIte, Nat.reduceEqDiff, Nat.reduceAdd, Nat.reduceLT, Nat.reduceMul, Nat.reduceSub, Nat.reduceLeDiff, Int.reduceLT, Int.reduceLE, Int.reduceEq, Option.isSome_some, implies_true, false_implies, Prod.mk.injEq, ne_eq, not_false_eq_true, not_true_eq_false, ge_iff_le, gt_iff_lt, Int.toNat_natCast, Int.reduceToNat, Int.cast_ofNat_Int, Int.natCast_nonneg, h1, Try.results29]
  exact ⟨[], by simp, by simp, by simp [renV, renVs, renSegs, renSg, h2, renAt]⟩
theorem implAut_yes (n : Int) (t : List Int) (ht : Bytes 100 t) (h : autC n t = 0) : ACalls Try.prog 29 [.agg (sqS n t)] [] (fun v ms ns => v = .tup [.ref (.sl 1 0 0 0 (autR n t).length 10), .i .i64 0] ∧ ms = [] ∧ ns = [plB (autR n t)]) := by
  have hs := autC_zero h
  have hb := sqB_true hs
  obtain ⟨N, rfl⟩ : ∃ N : Nat, n = N := ⟨n.toNat, by have := hs.1; omega⟩
  have hA := allIso_ok N t t ht ht hs hs
  unfold autR
  rw [Int.toNat_natCast]
  refine acalls_of_body mix Try.func29 rfl fok29 (Nat.le_of_ble_eq_true rfl) ?_
  unfold abody
  simp only [absE, absL, absF, reduceCtorEq, ↓reduceIte, Nat.reduceEqDiff, Nat.reduceAdd, Nat.reduceLT, Nat.reduceMul, Nat.reduceSub, Nat.reduceLeDiff, Int.reduceLT, Int.reduceLE, Int.reduceEq, Option.isSome_some, implies_true, false_implies, Prod.mk.injEq, ne_eq, not_false_eq_true, not_true_eq_false, ge_iff_le, gt_iff_lt, Int.toNat_natCast, Int.reduceToNat, Int.cast_ofNat_Int, Int.natCast_nonneg, Try.f29]
  refine CallsVia.none (isSquare_ok N t ht) ?_
  rintro _ _ _ ⟨rfl, rfl, rfl⟩
  simp only [absE, absL, absF, reduceCtorEq, ↓reduceIte, Nat.reduceEqDiff, Nat.reduceAdd, Nat.reduceLT, Nat.reduceMul, Nat.reduceSub, Nat.reduceLeDiff, Int.reduceLT, Int.reduceLE, Int.reduceEq, Option.isSome_some, implies_true, false_implies, Prod.mk.injEq, ne_eq, not_false_eq_true, not_true_eq_false, ge_iff_le, gt_iff_lt, Int.toNat_natCast, Int.reduceToNat, Int.cast_ofNat_Int, Int.natCast_nonneg, hb]
  refine CallsVia.none (hA) ?_
  rintro _ _ _ ⟨rfl, rfl, rfl⟩
  simp only [absE, absL, absF, reduceCtorEq, ↓reduceIte, Nat.reduceEqDiff, Nat.reduceAdd, Nat.reduceLT, Nat.reduceMul, Nat.reduceSub, Nat.reduceLeDiff, Int.reduceLT, Int.reduceLE, Int.reduceEq, Option.isSome_some, implies_true, false_implies, Prod.mk.injEq, ne_eq, not_false_eq_true, not_true_eq_false, ge_iff_le, gt_iff_lt, Int.toNat_natCast, Int.reduceToNat, Int.cast_ofNat_Int, Int.natCast_nonneg, Try.results29]
  exact ⟨[(9, 0)], by simp, by simp, by simp [renV, renVs, renAt, renFin, idx], by simp, by simp [plB, Mem.get, assoc, renBlk, renSegs, renSg]⟩
theorem implCntA_ok (n : Int) (t : List Int) (ht : Bytes 100 t) : ACalls Try.prog 22 [.agg (sqS n t)] [] (fun v ms ns => v = autN n t ∧ ms = [] ∧ ns = []) := by
  by_cases h : autC n t = 0
  · have hs := autC_zero h
    have hb := sqB_true hs
    have e : autN n t = .tup [.i .i64 (((autR n t).length : Nat) : Int), .i .i64 0] := by unfold autN; rw [if_pos h, h]
    obtain ⟨N, rfl⟩ : ∃ N : Nat, n = N := ⟨n.toNat, by have := hs.1; omega⟩
    have hA := allIso_ok N t t ht ht hs hs
    rw [e]
    unfold autR
    rw [Int.toNat_natCast]
    refine acalls_of_body mix Try.func22 rfl fok22 (Nat.le_of_ble_eq_true rfl) ?_
    unfold abody
    simp only [absE, absL, absF, reduceCtorEq, ↓reduceIte, Nat.reduceEqDiff, Nat.reduceAdd, Nat.reduceLT, Nat.reduceMul, Nat.reduceSub, Nat.reduceLeDiff, Int.reduceLT, Int.reduceLE, Int.reduceEq, Option.isSome_some, implies_true, false_implies, Prod.mk.injEq, ne_eq, not_false_eq_true, not_true_eq_false, ge_iff_le, gt_iff_lt, Int.toNat_natCast, Int.reduceToNat, Int.cast_ofNat_Int, Int.natCast_nonneg, Try.f22]
    refine CallsVia.none (isSquare_ok N t ht) ?_
    rintro _ _ _ ⟨rfl, rfl, rfl⟩
    simp only [absE, absL, absF, reduceCtorEq, ↓reduceIte, Nat.reduceEqDiff, Nat.reduceAdd, Nat.reduceLT, Nat.reduceMul, Nat.reduceSub, Nat.reduceLeDiff, Int.reduceLT, Int.reduceLE, Int.reduceEq, Option.isSome_some, implies_true, false_implies, Prod.mk.injEq, ne_eq, not_false_eq_true, not_true_eq_false, ge_iff_le, gt_iff_lt, Int.toNat_natCast, Int.reduceToNat, Int.cast_ofNat_Int, Int.natCast_nonneg, hb]
    refine CallsVia.none (hA) ?_
    rintro _ _ _ ⟨rfl, rfl, rfl⟩
    simp only [absE, absL, absF, reduceCtorEq, ↓reduceIte, Nat.reduceEqDiff, Nat.reduceAdd, Nat.reduceLT, Nat.reduceMul, Nat.reduceSub, Nat.reduceLeDiff, Int.reduceLT, Int.reduceLE, Int.reduceEq, Option.isSome_some, implies_true, false_implies, Prod.mk.injEq, ne_eq, not_false_eq_true, not_true_eq_false, ge_iff_le, gt_iff_lt, Int.toNat_natCast, Int.reduceToNat, Int.cast_ofNat_Int, Int.natCast_nonneg, Try.results22]
    exact ⟨[], by simp, by simp, by simp [renV, renVs, renSegs, renSg]⟩
  · obtain ⟨h1, h2⟩ := autC_one h
    have e : autN n t = .tup [.i .i64 0, .i .i64 (autC n t)] := by unfold autN; rw [if_neg h]
    rw [e]
    refine acalls_of_body mix Try.func22 rfl fok22 (Nat.le_of_ble_eq_true rfl) ?_
    unfold abody
    simp only [absE, absL, absF, reduceCtorEq, ↓reduceIte, Nat.reduceEqDiff, Nat.reduceAdd, Nat.reduceLT, Nat.reduceMul, Nat.reduceSub, Nat.reduceLeDiff, Int.reduceLT, Int.reduceLE, Int.reduceEq, Option.isSome_some, implies_true, false_implies, Prod.mk.injEq, ne_eq, not_false_eq_true, not_true_eq_false, ge_iff_le, gt_iff_lt, Int.toNat_natCast, Int.reduceToNat, Int.cast_ofNat_Int, Int.natCast_nonneg, Try.f22]
    refine CallsVia.none (isSquare_ok n t ht) ?_
    rintro _ _ _ ⟨rfl, rfl, rfl⟩
    simp only [absE, absL, absF, reduceCtorEq, ↓reduceIte, Nat.reduceEqDiff, Nat.reduceAdd, Nat.reduceLT, Nat.reduceMul, Nat.reduceSub, Nat.reduceLeDiff, Int.reduceLT, Int.reduceLE, Int.reduceEq, Option.isSome_some, implies_true, false_implies, Prod.mk.injEq, ne_eq, not_false_eq_true, not_true_eq_false, ge_iff_le, gt_iff_lt, Int.toNat_natCast, Int.reduceToNat, Int.cast_ofNat_Int, Int.natCast_nonneg, h1, Try.results22]
    exact ⟨[], by simp, by simp, by simp [renV, renVs, renSegs, renSg, h2]⟩
theorem cntA_form (n : Int) (t : List Int) (ht : Bytes 100 t) : ∃ k e, autN n t = .tup [.i .i64 k, .i .i64 e] := ⟨_, _, rfl⟩
theorem ism_rows {N : Nat} {t s : List Int} {lim : Nat → Bool} : ∀ {d f L}, (∀ p ∈ L, p.length = 10) → ∀ p ∈ ism N t s lim d f L, p.length = 10
  | 0, _, _, h => h
  | d + 1, f, L, h => by
    rw [ism]
    split
    · have key : ∀ y, ∀ p ∈ ismIn N t s lim (ism N t s lim d) f (fnd (pl f) 255 N) y L, p.length = 10 := by
        intro y
        induction y with
        | zero => exact h
        | succ y ih =>
          rw [ismIn]
          split
          · split
            · exact ism_rows ih
            · exact ih
          · exact ih
      exact key N
    · intro p hp
      rcases List.mem_append.1 hp with hp | hp
      · exact h p hp
      · simp at hp; subst hp; exact mapL_len
theorem aut_facts {n : Int} {t : List Int} (h : autC n t = 0) : (autR n t).length < 2 ^ 40 ∧ Maps (autR n t) := by
  have hs := autC_zero h
  obtain ⟨N, rfl⟩ : ∃ N : Nat, n = N := ⟨n.toNat, by have := hs.1; omega⟩
  refine ⟨?_, ism_rows (by simp)⟩
  have : (autR N t).length ≤ 1000000 := ism_len (by simp)
  omega

end Go.Proofs.Ytgblnnodoabdeaa
