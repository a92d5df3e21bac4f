/-
Contracts of functions of the given program, by the abstract walk.
-/
import Derived.Test.YtjmenocghjggcaaAbsY
import Derived.Test.YtjmenocghjggcaaOm
namespace Go.Proofs.Ytjmenocghjggcaa
open Go Go.Abs
set_option linter.unusedVariables false
set_option linter.unusedSectionVars false
set_option linter.unusedSimpArgs false
set_option maxRecDepth 100000
/-! mates: whether a transversal meets one that is taken -/
theorem meet_ok (N : Nat) (p q : List Int) (hN : N ≤ 10) (hp : p.length = 10) (hq : q.length = 10) : ACalls Try.prog 49 [.agg (plS p), .agg (plS q), .i .i64 N] [] (fun v ms ns => v = .b (meetB N p q) ∧ ms = [] ∧ ns = []) := by
  refine acalls_of_body mix Try.func49 rfl fok49 (Nat.le_of_ble_eq_true rfl) ?_
  unfold abody
  simp only [absE, absL, absF, reduceCtorEq, ↓reduceIte, Nat.reduceEqDiff, Nat.reduceAdd, Nat.reduceLT, Nat.reduceMul, Nat.reduceSub, Nat.reduceLeDiff, Int.reduceLT, Int.reduceLE, Int.reduceEq, Option.isSome_some, implies_true, false_implies, Prod.mk.injEq, ne_eq, not_false_eq_true, not_true_eq_false, ge_iff_le, gt_iff_lt, Int.toNat_natCast, Int.reduceToNat, Int.cast_ofNat_Int, Int.natCast_nonneg, Try.f49]
  refine awpLoop.intro (fun i : Nat => [(3, .ref (.ptr 1 0 0 0)), (4, .ref (.ptr 2 0 0 0)), (8, .i .i64 N), (9, .i .i64 i)]) (fun i => ⟨[], [((1, 0), .lv true (plS p)), ((2, 0), .lv true (plS q))], 10⟩)
    (fun i => i ≤ N ∧ ∀ j, j < i → p.getD j 0 ≠ q.getD j 0) (fun i => N - i) 0 ⟨by omega, fun j hj => absurd hj (by omega)⟩ ⟨[((1,0),(1,0)), ((2,0),(2,0))], rfl, ?_, ?_⟩ ?_
  · simp [wkEnv, lk, renV, renAt, renTo, hN]
  · simp [wkMem, wkLoc, Mem.get, assoc, renBlk, renSegs, renSg, renTo, hN]
  · rintro i ⟨hi, hj⟩
    by_cases h : (i : Int) < N
    · have w := wrap_i64s (show i < 2 ^ 62 by omega)
      have hiN : i < N := by omega
      have i1 : (i : Int) < 10 := by omega
      have v1 : 0 + i * 1 < 10 := by omega
      have e1 : ∀ l : List Int, l.getD (0 + i * 1) 0 = l.getD i 0 := fun l => by rw [Nat.zero_add, Nat.mul_one]
      simp only [absE, absL, absF, reduceCtorEq, ↓reduceIte, Nat.reduceEqDiff, Nat.reduceAdd, Nat.reduceLT, Nat.reduceMul, Nat.reduceSub, Nat.reduceLeDiff, Int.reduceLT, Int.reduceLE, Int.reduceEq, Option.isSome_some, implies_true, false_implies, Prod.mk.injEq, ne_eq, not_false_eq_true, not_true_eq_false, ge_iff_le, gt_iff_lt, Int.toNat_natCast, Int.reduceToNat, Int.cast_ofNat_Int, Int.natCast_nonneg, h, i1, v1, e1]
      by_cases he : p.getD i 0 = q.getD i 0
      · have hm : meetB N p q = true := meetB_iff.2 ⟨i, hiN, he⟩
        simp only [absE, absL, absF, reduceCtorEq, ↓reduceIte, Nat.reduceEqDiff, Nat.reduceAdd, Nat.reduceLT, Nat.reduceMul, Nat.reduceSub, Nat.reduceLeDiff, Int.reduceLT, Int.reduceLE, Int.reduceEq, Option.isSome_some, implies_true, false_implies, Prod.mk.injEq, ne_eq, not_false_eq_true, not_true_eq_false, ge_iff_le, gt_iff_lt, Int.toNat_natCast, Int.reduceToNat, Int.cast_ofNat_Int, Int.natCast_nonneg, he, Try.results49]
        exact ⟨[], by simp, by simp, by simp [renV, renVs, renSegs, renSg, hm]⟩
      · simp only [absE, absL, absF, reduceCtorEq, ↓reduceIte, Nat.reduceEqDiff, Nat.reduceAdd, Nat.reduceLT, Nat.reduceMul, Nat.reduceSub, Nat.reduceLeDiff, Int.reduceLT, Int.reduceLE, Int.reduceEq, Option.isSome_some, implies_true, false_implies, Prod.mk.injEq, ne_eq, not_false_eq_true, not_true_eq_false, ge_iff_le, gt_iff_lt, Int.toNat_natCast, Int.reduceToNat, Int.cast_ofNat_Int, Int.natCast_nonneg, he]
        refine LoopNext.intro (i + 1) ⟨by omega, fun j hj' => ?_⟩ (by omega) ⟨[((1,0),(1,0)), ((2,0),(2,0))], rfl, ?_, ?_⟩
        · by_cases e : j = i
          · subst e; exact he
          · exact hj j (by omega)
        · simp [wkEnv, lk, renV, renAt, renTo, w]
        · simp [wkMem, wkLoc, Mem.get, assoc, renBlk, renSegs, renSg, renTo, w]
    · have hm : meetB N p q = false := Bool.eq_false_iff.2 fun hh => by
        obtain ⟨i', h1, h2⟩ := meetB_iff.1 hh
        exact hj i' (by omega) h2
      simp only [absE, absL, absF, reduceCtorEq, ↓reduceIte, Nat.reduceEqDiff, Nat.reduceAdd, Nat.reduceLT, Nat.reduceMul, Nat.reduceSub, Nat.reduceLeDiff, Int.reduceLT, Int.reduceLE, Int.reduceEq, Option.isSome_some, implies_true, false_implies, Prod.mk.injEq, ne_eq, not_false_eq_true, not_true_eq_false, ge_iff_le, gt_iff_lt, Int.toNat_natCast, Int.reduceToNat, Int.cast_ofNat_Int, Int.natCast_nonneg, h, Try.results49]
      exact ⟨[], by simp, by simp, by simp [renV, renVs, renSegs, renSg, hm]⟩
theorem meets_ok (N : Nat) (t p q : List Int) (hN : N ≤ 10) (hp : p.length = 10) (hq : q.length = 10) :
    ACalls Try.prog 48 [.agg (plS q), .ref (.ptr 0 0 0 0), .ref (.ptr 0 1 0 0)] [.lv true (plS p), .lv true (sqS N t)] (fun v ms ns => v = .b (meetB N p q) ∧ ms = [.lv true (plS p), .lv true (sqS N t)] ∧ ns = []) := by
  refine acalls_of_body mix Try.func48 rfl fok48 (Nat.le_of_ble_eq_true rfl) ?_
  unfold abody
  simp only [absE, absL, absF, reduceCtorEq, ↓reduceIte, Nat.reduceEqDiff, Nat.reduceAdd, Nat.reduceLT, Nat.reduceMul, Nat.reduceSub, Nat.reduceLeDiff, Int.reduceLT, Int.reduceLE, Int.reduceEq, Option.isSome_some, implies_true, false_implies, Prod.mk.injEq, ne_eq, not_false_eq_true, not_true_eq_false, ge_iff_le, gt_iff_lt, Int.toNat_natCast, Int.reduceToNat, Int.cast_ofNat_Int, Int.natCast_nonneg, Try.f48]
  refine CallsVia.none (meet_ok N p q hN hp hq) ?_
  rintro _ _ _ ⟨rfl, rfl, rfl⟩
  simp only [absE, absL, absF, reduceCtorEq, ↓reduceIte, Nat.reduceEqDiff, Nat.reduceAdd, Nat.reduceLT, Nat.reduceMul, Nat.reduceSub, Nat.reduceLeDiff, Int.reduceLT, Int.reduceLE, Int.reduceEq, Option.isSome_some, implies_true, false_implies, Prod.mk.injEq, ne_eq, not_false_eq_true, not_true_eq_false, ge_iff_le, gt_iff_lt, Int.toNat_natCast, Int.reduceToNat, Int.cast_ofNat_Int, Int.natCast_nonneg, Try.results48]
  exact ⟨[], by simp, by simp, by simp [renV, renVs, renSegs, renSg, hN, plSB_ren, sqB_ren]⟩
theorem indexFunc2_ok (Ls : List (List Int)) (M : Nat) (F : List Int) (f : FuncId) (P : List Int → Bool) (g0 g1 : Segs) (e0 : ∀ ρ, renSegs ρ g0 = g0) (e1 : ∀ ρ, renSegs ρ g1 = g1) (hF : ∀ i, i < Ls.length → (F.drop (i * 10)).take 10 = Ls.getD i []) (hFl : F.length = M * 10) (hM : Ls.length ≤ M) (hl : M < 2 ^ 30)
    (hf : ∀ p ∈ Ls, ACalls Try.prog f [.agg (plS p), .ref (.ptr 0 0 0 0), .ref (.ptr 0 1 0 0)] [.lv true g0, .lv true g1] (fun v ms ns => v = .b (P p) ∧ ms = [.lv true g0, .lv true g1] ∧ ns = [])) :
    ACalls Try.prog 77 [.ref (.sl 0 0 0 0 Ls.length 10), .ref (.fn f [(0, 1, 0, 0), (0, 2, 0, 0)])] [.lv true [(0, .ints .u8 (M * 10) F)], .lv true g0, .lv true g1]
      (fun v ms ns => (∃ r : Int, v = .i .i64 r ∧ (0 ≤ r ↔ Ls.any P = true)) ∧ ms = [.lv true [(0, .ints .u8 (M * 10) F)], .lv true g0, .lv true g1] ∧ ns = []) := by
  refine acalls_of_body mix Try.func77 rfl fok77 (Nat.le_of_ble_eq_true rfl) ?_
  unfold abody
  simp only [absE, absL, absF, reduceCtorEq, ↓reduceIte, Nat.reduceEqDiff, Nat.reduceAdd, Nat.reduceLT, Nat.reduceMul, Nat.reduceSub, Nat.reduceLeDiff, Int.reduceLT, Int.reduceLE, Int.reduceEq, Option.isSome_some, implies_true, false_implies, Prod.mk.injEq, ne_eq, not_false_eq_true, not_true_eq_false, ge_iff_le, gt_iff_lt, Int.toNat_natCast, Int.reduceToNat, Int.cast_ofNat_Int, Int.natCast_nonneg, Try.f77]
  refine awpLoop.intro (fun i : Nat => [(0, .ref (.sl 0 0 0 0 Ls.length 10)), (1, .ref (.fn f [(0, 1, 0, 0), (0, 2, 0, 0)])), (7, .i .i64 Ls.length), (8, .i .i64 i)]) (fun i => ⟨[.lv true [(0, .ints .u8 (M * 10) F)], .lv true g0, .lv true g1], [], 5⟩)
    (fun i => i ≤ Ls.length ∧ ∀ j, j < i → P (Ls.getD j []) = false) (fun i => Ls.length - i) 0 ⟨by omega, fun j hj => absurd hj (by omega)⟩ ⟨[], rfl, ?_, ?_⟩ ?_
  · simp [wkEnv, lk, renV, renAt, renTo, e0, e1, renCaps]
  · simp [wkMem, wkLoc, Mem.get, assoc, renBlk, renSegs, renSg, renTo, e0, e1, renCaps]
  · rintro i ⟨hi, hp⟩
    by_cases h : (i : Int) < Ls.length
    · have w := wrap_i64s (show i < 2 ^ 62 by omega)
      have hi2 : i < Ls.length := by omega
      have u1 : 0 + i * 10 + 10 ≤ M * 10 := by omega
      have k1 : (F.drop (0 + i * 10)).take 10 = Ls.getD i [] := by rw [Nat.zero_add]; exact hF i hi2
      have hm := getD_mem hi2
      by_cases h10 : M * 10 = 10
      · have i0 : i = 0 := by omega
        have e2 : F = Ls.getD i [] := by
          rw [← hF i hi2, i0, Nat.zero_mul, List.drop_zero, List.take_of_length_le (by omega)]
        have hm1 : F ∈ Ls := by rw [e2]; exact hm
        simp only [absE, absL, absF, reduceCtorEq, ↓reduceIte, Nat.reduceEqDiff, Nat.reduceAdd, Nat.reduceLT, Nat.reduceMul, Nat.reduceSub, Nat.reduceLeDiff, Int.reduceLT, Int.reduceLE, Int.reduceEq, Option.isSome_some, implies_true, false_implies, Prod.mk.injEq, ne_eq, not_false_eq_true, not_true_eq_false, ge_iff_le, gt_iff_lt, Int.toNat_natCast, Int.reduceToNat, Int.cast_ofNat_Int, Int.natCast_nonneg, h, h10]
        repeat refine And.intro (by omega) ?_
        refine CallsVia.args [(0, 1), (0, 2)] (hf _ hm1) (by simp) (by simp [Mem.get]) rfl (by simp [argBlks, Mem.get, renBlk, e0, e1]) ?_
        rintro _ _ _ ⟨rfl, rfl, rfl⟩
        cases hb : P F
        · simp only [absE, absL, absF, reduceCtorEq, ↓reduceIte, Nat.reduceEqDiff, Nat.reduceAdd, Nat.reduceLT, Nat.reduceMul, Nat.reduceSub, Nat.reduceLeDiff, Int.reduceLT, Int.reduceLE, Int.reduceEq, Option.isSome_some, implies_true, false_implies, Prod.mk.injEq, ne_eq, not_false_eq_true, not_true_eq_false, ge_iff_le, gt_iff_lt, Int.toNat_natCast, Int.reduceToNat, Int.cast_ofNat_Int, Int.natCast_nonneg, e0, e1]
          refine LoopNext.intro (i + 1) ⟨by omega, fun j hj => ?_⟩ (by omega) ⟨[], rfl, ?_, ?_⟩
          · by_cases ej : j = i
            · subst ej; rw [← e2]; exact hb
            · exact hp j (by omega)
          · simp [wkEnv, lk, renV, renAt, renTo, e0, e1, w, renCaps, h10]
          · simp [wkMem, wkLoc, Mem.get, assoc, renBlk, renSegs, renSg, renTo, e0, e1, w, renCaps, h10]
        · simp only [absE, absL, absF, reduceCtorEq, ↓reduceIte, Nat.reduceEqDiff, Nat.reduceAdd, Nat.reduceLT, Nat.reduceMul, Nat.reduceSub, Nat.reduceLeDiff, Int.reduceLT, Int.reduceLE, Int.reduceEq, Option.isSome_some, implies_true, false_implies, Prod.mk.injEq, ne_eq, not_false_eq_true, not_true_eq_false, ge_iff_le, gt_iff_lt, Int.toNat_natCast, Int.reduceToNat, Int.cast_ofNat_Int, Int.natCast_nonneg, e0, e1, Try.results77]
          refine ⟨[], by simp, by simp, ⟨i, by simp [renV], ?_⟩, by simp [renBlk, renSegs, renSg, e0, e1, h10], by simp⟩
          exact ⟨fun _ => List.any_eq_true.2 ⟨_, hm1, hb⟩, fun _ => by omega⟩
      · have h11 : 10 < M * 10 := by omega
        simp only [absE, absL, absF, reduceCtorEq, ↓reduceIte, Nat.reduceEqDiff, Nat.reduceAdd, Nat.reduceLT, Nat.reduceMul, Nat.reduceSub, Nat.reduceLeDiff, Int.reduceLT, Int.reduceLE, Int.reduceEq, Option.isSome_some, implies_true, false_implies, Prod.mk.injEq, ne_eq, not_false_eq_true, not_true_eq_false, ge_iff_le, gt_iff_lt, Int.toNat_natCast, Int.reduceToNat, Int.cast_ofNat_Int, Int.natCast_nonneg, h, u1, k1, h10, h11]
        refine CallsVia.args [(0, 1), (0, 2)] (hf _ hm) (by simp) (by simp [Mem.get]) rfl (by simp [argBlks, Mem.get, renBlk, e0, e1]) ?_
        rintro _ _ _ ⟨rfl, rfl, rfl⟩
        cases hb : P (Ls.getD i [])
        · simp only [absE, absL, absF, reduceCtorEq, ↓reduceIte, Nat.reduceEqDiff, Nat.reduceAdd, Nat.reduceLT, Nat.reduceMul, Nat.reduceSub, Nat.reduceLeDiff, Int.reduceLT, Int.reduceLE, Int.reduceEq, Option.isSome_some, implies_true, false_implies, Prod.mk.injEq, ne_eq, not_false_eq_true, not_true_eq_false, ge_iff_le, gt_iff_lt, Int.toNat_natCast, Int.reduceToNat, Int.cast_ofNat_Int, Int.natCast_nonneg, e0, e1]
          refine LoopNext.intro (i + 1) ⟨by omega, fun j hj => ?_⟩ (by omega) ⟨[], rfl, ?_, ?_⟩
          · by_cases ej : j = i
            · subst ej; exact hb
            · exact hp j (by omega)
          · simp [wkEnv, lk, renV, renAt, renTo, e0, e1, w, renCaps]
          · simp [wkMem, wkLoc, Mem.get, assoc, renBlk, renSegs, renSg, renTo, e0, e1, w, renCaps]
        · simp only [absE, absL, absF, reduceCtorEq, ↓reduceIte, Nat.reduceEqDiff, Nat.reduceAdd, Nat.reduceLT, Nat.reduceMul, Nat.reduceSub, Nat.reduceLeDiff, Int.reduceLT, Int.reduceLE, Int.reduceEq, Option.isSome_some, implies_true, false_implies, Prod.mk.injEq, ne_eq, not_false_eq_true, not_true_eq_false, ge_iff_le, gt_iff_lt, Int.toNat_natCast, Int.reduceToNat, Int.cast_ofNat_Int, Int.natCast_nonneg, e0, e1, Try.results77]
          refine ⟨[], by simp, by simp, ⟨i, by simp [renV], ?_⟩, by simp [renBlk, renSegs, renSg, e0, e1], by simp⟩
          exact ⟨fun _ => List.any_eq_true.2 ⟨_, hm, hb⟩, fun _ => by omega⟩
    · simp only [absE, absL, absF, reduceCtorEq, ↓reduceIte, Nat.reduceEqDiff, Nat.reduceAdd, Nat.reduceLT, Nat.reduceMul, Nat.reduceSub, Nat.reduceLeDiff, Int.reduceLT, Int.reduceLE, Int.reduceEq, Option.isSome_some, implies_true, false_implies, Prod.mk.injEq, ne_eq, not_false_eq_true, not_true_eq_false, ge_iff_le, gt_iff_lt, Int.toNat_natCast, Int.reduceToNat, Int.cast_ofNat_Int, Int.natCast_nonneg, h, Try.results77]
      refine ⟨[], by simp, by simp, ⟨-1, by simp [renV], ?_⟩, by simp [renBlk, renSegs, renSg, e0, e1], by simp⟩
      refine ⟨fun h => absurd h (by omega), fun h => ?_⟩
      obtain ⟨p, hm, hb⟩ := List.any_eq_true.1 h
      obtain ⟨j, hj, e⟩ := List.getElem_of_mem hm
      have := hp j (by omega)
      rw [show Ls.getD j [] = p by simp [hj, e], hb] at this
      cases this
theorem containsFunc2_ok (Ls : List (List Int)) (M : Nat) (F : List Int) (f : FuncId) (P : List Int → Bool) (g0 g1 : Segs) (e0 : ∀ ρ, renSegs ρ g0 = g0) (e1 : ∀ ρ, renSegs ρ g1 = g1) (hF : ∀ i, i < Ls.length → (F.drop (i * 10)).take 10 = Ls.getD i []) (hFl : F.length = M * 10) (hM : Ls.length ≤ M) (hl : M < 2 ^ 30)
    (hf : ∀ p ∈ Ls, ACalls Try.prog f [.agg (plS p), .ref (.ptr 0 0 0 0), .ref (.ptr 0 1 0 0)] [.lv true g0, .lv true g1] (fun v ms ns => v = .b (P p) ∧ ms = [.lv true g0, .lv true g1] ∧ ns = [])) :
    ACalls Try.prog 47 [.ref (.sl 0 0 0 0 Ls.length 10), .ref (.fn f [(0, 1, 0, 0), (0, 2, 0, 0)])] [.lv true [(0, .ints .u8 (M * 10) F)], .lv true g0, .lv true g1]
      (fun v ms ns => v = .b (Ls.any P) ∧ ms = [.lv true [(0, .ints .u8 (M * 10) F)], .lv true g0, .lv true g1] ∧ ns = []) := by
  refine acalls_of_body mix Try.func47 rfl fok47 (Nat.le_of_ble_eq_true rfl) ?_
  unfold abody
  simp only [absE, absL, absF, reduceCtorEq, ↓reduceIte, Nat.reduceEqDiff, Nat.reduceAdd, Nat.reduceLT, Nat.reduceMul, Nat.reduceSub, Nat.reduceLeDiff, Int.reduceLT, Int.reduceLE, Int.reduceEq, Option.isSome_some, implies_true, false_implies, Prod.mk.injEq, ne_eq, not_false_eq_true, not_true_eq_false, ge_iff_le, gt_iff_lt, Int.toNat_natCast, Int.reduceToNat, Int.cast_ofNat_Int, Int.natCast_nonneg, Try.f47]
  refine CallsVia.args [(0, 0), (0, 1), (0, 2)] (indexFunc2_ok Ls M F f P g0 g1 e0 e1 hF hFl hM hl hf) (by simp) (by simp [Mem.get]) rfl (by simp [argBlks, Mem.get, renBlk, renSegs, renSg, e0, e1]) ?_
  rintro _ _ _ ⟨⟨r, rfl, hr⟩, rfl, rfl⟩
  simp only [absE, absL, absF, reduceCtorEq, ↓reduceIte, Nat.reduceEqDiff, Nat.reduceAdd, Nat.reduceLT, Nat.reduceMul, Nat.reduceSub, Nat.reduceLeDiff, Int.reduceLT, Int.reduceLE, Int.reduceEq, Option.isSome_some, implies_true, false_implies, Prod.mk.injEq, ne_eq, not_false_eq_true, not_true_eq_false, ge_iff_le, gt_iff_lt, Int.toNat_natCast, Int.reduceToNat, Int.cast_ofNat_Int, Int.natCast_nonneg, e0, e1, Try.results47]
  refine ⟨[], by simp, by simp, ?_, by simp [renBlk, renSegs, renSg, e0, e1], by simp⟩
  have : decide (0 ≤ r) = Ls.any P := by rw [Bool.eq_iff_iff, decide_eq_true_iff]; exact hr
  simp [renV, this]

end Go.Proofs.Ytjmenocghjggcaa
