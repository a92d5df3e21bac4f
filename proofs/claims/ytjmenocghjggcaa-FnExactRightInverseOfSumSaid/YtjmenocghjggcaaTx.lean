/-
Contracts of functions of the given program, by the abstract walk.
-/
import Derived.Test.YtjmenocghjggcaaAbsY
import Derived.Test.YtjmenocghjggcaaLx
import Derived.Test.YtjmenocghjggcaaJj
namespace Go.Proofs.Ytjmenocghjggcaa
open Go Go.Abs
set_option linter.unusedVariables false
set_option linter.unusedSectionVars false
set_option linter.unusedSimpArgs false
set_option maxRecDepth 100000
/-! digits: plain -/
def dg (P i m : Nat) : Nat := i / P ^ m % P
theorem dg_lt {P i m : Nat} (h : 0 < P) : dg P i m < P := Nat.mod_lt _ h
theorem carry_eq {P i m : Nat} (hP : 0 < P) (h : i % P ^ m = P ^ m - 1) : i + 1 = P ^ m * (i / P ^ m + 1) := by
  have h1 := Nat.div_add_mod i (P ^ m)
  have h2 : 0 < P ^ m := Nat.pow_pos hP
  rw [Nat.mul_add, Nat.mul_one]
  omega
theorem carry_lo {P i m r : Nat} (hP : 0 < P) (h : i % P ^ m = P ^ m - 1) (hr : r < m) : dg P (i + 1) r = 0 := by
  obtain ⟨s, rfl⟩ : ∃ s, m = r + (s + 1) := ⟨m - r - 1, by omega⟩
  unfold dg
  rw [carry_eq hP h, Nat.pow_add, Nat.mul_assoc, Nat.mul_div_cancel_left _ (Nat.pow_pos hP), Nat.pow_succ, Nat.mul_comm (P ^ s) P, Nat.mul_assoc]
  exact Nat.mul_mod_right ..
theorem carry_at {P i m : Nat} (hP : 0 < P) (h : i % P ^ m = P ^ m - 1) : dg P (i + 1) m = (i / P ^ m + 1) % P := by
  unfold dg
  rw [carry_eq hP h, Nat.mul_div_cancel_left _ (Nat.pow_pos hP)]
theorem succ_div {P q : Nat} (hP : 0 < P) (h : q % P + 1 < P) : (q + 1) / P = q / P := by
  have h1 := Nat.div_add_mod q P
  have e : q + 1 = (q % P + 1) + P * (q / P) := by omega
  rw [e, Nat.add_mul_div_left _ _ hP, Nat.div_eq_of_lt h, Nat.zero_add]
theorem succ_mod {P q : Nat} (hP : 0 < P) (h : q % P + 1 < P) : (q + 1) % P = q % P + 1 := by
  have h1 := Nat.div_add_mod q P
  have e : q + 1 = (q % P + 1) + P * (q / P) := by omega
  rw [e, Nat.add_mul_mod_self_left, Nat.mod_eq_of_lt h]
theorem carry_hi {P i m r : Nat} (hP : 0 < P) (h : i % P ^ m = P ^ m - 1) (hd : dg P i m + 1 < P) (hr : m < r) : dg P (i + 1) r = dg P i r := by
  obtain ⟨s, rfl⟩ : ∃ s, r = m + 1 + s := ⟨r - m - 1, by omega⟩
  have e : ∀ j, j / P ^ (m + 1 + s) = j / P ^ m / P / P ^ s := fun j => by rw [Nat.div_div_eq_div_mul, Nat.div_div_eq_div_mul, Nat.pow_add, Nat.pow_succ, Nat.mul_assoc]
  have e2 : (i + 1) / P ^ m = i / P ^ m + 1 := by rw [carry_eq hP h, Nat.mul_div_cancel_left _ (Nat.pow_pos hP)]
  unfold dg
  rw [e, e, e2, succ_div hP hd]
theorem carry_next {P i m : Nat} (hP : 0 < P) (h : i % P ^ m = P ^ m - 1) (hd : dg P i m + 1 = P) : i % P ^ (m + 1) = P ^ (m + 1) - 1 := by
  have h2 : 0 < P ^ m := Nat.pow_pos hP
  unfold dg at hd
  rw [Nat.pow_succ, Nat.mod_mul, h, show i / P ^ m % P = P - 1 by omega, Nat.mul_sub, Nat.mul_one]
  have : P ^ m ≤ P ^ m * P := Nat.le_mul_of_pos_right _ hP
  omega
/-- the digits of i, the highest first -/
def digL (P N i : Nat) : List Int := (List.range N).map fun j => ((dg P i (N - 1 - j) : Nat) : Int)
theorem digL_len {P N i : Nat} : (digL P N i).length = N := by simp [digL]
theorem digL_get {P N i j : Nat} (h : j < N) : (digL P N i).getD j 0 = ((dg P i (N - 1 - j) : Nat) : Int) := by
  simp only [digL]; rw [List.getD_eq_getElem?_getD, List.getElem?_map, List.getElem?_range h]; rfl
theorem digL_zero {P N : Nat} : digL P N 0 = List.replicate N 0 := by
  apply List.ext_getElem
  · simp [digL]
  · intro j h1 h2; simp [digL, dg]
/-- the digits of i with the lowest m put to nought -/
def digZ (P N i m : Nat) : List Int := (List.range N).map fun j => if j < N - m then ((dg P i (N - 1 - j) : Nat) : Int) else 0
theorem digZ_len {P N i m : Nat} : (digZ P N i m).length = N := by simp [digZ]
theorem digZ_zero {P N i : Nat} : digZ P N i 0 = digL P N i := by
  unfold digZ digL
  apply List.map_congr_left
  intro j hj
  rw [List.mem_range] at hj
  rw [if_pos (by omega)]
theorem digZ_get {P N i m j : Nat} (h : j < N - m) : (digZ P N i m).getD j 0 = ((dg P i (N - 1 - j) : Nat) : Int) := by
  simp only [digZ]; rw [List.getD_eq_getElem?_getD, List.getElem?_map, List.getElem?_range (by omega)]; simp [h]
theorem digZ_next {P N i m : Nat} (h : m < N) : (digZ P N i m).set (N - 1 - m) 0 = digZ P N i (m + 1) := by
  apply List.ext_getElem
  · simp [digZ]
  · intro j h1 h2
    rw [List.getElem_set]
    simp only [digZ, List.getElem_map, List.getElem_range]
    by_cases e : N - 1 - m = j
    · rw [if_pos e, if_neg (by omega)]
    · rw [if_neg e]
      by_cases e2 : j < N - m
      · rw [if_pos e2, if_pos (by omega)]
      · rw [if_neg e2, if_neg (by omega)]
theorem digZ_stop {P N i m : Nat} (hP : 0 < P) (hm : m < N) (h : i % P ^ m = P ^ m - 1) (hd : dg P i m + 1 < P) : (digZ P N i m).set (N - 1 - m) ((dg P i m + 1 : Nat) : Int) = digL P N (i + 1) := by
  apply List.ext_getElem
  · simp [digZ, digL]
  · intro j h1 h2
    have hj : j < N := by simpa [digL] using h2
    rw [List.getElem_set]
    simp only [digZ, digL, List.getElem_map, List.getElem_range]
    by_cases e : N - 1 - m = j
    · rw [if_pos e, show N - 1 - j = m by omega, carry_at hP h]
      unfold dg at hd ⊢
      rw [succ_mod hP hd]
    · rw [if_neg e]
      by_cases e2 : j < N - m
      · rw [if_pos e2, carry_hi hP h hd (by omega)]
      · rw [if_neg e2, carry_lo hP h (by omega)]; rfl
theorem digZ_all {P N i : Nat} (hP : 0 < P) (h : i % P ^ N = P ^ N - 1) : digZ P N i N = digL P N (i + 1) := by
  unfold digZ digL
  apply List.map_congr_left
  intro j hj
  rw [List.mem_range] at hj
  rw [if_neg (by omega), carry_lo hP h (by omega)]; rfl

/-! sums, one after the other -/
def nkL (P N i : Nat) : Blk := .lv true [(0, .ints .i64 N (digL P N i))]
theorem setOne {L : List Int} {j : Nat} {z : Int} (h : L.length = 1) (hj : j = 0) : L.set j z = [z] := by
  subst hj
  match L, h with
  | [x], _ => rfl
theorem l10Next_ok (P N i : Nat) (hP : 2 ≤ P) (hP2 : P ≤ 100) (hN : N ≤ 10) (hN1 : 1 ≤ N) :
    ACalls Try.prog 28 [.i .i64 P, .ref (.sl 0 0 0 0 N 1)] [nkL P N i] (fun v ms ns => v = .ref (.sl 1 0 0 0 N 1) ∧ ms = [nkL P N i] ∧ ns = [nkL P N (i + 1)]) := by
  have hP0 : 0 < P := by omega
  have hm1 : N * 1 = N := Nat.mul_one _
  unfold nkL
  refine acalls_of_body mix Try.func28 rfl fok28 (Nat.le_of_ble_eq_true rfl) ?_
  unfold abody
  simp only [absE, absL, absF, reduceCtorEq, ↓reduceIte, Nat.reduceEqDiff, Nat.reduceAdd, Nat.reduceLT, Nat.reduceMul, Nat.reduceSub, Nat.reduceLeDiff, Int.reduceLT, Int.reduceLE, Int.reduceEq, Option.isSome_some, implies_true, false_implies, Prod.mk.injEq, ne_eq, not_false_eq_true, not_true_eq_false, ge_iff_le, gt_iff_lt, Int.toNat_natCast, Int.reduceToNat, Int.cast_ofNat_Int, Int.natCast_nonneg, hm1, Try.f28]
  repeat refine And.intro (by omega) ?_
  have z0 : 0 + N = N := Nat.zero_add N
  have w0 : IntKind.i64.wrap ((N : Int) - 1) = (N : Int) - 1 := wrap_i64 (by omega) (by omega)
  simp only [z0, w0, List.replicate_zero, List.nil_append]
  refine awpLoop.intro (fun m : Nat => [(0, .i .i64 P), (5, .ref (.sl 4 0 0 0 N 1)), (6, .i .i64 ((N : Int) - 1 - (m : Int)))]) (fun m => ⟨[.lv true [(0, .ints .i64 N (digL P N i))]], [((4, 0), .lv true ([(0, .ints .i64 N (digZ P N i m))]))], 10⟩)
    (fun m => m ≤ N ∧ i % P ^ m = P ^ m - 1) (fun m => N - m) 0 ⟨by omega, by rw [Nat.pow_zero]; omega⟩ ⟨[((4,0),(4,0))], rfl, ?_, ?_⟩ ?_
  · simp [wkEnv, lk, renV, renAt, renTo]
  · simp [wkMem, wkLoc, Mem.get, assoc, renBlk, renSegs, renSg, digZ_zero]
  · rintro m ⟨hm, hc⟩
    by_cases h : m < N
    · have hd := dg_lt (i := i) (m := m) hP0
      have ej : (N : Int) - 1 - m = ((N - 1 - m : Nat) : Int) := by omega
      have g0 : (0 : Int) ≤ ((N - 1 - m : Nat) : Int) := by omega
      have gN : ((N - 1 - m : Nat) : Int) < N := by omega
      have v1 : 0 + (N - 1 - m) * 1 < N := by omega
      have v2 : 0 + (N - 1 - m) * 1 + 1 ≤ N := by omega
      have e1 : (digZ P N i m).getD (0 + (N - 1 - m) * 1) 0 = ((dg P i m : Nat) : Int) := by
        rw [Nat.zero_add, Nat.mul_one, digZ_get (by omega), show N - 1 - (N - 1 - m) = m by omega]
      have w1 : IntKind.i64.wrap (((dg P i m : Nat) : Int) + 1) = ((dg P i m + 1 : Nat) : Int) := wrap_i64s (by omega)
      have pz : ¬ (P : Int) = 0 := by omega
      have wm : IntKind.i64.wrap (((N - 1 - m : Nat) : Int) - 1) = (N : Int) - 1 - ((m + 1 : Nat) : Int) := by rw [wrap_i64 (by omega) (by omega)]; omega
      by_cases hs : dg P i m + 1 < P
      · have t1 : Int.tmod ((dg P i m + 1 : Nat) : Int) P = ((dg P i m + 1 : Nat) : Int) := by
          rw [show Int.tmod ((dg P i m + 1 : Nat) : Int) P = (((dg P i m + 1) % P : Nat) : Int) from rfl, Nat.mod_eq_of_lt hs]
        have es : (digZ P N i m).set (0 + (N - 1 - m) * 1) ((dg P i m + 1 : Nat) : Int) = digL P N (i + 1) := by
          rw [Nat.zero_add, Nat.mul_one]; exact digZ_stop hP0 h hc hs
        have e2 : (digL P N (i + 1)).getD (0 + (N - 1 - m) * 1) 0 = ((dg P i m + 1 : Nat) : Int) := by
          rw [← es, getD_set_int (by rw [digZ_len]; omega), if_pos rfl]
        have nz : ¬ ((dg P i m + 1 : Nat) : Int) = 0 := by omega
        by_cases hk1 : 1 = N
        · have es1 : [((dg P i m + 1 : Nat) : Int)] = digL P N (i + 1) := by rw [← es]; exact (setOne (L := digZ P N i m) (j := 0 + (N - 1 - m) * 1) (by rw [digZ_len]; omega) (by omega)).symm
          simp only [absE, absL, absF, reduceCtorEq, ↓reduceIte, Nat.reduceEqDiff, Nat.reduceAdd, Nat.reduceLT, Nat.reduceMul, Nat.reduceSub, Nat.reduceLeDiff, Int.reduceLT, Int.reduceLE, Int.reduceEq, Option.isSome_some, implies_true, false_implies, Prod.mk.injEq, ne_eq, not_false_eq_true, not_true_eq_false, ge_iff_le, gt_iff_lt, Int.toNat_natCast, Int.reduceToNat, Int.cast_ofNat_Int, Int.natCast_nonneg, ej, g0, gN, v1, v2, e1, w1, pz, t1, eq_true hk1, es1]
          repeat first | refine And.intro (by decide +kernel) ?_ | refine And.intro (by omega) ?_
          simp only [absE, absL, absF, reduceCtorEq, ↓reduceIte, Nat.reduceEqDiff, Nat.reduceAdd, Nat.reduceLT, Nat.reduceMul, Nat.reduceSub, Nat.reduceLeDiff, Int.reduceLT, Int.reduceLE, Int.reduceEq, Option.isSome_some, implies_true, false_implies, Prod.mk.injEq, ne_eq, not_false_eq_true, not_true_eq_false, ge_iff_le, gt_iff_lt, Int.toNat_natCast, Int.reduceToNat, Int.cast_ofNat_Int, Int.natCast_nonneg, ej, g0, gN, v1, v2, e2, nz, Try.results28]
          exact ⟨[(4, 0)], by simp, by simp, by simp [renV, renAt, renFin, idx], by simp [renBlk, renSegs, renSg], by simp [renBlk, renSegs, renSg, Mem.get, assoc]⟩
        · simp only [absE, absL, absF, reduceCtorEq, ↓reduceIte, Nat.reduceEqDiff, Nat.reduceAdd, Nat.reduceLT, Nat.reduceMul, Nat.reduceSub, Nat.reduceLeDiff, Int.reduceLT, Int.reduceLE, Int.reduceEq, Option.isSome_some, implies_true, false_implies, Prod.mk.injEq, ne_eq, not_false_eq_true, not_true_eq_false, ge_iff_le, gt_iff_lt, Int.toNat_natCast, Int.reduceToNat, Int.cast_ofNat_Int, Int.natCast_nonneg, ej, g0, gN, v1, v2, e1, w1, pz, t1, hk1, es]
          repeat first | refine And.intro (by decide +kernel) ?_ | refine And.intro (by omega) ?_
          simp only [absE, absL, absF, reduceCtorEq, ↓reduceIte, Nat.reduceEqDiff, Nat.reduceAdd, Nat.reduceLT, Nat.reduceMul, Nat.reduceSub, Nat.reduceLeDiff, Int.reduceLT, Int.reduceLE, Int.reduceEq, Option.isSome_some, implies_true, false_implies, Prod.mk.injEq, ne_eq, not_false_eq_true, not_true_eq_false, ge_iff_le, gt_iff_lt, Int.toNat_natCast, Int.reduceToNat, Int.cast_ofNat_Int, Int.natCast_nonneg, ej, g0, gN, v1, v2, e2, nz, Try.results28]
          exact ⟨[(4, 0)], by simp, by simp, by simp [renV, renAt, renFin, idx], by simp [renBlk, renSegs, renSg], by simp [renBlk, renSegs, renSg, Mem.get, assoc]⟩
      · have hs' : dg P i m + 1 = P := by omega
        have t1 : Int.tmod ((dg P i m + 1 : Nat) : Int) P = 0 := by
          rw [show Int.tmod ((dg P i m + 1 : Nat) : Int) P = (((dg P i m + 1) % P : Nat) : Int) from rfl, hs', Nat.mod_self]; rfl
        have es : (digZ P N i m).set (0 + (N - 1 - m) * 1) 0 = digZ P N i (m + 1) := by
          rw [Nat.zero_add, Nat.mul_one]; exact digZ_next h
        have e2 : (digZ P N i (m + 1)).getD (0 + (N - 1 - m) * 1) 0 = 0 := by
          rw [← es, getD_set_int (by rw [digZ_len]; omega), if_pos rfl]
        by_cases hk1 : 1 = N
        · have es1 : [(0 : Int)] = digZ P N i (m + 1) := by rw [← es]; exact (setOne (L := digZ P N i m) (j := 0 + (N - 1 - m) * 1) (by rw [digZ_len]; omega) (by omega)).symm
          simp only [absE, absL, absF, reduceCtorEq, ↓reduceIte, Nat.reduceEqDiff, Nat.reduceAdd, Nat.reduceLT, Nat.reduceMul, Nat.reduceSub, Nat.reduceLeDiff, Int.reduceLT, Int.reduceLE, Int.reduceEq, Option.isSome_some, implies_true, false_implies, Prod.mk.injEq, ne_eq, not_false_eq_true, not_true_eq_false, ge_iff_le, gt_iff_lt, Int.toNat_natCast, Int.reduceToNat, Int.cast_ofNat_Int, Int.natCast_nonneg, ej, g0, gN, v1, v2, e1, w1, pz, t1, eq_true hk1, es1]
          repeat first | refine And.intro (by decide +kernel) ?_ | refine And.intro (by omega) ?_
          simp only [absE, absL, absF, reduceCtorEq, ↓reduceIte, Nat.reduceEqDiff, Nat.reduceAdd, Nat.reduceLT, Nat.reduceMul, Nat.reduceSub, Nat.reduceLeDiff, Int.reduceLT, Int.reduceLE, Int.reduceEq, Option.isSome_some, implies_true, false_implies, Prod.mk.injEq, ne_eq, not_false_eq_true, not_true_eq_false, ge_iff_le, gt_iff_lt, Int.toNat_natCast, Int.reduceToNat, Int.cast_ofNat_Int, Int.natCast_nonneg, ej, g0, gN, v1, v2, e2, wm]
          refine LoopNext.intro (m + 1) ⟨by omega, carry_next hP0 hc hs'⟩ (by omega) ⟨[((4,0),(4,0))], rfl, ?_, ?_⟩
          · simp [wkEnv, lk, renV, renAt, renTo]
          · simp [wkMem, wkLoc, Mem.get, assoc, renBlk, renSegs, renSg]
        · simp only [absE, absL, absF, reduceCtorEq, ↓reduceIte, Nat.reduceEqDiff, Nat.reduceAdd, Nat.reduceLT, Nat.reduceMul, Nat.reduceSub, Nat.reduceLeDiff, Int.reduceLT, Int.reduceLE, Int.reduceEq, Option.isSome_some, implies_true, false_implies, Prod.mk.injEq, ne_eq, not_false_eq_true, not_true_eq_false, ge_iff_le, gt_iff_lt, Int.toNat_natCast, Int.reduceToNat, Int.cast_ofNat_Int, Int.natCast_nonneg, ej, g0, gN, v1, v2, e1, w1, pz, t1, hk1, es]
          repeat first | refine And.intro (by decide +kernel) ?_ | refine And.intro (by omega) ?_
          simp only [absE, absL, absF, reduceCtorEq, ↓reduceIte, Nat.reduceEqDiff, Nat.reduceAdd, Nat.reduceLT, Nat.reduceMul, Nat.reduceSub, Nat.reduceLeDiff, Int.reduceLT, Int.reduceLE, Int.reduceEq, Option.isSome_some, implies_true, false_implies, Prod.mk.injEq, ne_eq, not_false_eq_true, not_true_eq_false, ge_iff_le, gt_iff_lt, Int.toNat_natCast, Int.reduceToNat, Int.cast_ofNat_Int, Int.natCast_nonneg, ej, g0, gN, v1, v2, e2, wm]
          refine LoopNext.intro (m + 1) ⟨by omega, carry_next hP0 hc hs'⟩ (by omega) ⟨[((4,0),(4,0))], rfl, ?_, ?_⟩
          · simp [wkEnv, lk, renV, renAt, renTo]
          · simp [wkMem, wkLoc, Mem.get, assoc, renBlk, renSegs, renSg]
    · have hmN : m = N := by omega
      subst hmN
      have gneg : ¬ (0 : Int) ≤ (m : Int) - 1 - m := by omega
      have ed := digZ_all hP0 hc
      simp only [absE, absL, absF, reduceCtorEq, ↓reduceIte, Nat.reduceEqDiff, Nat.reduceAdd, Nat.reduceLT, Nat.reduceMul, Nat.reduceSub, Nat.reduceLeDiff, Int.reduceLT, Int.reduceLE, Int.reduceEq, Option.isSome_some, implies_true, false_implies, Prod.mk.injEq, ne_eq, not_false_eq_true, not_true_eq_false, ge_iff_le, gt_iff_lt, Int.toNat_natCast, Int.reduceToNat, Int.cast_ofNat_Int, Int.natCast_nonneg, gneg, Try.results28]
      exact ⟨[(4, 0)], by simp, by simp, by simp [renV, renAt, renFin, idx], by simp [renBlk, renSegs, renSg], by simp [renBlk, renSegs, renSg, Mem.get, assoc, ed]⟩

/-! how many sums there are -/
theorem l10Many_ok (N P : Nat) (hP : 2 ≤ P) (hP2 : P ≤ 100) (hN : N ≤ 10) :
    ACalls Try.prog 25 [.i .i64 N, .i .i64 P] [] (fun v ms ns => v = .i .i64 (min (P ^ N) 20001 : Nat) ∧ ms = [] ∧ ns = []) := by
  have hP0 : 0 < P := by omega
  refine acalls_of_body mix Try.func25 rfl fok25 (Nat.le_of_ble_eq_true rfl) ?_
  unfold abody
  simp only [absE, absL, absF, reduceCtorEq, ↓reduceIte, Nat.reduceEqDiff, Nat.reduceAdd, Nat.reduceLT, Nat.reduceMul, Nat.reduceSub, Nat.reduceLeDiff, Int.reduceLT, Int.reduceLE, Int.reduceEq, Option.isSome_some, implies_true, false_implies, Prod.mk.injEq, ne_eq, not_false_eq_true, not_true_eq_false, ge_iff_le, gt_iff_lt, Int.toNat_natCast, Int.reduceToNat, Int.cast_ofNat_Int, Int.natCast_nonneg, Try.f25]
  refine awpLoop.intro (fun k : Nat => [(0, .i .i64 ((N : Int) - k)), (1, .i .i64 P), (5, .i .i64 ((P ^ k : Nat) : Int))]) (fun k => ⟨[], [], 10⟩)
    (fun k => k ≤ N ∧ P ^ k ≤ 2000000) (fun k => N - k) 0 ⟨by omega, by rw [Nat.pow_zero]; decide⟩ ⟨[], rfl, ?_, ?_⟩ ?_
  · simp [wkEnv, lk, renV, renAt, renTo]
  · simp [wkMem, wkLoc]
  · rintro k ⟨hk, hb⟩
    by_cases h : k < N
    · have g1 : (0 : Int) < (N : Int) - k := by omega
      by_cases h2 : P ^ k ≤ 20000
      · have g2 : ((P ^ k : Nat) : Int) ≤ 20000 := by omega
        have hpp : P ^ k * P = P ^ (k + 1) := (Nat.pow_succ ..).symm
        have hlt : P ^ (k + 1) ≤ 2000000 := by rw [← hpp]; exact Nat.le_trans (Nat.mul_le_mul h2 hP2) (by decide)
        have wp : IntKind.i64.wrap (((P ^ k : Nat) : Int) * P) = ((P ^ (k + 1) : Nat) : Int) := by rw [← Int.natCast_mul, hpp]; exact wrap_i64n (by omega)
        have wn : IntKind.i64.wrap ((N : Int) - k - 1) = (N : Int) - ((k + 1 : Nat) : Int) := by rw [wrap_i64 (by omega) (by omega)]; omega
        simp only [absE, absL, absF, reduceCtorEq, ↓reduceIte, Nat.reduceEqDiff, Nat.reduceAdd, Nat.reduceLT, Nat.reduceMul, Nat.reduceSub, Nat.reduceLeDiff, Int.reduceLT, Int.reduceLE, Int.reduceEq, Option.isSome_some, implies_true, false_implies, Prod.mk.injEq, ne_eq, not_false_eq_true, not_true_eq_false, ge_iff_le, gt_iff_lt, Int.toNat_natCast, Int.reduceToNat, Int.cast_ofNat_Int, Int.natCast_nonneg, g1, g2, wp, wn]
        refine LoopNext.intro (k + 1) ⟨by omega, hlt⟩ (by omega) ⟨[], rfl, ?_, ?_⟩
        · simp [wkEnv, lk, renV, renAt, renTo]
        · simp [wkMem, wkLoc]
      · have g2 : ¬ ((P ^ k : Nat) : Int) ≤ 20000 := by omega
        have hge : P ^ k ≤ P ^ N := Nat.pow_le_pow_right hP0 hk
        have em : ((min (P ^ N) 20001 : Nat) : Int) = 20001 := by omega
        have em2 : min ((P ^ k : Nat) : Int) 20001 = 20001 := by omega
        simp only [absE, absL, absF, reduceCtorEq, ↓reduceIte, Nat.reduceEqDiff, Nat.reduceAdd, Nat.reduceLT, Nat.reduceMul, Nat.reduceSub, Nat.reduceLeDiff, Int.reduceLT, Int.reduceLE, Int.reduceEq, Option.isSome_some, implies_true, false_implies, Prod.mk.injEq, ne_eq, not_false_eq_true, not_true_eq_false, ge_iff_le, gt_iff_lt, Int.toNat_natCast, Int.reduceToNat, Int.cast_ofNat_Int, Int.natCast_nonneg, g1, g2, Try.results25]
        rw [em2, em]
        exact ⟨[], by simp, by simp, by simp [renV]⟩
    · have hkN : k = N := by omega
      subst hkN
      have g1 : ¬ (0 : Int) < (k : Int) - k := by omega
      have em : ((min (P ^ k) 20001 : Nat) : Int) = min ((P ^ k : Nat) : Int) 20001 := by omega
      simp only [absE, absL, absF, reduceCtorEq, ↓reduceIte, Nat.reduceEqDiff, Nat.reduceAdd, Nat.reduceLT, Nat.reduceMul, Nat.reduceSub, Nat.reduceLeDiff, Int.reduceLT, Int.reduceLE, Int.reduceEq, Option.isSome_some, implies_true, false_implies, Prod.mk.injEq, ne_eq, not_false_eq_true, not_true_eq_false, ge_iff_le, gt_iff_lt, Int.toNat_natCast, Int.reduceToNat, Int.cast_ofNat_Int, Int.natCast_nonneg, g1, Try.results25]
      rw [em]
      exact ⟨[], by simp, by simp, by simp only [renV, List.map_nil, and_self]⟩
noncomputable def limC (n : Int) (t : List Int) (p : Int) : Int := if rcd0 n t p = 0 ∧ 20000 < p.toNat ^ n.toNat then 3 else rcd0 n t p
theorem limC_0 {n : Int} {t : List Int} {p : Int} (h : rcd0 n t p ≠ 0) : limC n t p = rcd0 n t p := by unfold limC; rw [if_neg (fun hh => h hh.1)]
theorem PrP.nat {p : Int} (h : PrP p) : ∃ P : Nat, p = P ∧ 2 ≤ P ∧ P ≤ 7 := by
  rcases h with rfl | rfl | rfl | rfl
  · exact ⟨2, rfl, by decide, by decide⟩
  · exact ⟨3, rfl, by decide, by decide⟩
  · exact ⟨5, rfl, by decide, by decide⟩
  · exact ⟨7, rfl, by decide, by decide⟩
theorem rcd0_zero {n : Int} {t : List Int} {p : Int} (h : rcd0 n t p = 0) : SqP n t ∧ loopB n t = true ∧ PrP p := by
  unfold rcd0 at h
  split at h
  · rename_i h1
    split at h
    · rename_i h2
      refine ⟨?_, h1, ?_⟩
      · simp only [loopB, Bool.and_eq_true] at h1; exact sqB_iff.1 h1.1
      · unfold prB at h2; exact of_decide_eq_true h2
    · omega
  · omega
theorem l10Limit_ok (n : Int) (t : List Int) (p : Int) (ht : Bytes 100 t) :
    ACalls Try.prog 24 [.agg (sqS n t), .i .i64 p] [] (fun v ms ns => v = .i .i64 (limC n t p) ∧ ms = [] ∧ ns = []) := by
  refine acalls_of_body mix Try.func24 rfl fok24 (Nat.le_of_ble_eq_true rfl) ?_
  unfold abody
  simp only [absE, absL, absF, reduceCtorEq, ↓reduceIte, Nat.reduceEqDiff, Nat.reduceAdd, Nat.reduceLT, Nat.reduceMul, Nat.reduceSub, Nat.reduceLeDiff, Int.reduceLT, Int.reduceLE, Int.reduceEq, Option.isSome_some, implies_true, false_implies, Prod.mk.injEq, ne_eq, not_false_eq_true, not_true_eq_false, ge_iff_le, gt_iff_lt, Int.toNat_natCast, Int.reduceToNat, Int.cast_ofNat_Int, Int.natCast_nonneg, Try.f24]
  refine CallsVia.none (l10Code0_ok n t p ht) ?_
  rintro _ _ _ ⟨rfl, rfl, rfl⟩
  by_cases h : rcd0 n t p = 0
  · obtain ⟨hs, hl, hp⟩ := rcd0_zero h
    obtain ⟨N, rfl⟩ : ∃ N : Nat, n = N := ⟨n.toNat, by have := hs.1; omega⟩
    obtain ⟨P, rfl, hP1, hP2⟩ := hp.nat
    have hN := hs.le
    simp only [absE, absL, absF, reduceCtorEq, ↓reduceIte, Nat.reduceEqDiff, Nat.reduceAdd, Nat.reduceLT, Nat.reduceMul, Nat.reduceSub, Nat.reduceLeDiff, Int.reduceLT, Int.reduceLE, Int.reduceEq, Option.isSome_some, implies_true, false_implies, Prod.mk.injEq, ne_eq, not_false_eq_true, not_true_eq_false, ge_iff_le, gt_iff_lt, Int.toNat_natCast, Int.reduceToNat, Int.cast_ofNat_Int, Int.natCast_nonneg, h]
    refine CallsVia.none (l10Many_ok N P hP1 (by omega) hN) ?_
    rintro _ _ _ ⟨rfl, rfl, rfl⟩
    by_cases hb : 20000 < P ^ N
    · have e : limC N t P = 3 := by unfold limC; rw [if_pos ⟨h, by simpa using hb⟩]
      have g : (20000 : Int) < ((min (P ^ N) 20001 : Nat) : Int) := by omega
      simp only [absE, absL, absF, reduceCtorEq, ↓reduceIte, Nat.reduceEqDiff, Nat.reduceAdd, Nat.reduceLT, Nat.reduceMul, Nat.reduceSub, Nat.reduceLeDiff, Int.reduceLT, Int.reduceLE, Int.reduceEq, Option.isSome_some, implies_true, false_implies, Prod.mk.injEq, ne_eq, not_false_eq_true, not_true_eq_false, ge_iff_le, gt_iff_lt, Int.toNat_natCast, Int.reduceToNat, Int.cast_ofNat_Int, Int.natCast_nonneg, g, Try.results24]
      exact ⟨[], by simp, by simp, by simp [renV, e]⟩
    · have e : limC N t P = 0 := by unfold limC; rw [if_neg (fun hh => hb (by simpa using hh.2)), h]
      have g : ¬ (20000 : Int) < ((min (P ^ N) 20001 : Nat) : Int) := by omega
      simp only [absE, absL, absF, reduceCtorEq, ↓reduceIte, Nat.reduceEqDiff, Nat.reduceAdd, Nat.reduceLT, Nat.reduceMul, Nat.reduceSub, Nat.reduceLeDiff, Int.reduceLT, Int.reduceLE, Int.reduceEq, Option.isSome_some, implies_true, false_implies, Prod.mk.injEq, ne_eq, not_false_eq_true, not_true_eq_false, ge_iff_le, gt_iff_lt, Int.toNat_natCast, Int.reduceToNat, Int.cast_ofNat_Int, Int.natCast_nonneg, g, Try.results24]
      exact ⟨[], by simp, by simp, by simp [renV, e]⟩
  · have e := limC_0 h
    simp only [absE, absL, absF, reduceCtorEq, ↓reduceIte, Nat.reduceEqDiff, Nat.reduceAdd, Nat.reduceLT, Nat.reduceMul, Nat.reduceSub, Nat.reduceLeDiff, Int.reduceLT, Int.reduceLE, Int.reduceEq, Option.isSome_some, implies_true, false_implies, Prod.mk.injEq, ne_eq, not_false_eq_true, not_true_eq_false, ge_iff_le, gt_iff_lt, Int.toNat_natCast, Int.reduceToNat, Int.cast_ofNat_Int, Int.natCast_nonneg, h, Try.results24]
    exact ⟨[], by simp, by simp, by simp [renV, e]⟩

/-! a sum times itself; whether two lists are the same -/
theorem l10TimesS_ok (N : Nat) (t : List Int) (p : Int) (a : List Int) (ht : Bytes 100 t) (hs : SqP N t) (hp : PrP p) (ha : RngP p a) (la : a.length = N) :
    ACalls Try.prog 57 [.agg (sqS N t), .i .i64 p, .ref (.sl 0 0 0 0 N 1), .ref (.sl 0 0 0 0 N 1)] [.lv true [(0, .ints .i64 N a)]]
      (fun v ms ns => v = .ref (.sl 1 0 0 0 N 1) ∧ ms = [.lv true [(0, .ints .i64 N a)]] ∧ ns = [.lv true [(0, .ints .i64 N (tmT N t p a a N))]]) := by
  have hN := hs.le
  have hp2 := hp.le
  have p0 : ¬ p = 0 := by omega
  have hk8 : (N : Int) * 8 ≤ 140737488355328 := by omega
  have m1 : N * 1 = N := Nat.mul_one N
  refine acalls_of_body mix Try.func57 rfl fok57 (Nat.le_of_ble_eq_true rfl) ?_
  unfold abody
  simp only [absE, absL, absF, reduceCtorEq, ↓reduceIte, Nat.reduceEqDiff, Nat.reduceAdd, Nat.reduceLT, Nat.reduceMul, Nat.reduceSub, Nat.reduceLeDiff, Int.reduceLT, Int.reduceLE, Int.reduceEq, Option.isSome_some, implies_true, false_implies, Prod.mk.injEq, ne_eq, not_false_eq_true, not_true_eq_false, ge_iff_le, gt_iff_lt, Int.toNat_natCast, Int.reduceToNat, Int.cast_ofNat_Int, Int.natCast_nonneg, hk8, m1, Try.f57]
  refine awpLoop.intro (fun x : Nat => [(1, .i .i64 p), (2, .ref (.sl 0 0 0 0 N 1)), (3, .ref (.sl 0 0 0 0 N 1)), (4, .ref (.ptr 1 0 0 0)), (9, .ref (.sl 5 0 0 0 N 1)), (10, .i .i64 x)]) (fun x => ⟨[.lv true [(0, .ints .i64 N a)]], [((1, 0), .lv true (sqS N t)), ((5, 0), .lv true ([(0, .ints .i64 N (tmT N t p a a x))]))], 8⟩)
    (fun x => x ≤ N) (fun x => N - x) 0 (by omega) ⟨[((1,0),(1,0)), ((5,0),(5,0))], rfl, ?_, ?_⟩ ?_
  · simp [wkEnv, lk, renV, renAt, renTo, tmT, zeroArr]
  · simp [wkMem, wkLoc, Mem.get, assoc, renBlk, renSegs, renSg, renTo, tmT, zeroArr]
  · intro x hx
    by_cases h : (x : Int) < N
    · have w := wrap_i64s (show x < 2 ^ 62 by omega)
      have v1 : 0 + x * 1 < N := by omega
      have e0 : a.getD (0 + x * 1) 0 = a.getD x 0 := by rw [Nat.zero_add, Nat.mul_one]
      by_cases hz : False
      · first
          | exact False.elim hz
          | (simp only [absE, absL, absF, reduceCtorEq, ↓reduceIte, Nat.reduceEqDiff, Nat.reduceAdd, Nat.reduceLT, Nat.reduceMul, Nat.reduceSub, Nat.reduceLeDiff, Int.reduceLT, Int.reduceLE, Int.reduceEq, Option.isSome_some, implies_true, false_implies, Prod.mk.injEq, ne_eq, not_false_eq_true, not_true_eq_false, ge_iff_le, gt_iff_lt, Int.toNat_natCast, Int.reduceToNat, Int.cast_ofNat_Int, Int.natCast_nonneg, h, v1, e0, hz, w]
             refine LoopNext.intro (x + 1) (by omega) (by omega) ⟨[((1,0),(1,0)), ((5,0),(5,0))], rfl, ?_, ?_⟩
             · simp [wkEnv, lk, renV, renAt, renTo, w]
             · have e := tmIn_skip (t := t) (b := a) hp hz (tmT_rng (N := N) (t := t) hp ha ha (x := x)) (y := N)
               simp only [tmT, e]; simp [wkMem, wkLoc, Mem.get, assoc, renBlk, renSegs, renSg, renTo])
      · simp only [absE, absL, absF, reduceCtorEq, ↓reduceIte, Nat.reduceEqDiff, Nat.reduceAdd, Nat.reduceLT, Nat.reduceMul, Nat.reduceSub, Nat.reduceLeDiff, Int.reduceLT, Int.reduceLE, Int.reduceEq, Option.isSome_some, implies_true, false_implies, Prod.mk.injEq, ne_eq, not_false_eq_true, not_true_eq_false, ge_iff_le, gt_iff_lt, Int.toNat_natCast, Int.reduceToNat, Int.cast_ofNat_Int, Int.natCast_nonneg, h, v1, e0, hz]
        refine awpLoop.intro (fun y : Nat => [(1, .i .i64 p), (2, .ref (.sl 0 0 0 0 N 1)), (3, .ref (.sl 0 0 0 0 N 1)), (4, .ref (.ptr 1 0 0 0)), (9, .ref (.sl 5 0 0 0 N 1)), (10, .i .i64 x), (11, .i .i64 y)]) (fun y => ⟨[.lv true [(0, .ints .i64 N a)]], [((1, 0), .lv true (sqS N t)), ((5, 0), .lv true ([(0, .ints .i64 N (tmIn t p a a x (tmT N t p a a x) y))]))], 13⟩)
          (fun y => y ≤ N) (fun y => N - y) 0 (by omega) ⟨[((1,0),(1,0)), ((5,0),(5,0))], rfl, ?_, ?_⟩ ?_
        · simp [wkEnv, lk, renV, renAt, renTo, tmIn]
        · simp [wkMem, wkLoc, Mem.get, assoc, renBlk, renSegs, renSg, renTo, tmIn]
        · intro y hy
          by_cases h' : (y : Int) < N
          · have w' := wrap_i64s (show y < 2 ^ 62 by omega)
            have v2 : 0 + y * 1 < N := by omega
            have e1 : a.getD (0 + y * 1) 0 = a.getD y 0 := by rw [Nat.zero_add, Nat.mul_one]
            have jz := hs.cl_lt (show x < N by omega) (show y < N by omega)
            have i1 : (x : Int) < 10 := by omega
            have i2 : (y : Int) < 10 := by omega
            have i3 : (cl t x y : Int) < N := by omega
            have u1 : 0 + x * 10 + y * 1 < 100 := by omega
            have u2 : 0 + cl t x y * 1 < N := by omega
            have u3 : 0 + cl t x y * 1 + 1 ≤ N := by omega
            have k1 := sq_colget ht x y
            have hr := tmIn_rng (t := t) (x := x) hp ha ha (tmT_rng (N := N) (t := t) hp ha ha (x := x)) (y := y)
            have hl : (tmIn t p a a x (tmT N t p a a x) y).length = N := by rw [tmIn_len, tmT_len]
            have c0 := hr (cl t x y)
            have m0 := prod_le hp (ha x) (ha y)
            have e2 : (tmIn t p a a x (tmT N t p a a x) y).getD (0 + cl t x y * 1) 0 = (tmIn t p a a x (tmT N t p a a x) y).getD (cl t x y) 0 := by rw [Nat.zero_add, Nat.mul_one]
            have wm : IntKind.i64.wrap (a.getD x 0 * a.getD y 0) = a.getD x 0 * a.getD y 0 := wrap_i64 (by omega) (by omega)
            have wa : IntKind.i64.wrap ((tmIn t p a a x (tmT N t p a a x) y).getD (cl t x y) 0 + a.getD x 0 * a.getD y 0) = (tmIn t p a a x (tmT N t p a a x) y).getD (cl t x y) 0 + a.getD x 0 * a.getD y 0 := wrap_i64 (by omega) (by omega)
            have e3 : (tmIn t p a a x (tmT N t p a a x) y).set (0 + cl t x y * 1) (((tmIn t p a a x (tmT N t p a a x) y).getD (cl t x y) 0 + a.getD x 0 * a.getD y 0).tmod p) = tmIn t p a a x (tmT N t p a a x) (y + 1) := by rw [Nat.zero_add, Nat.mul_one]; rfl
            by_cases h1 : 1 = N
            · have e4 : [((tmIn t p a a x (tmT N t p a a x) y).getD (cl t x y) 0 + a.getD x 0 * a.getD y 0).tmod p] = tmIn t p a a x (tmT N t p a a x) (y + 1) := set_one (by omega) (by omega)
              have h1t : (1 = N) = True := eq_true h1
              simp only [absE, absL, absF, reduceCtorEq, ↓reduceIte, Nat.reduceEqDiff, Nat.reduceAdd, Nat.reduceLT, Nat.reduceMul, Nat.reduceSub, Nat.reduceLeDiff, Int.reduceLT, Int.reduceLE, Int.reduceEq, Option.isSome_some, implies_true, false_implies, Prod.mk.injEq, ne_eq, not_false_eq_true, not_true_eq_false, ge_iff_le, gt_iff_lt, Int.toNat_natCast, Int.reduceToNat, Int.cast_ofNat_Int, Int.natCast_nonneg, h', v1, v2, e0, e1, i1, i2, i3, u1, u2, u3, k1, e2, wm, wa, p0, h1t, e4]
              repeat refine And.intro (by first | omega | decide +kernel) ?_
              refine LoopNext.intro (y + 1) (by omega) (by omega) ⟨[((1,0),(1,0)), ((5,0),(5,0))], rfl, ?_, ?_⟩
              · simp [wkEnv, lk, renV, renAt, renTo, w']
              · simp [wkMem, wkLoc, Mem.get, assoc, renBlk, renSegs, renSg, renTo, w']
            · simp only [absE, absL, absF, reduceCtorEq, ↓reduceIte, Nat.reduceEqDiff, Nat.reduceAdd, Nat.reduceLT, Nat.reduceMul, Nat.reduceSub, Nat.reduceLeDiff, Int.reduceLT, Int.reduceLE, Int.reduceEq, Option.isSome_some, implies_true, false_implies, Prod.mk.injEq, ne_eq, not_false_eq_true, not_true_eq_false, ge_iff_le, gt_iff_lt, Int.toNat_natCast, Int.reduceToNat, Int.cast_ofNat_Int, Int.natCast_nonneg, h', v1, v2, e0, e1, i1, i2, i3, u1, u2, u3, k1, e2, wm, wa, p0, h1, e3]
              repeat refine And.intro (by first | omega | decide +kernel) ?_
              refine LoopNext.intro (y + 1) (by omega) (by omega) ⟨[((1,0),(1,0)), ((5,0),(5,0))], rfl, ?_, ?_⟩
              · simp [wkEnv, lk, renV, renAt, renTo, w']
              · simp [wkMem, wkLoc, Mem.get, assoc, renBlk, renSegs, renSg, renTo, w']
          · have hyN : y = N := by omega
            subst hyN
            simp only [absE, absL, absF, reduceCtorEq, ↓reduceIte, Nat.reduceEqDiff, Nat.reduceAdd, Nat.reduceLT, Nat.reduceMul, Nat.reduceSub, Nat.reduceLeDiff, Int.reduceLT, Int.reduceLE, Int.reduceEq, Option.isSome_some, implies_true, false_implies, Prod.mk.injEq, ne_eq, not_false_eq_true, not_true_eq_false, ge_iff_le, gt_iff_lt, Int.toNat_natCast, Int.reduceToNat, Int.cast_ofNat_Int, Int.natCast_nonneg, h', w]
            refine LoopNext.intro (x + 1) (by omega) (by omega) ⟨[((1,0),(1,0)), ((5,0),(5,0))], rfl, ?_, ?_⟩
            · simp [wkEnv, lk, renV, renAt, renTo, tmT]
            · simp [wkMem, wkLoc, Mem.get, assoc, renBlk, renSegs, renSg, renTo, tmT]
    · have hxN : x = N := by omega
      subst hxN
      simp only [absE, absL, absF, reduceCtorEq, ↓reduceIte, Nat.reduceEqDiff, Nat.reduceAdd, Nat.reduceLT, Nat.reduceMul, Nat.reduceSub, Nat.reduceLeDiff, Int.reduceLT, Int.reduceLE, Int.reduceEq, Option.isSome_some, implies_true, false_implies, Prod.mk.injEq, ne_eq, not_false_eq_true, not_true_eq_false, ge_iff_le, gt_iff_lt, Int.toNat_natCast, Int.reduceToNat, Int.cast_ofNat_Int, Int.natCast_nonneg, h, Try.results57]
      exact ⟨[(5, 0)], by simp, by simp, by simp [renV, renAt, renFin, idx], by simp [renBlk, renSegs, renSg], by simp [renBlk, renSegs, renSg, Mem.get, assoc]⟩
theorem wk_keepO {m : Mem} {pre : Pairs} {B : Nat} {LL : LLs} {o O : Abs.Id} (hB0 : B ≠ 0) (hpre : ∀ x ∈ pre, x.1.1 ≠ B) (ho : o.1 ≠ B) (hO : m.get o.1 o.2 = ob B 0 LL) (hB : ∀ j, j < LL.length → m.get B (0 + j) = ib (at_ LL j)) :
    wkLoc m (renTo (pre ++ (o, O) :: stdR B LL.length)) (pre ++ (o, O) :: stdR B LL.length) = wkLoc m (renTo (pre ++ (o, O) :: stdR B LL.length)) pre ++ (O, ob B 0 LL) :: rbag B 0 LL := by
  have e : pre ++ (o, O) :: stdR B LL.length = (pre ++ [(o, O)]) ++ stdR B LL.length := by simp
  rw [e, wk_keep rfl hB, wkLoc_app, wkLoc, wkLoc, hO, ob_ren (a' := B) (k' := 0) fun j hj => keep_at hB0 (fun x hx => by
    rcases List.mem_append.1 hx with hx | hx
    · exact hpre x hx
    · simp at hx; subst hx; exact ho) hj]
  simp
theorem wkOk_keepO {pre : Pairs} {B n next : Nat} {o O : Abs.Id} (h : wkOk (pre ++ [(o, O)]) next = true) (hB0 : B ≠ 0) (hBn : B < next) (hpre : ∀ x ∈ pre ++ [(o, O)], x.1.1 ≠ B ∧ x.2.1 ≠ B) : wkOk (pre ++ (o, O) :: stdR B n) next = true := by
  have e : pre ++ (o, O) :: stdR B n = (pre ++ [(o, O)]) ++ stdR B n := by simp
  rw [e]; exact wkOk_keep h hB0 hBn hpre
def idmB (N : Nat) (t : List Int) (P i : Nat) : Bool := decide (tmT N t P (digL P N i) (digL P N i) N = digL P N i)
def idmL (N : Nat) (t : List Int) (P : Nat) : Nat → LLs
  | 0 => []
  | k + 1 => if idmB N t P k then idmL N t P k ++ [digL P N k] else idmL N t P k
theorem idmL_len {N : Nat} {t : List Int} {P : Nat} : ∀ {k}, (idmL N t P k).length ≤ k
  | 0 => by simp [idmL]
  | k + 1 => by
    have := idmL_len (N := N) (t := t) (P := P) (k := k)
    rw [idmL]; split
    · rw [List.length_append]; simp; omega
    · omega
theorem idmL_row {N : Nat} {t : List Int} {P : Nat} : ∀ {k}, ∀ xs ∈ idmL N t P k, xs.length = N
  | 0, xs, h => by simp [idmL] at h
  | k + 1, xs, h => by
    rw [idmL] at h
    split at h
    · rcases List.mem_append.1 h with h | h
      · exact idmL_row xs h
      · simp at h; subst h; exact digL_len
    · exact idmL_row xs h
theorem digL_rng {P N i : Nat} (hP : 0 < P) : RngP P (digL P N i) := fun j => by
  by_cases h : j < N
  · rw [digL_get h]; have := dg_lt (P := P) (i := i) (m := N - 1 - j) hP; omega
  · rw [List.getD_eq_getElem?_getD, List.getElem?_eq_none (by rw [digL_len]; omega)]; simp; omega
def iMs (N : Nat) (t : List Int) (P i : Nat) (L : LLs) : List Blk := .lv true [(0, .ints .i64 N (digL P N i))] :: .lv true (sqS N t) :: .lv true [(0, .ints .i64 1 [(P : Int)])] :: .lv true [(0, .cells 1 [.sl 0 4 0 0 L.length 1])] :: ob 0 5 L :: inn L
def iMs' (N : Nat) (t : List Int) (P i : Nat) (L : LLs) : List Blk := .lv true [(0, .ints .i64 N (digL P N i))] :: .lv true (sqS N t) :: .lv true [(0, .ints .i64 1 [(P : Int)])] :: .lv true [(0, .cells 1 [.sl 1 0 0 0 (L.length + 1) 1])] :: .dead :: inn L
theorem CallsVia.idm {f : FuncId} {N P i O B dg n : Nat} {t : List Int} {L : LLs} {loc : Loc} {K : AV → Ups → List Abs.Id → Prop} (hO : O ≠ 0) (hB : B ≠ 0) (hOB : O ≠ B) (hd : dg ≠ 0) (hdO : dg ≠ O) (hdB : dg ≠ B) (hn : n ≠ 0)
    (h0 : assoc loc O 0 = ob B 0 L) (hi : ∀ j, j < L.length → assoc loc B (0 + j) = ib (at_ L j)) (hdg : assoc loc dg 0 = .lv true [(0, .ints .i64 N (digL P N i))])
    (h : ACalls Try.prog f [.ref (.sl 0 0 0 0 N 1), .ref (.ptr 0 1 0 0), .ref (.ptr 0 2 0 0), .ref (.ptr 0 3 0 0)] (iMs N t P i L)
      (fun v ms ns => v = .tup [] ∧ ((idmB N t P i = true ∧ ms = iMs' N t P i L ∧ ns = [.lv true [(0, .cells (L.length + 1) (outs 0 5 L ++ [.sl 0 0 0 0 N 1]))]]) ∨ (idmB N t P i = false ∧ ms = iMs N t P i L ∧ ns = []))))
    (hK1 : idmB N t P i = true → ∀ ups rd, (∀ n', (Mem.mk [.lv true (sqS N t), .lv true [(0, .ints .i64 1 [(P : Int)])], .lv true [(0, .cells 1 [.sl O 0 0 0 L.length 1])], .dead] loc n').upd ups = ⟨[.lv true (sqS N t), .lv true [(0, .ints .i64 1 [(P : Int)])], .lv true [(0, .cells 1 [.sl n 0 0 0 (L.length + 1) 1])], .dead], ((n, 0), .lv true [(0, .cells (L.length + 1) (outs B 0 L ++ [.sl dg 0 0 0 N 1]))]) :: (rbag B 0 L ++ ((O, 0), .dead) :: ((dg, 0), .lv true [(0, .ints .i64 N (digL P N i))]) :: loc), n'⟩) → K (.tup []) ups rd)
    (hK0 : idmB N t P i = false → ∀ ups rd, (∀ n', (Mem.mk [.lv true (sqS N t), .lv true [(0, .ints .i64 1 [(P : Int)])], .lv true [(0, .cells 1 [.sl O 0 0 0 L.length 1])], .dead] loc n').upd ups = ⟨[.lv true (sqS N t), .lv true [(0, .ints .i64 1 [(P : Int)])], .lv true [(0, .cells 1 [.sl O 0 0 0 L.length 1])], .dead], rbag B 0 L ++ ((O, 0), ob B 0 L) :: ((dg, 0), .lv true [(0, .ints .i64 N (digL P N i))]) :: loc, n'⟩) → K (.tup []) ups rd) :
    CallsVia Try.prog f [.ref (.sl dg 0 0 0 N 1), .ref (.ptr 0 0 0 0), .ref (.ptr 0 1 0 0), .ref (.ptr 0 2 0 0)] ⟨[.lv true (sqS N t), .lv true [(0, .ints .i64 1 [(P : Int)])], .lv true [(0, .cells 1 [.sl O 0 0 0 L.length 1])], .dead], loc, n⟩ K := by
  have rin : ∀ j, j < L.length → renIn ((dg, 0) :: (0, 0) :: (0, 1) :: (0, 2) :: (O, 0) :: srcs B 0 L.length) B (0 + j) = some (0, 5 + j) := fun j hj => by
    have e1 : ¬ (0 = B) := fun e => hB e.symm
    simp only [renIn, idx, hdB, hOB, e1, false_and, if_false, idx_srcs_in hj]
    simp; omega
  have rout : ∀ j, j < L.length → renOut n ((dg, 0) :: (0, 0) :: (0, 1) :: (0, 2) :: (O, 0) :: srcs B 0 L.length) 0 (5 + j) = some (B, 0 + j) := fun j hj => by
    show ((dg, 0) :: (0, 0) :: (0, 1) :: (0, 2) :: (O, 0) :: srcs B 0 L.length)[5 + j]? = _
    rw [show 5 + j = j + 1 + 1 + 1 + 1 + 1 by omega, List.getElem?_cons_succ, List.getElem?_cons_succ, List.getElem?_cons_succ, List.getElem?_cons_succ, List.getElem?_cons_succ]
    simp [srcs, hj]
  have gO : ∀ a, (Mem.mk a loc n).get O 0 = ob B 0 L := fun a => by show (if O = 0 then _ else assoc loc O 0) = _; rw [if_neg hO]; exact h0
  have gd : ∀ a, (Mem.mk a loc n).get dg 0 = .lv true [(0, .ints .i64 N (digL P N i))] := fun a => by show (if dg = 0 then _ else assoc loc dg 0) = _; rw [if_neg hd]; exact hdg
  have gi : ∀ a j, j < L.length → (Mem.mk a loc n).get B (0 + j) = ib (at_ L j) := fun a j hh => by show (if B = 0 then _ else assoc loc B (0 + j)) = _; rw [if_neg hB]; exact hi j hh
  have hnd : ((dg, 0) :: (0, 0) :: (0, 1) :: (0, 2) :: (O, 0) :: srcs B 0 L.length : List Abs.Id).Nodup := by
    have hm : ∀ x y, (x, y) ∈ srcs B 0 L.length → x = B := fun x y hh => (srcs_mem.1 hh).1
    rw [List.nodup_cons, List.nodup_cons, List.nodup_cons, List.nodup_cons]
    refine ⟨?_, ?_, ?_, ?_, row_nodup (.inl hOB)⟩
    · simp [hd, hdO]; exact fun hh => hdB (hm _ _ hh)
    · simp [Ne.symm hO]; exact fun hh => hB (hm _ _ hh).symm
    · simp [Ne.symm hO]; exact fun hh => hB (hm _ _ hh).symm
    · simp [Ne.symm hO]; exact fun hh => hB (hm _ _ hh).symm
  have hnO : ¬ (0 = O) := fun e => hO e.symm
  have hn0 : ¬ (dg = 0) := hd
  have hOd : ¬ (dg = O) := hdO
  have r4 : renOut n ((dg, 0) :: (0, 0) :: (0, 1) :: (0, 2) :: (O, 0) :: srcs B 0 L.length) 0 4 = some (O, 0) := rfl
  have r0 : renOut n ((dg, 0) :: (0, 0) :: (0, 1) :: (0, 2) :: (O, 0) :: srcs B 0 L.length) 0 0 = some (dg, 0) := rfl
  have r1 : renOut n ((dg, 0) :: (0, 0) :: (0, 1) :: (0, 2) :: (O, 0) :: srcs B 0 L.length) 1 0 = some (n, 0) := rfl
  refine CallsVia.args ((dg, 0) :: (0, 0) :: (0, 1) :: (0, 2) :: (O, 0) :: srcs B 0 L.length) h hnd ?_ ?_ ?_ ?_
  · intro p hp
    rcases List.mem_cons.1 hp with rfl | hp
    · rw [gd]; simp
    rcases List.mem_cons.1 hp with rfl | hp
    · simp [Mem.get]
    rcases List.mem_cons.1 hp with rfl | hp
    · simp [Mem.get]
    rcases List.mem_cons.1 hp with rfl | hp
    · simp [Mem.get]
    rcases List.mem_cons.1 hp with rfl | hp
    · rw [gO]; simp [ob]
    · obtain ⟨h1, h2, h3⟩ := srcs_mem.1 hp
      obtain ⟨x, y⟩ := p
      simp only at h1 h2 h3
      subst h1
      rw [show y = 0 + y by omega, gi _ _ (by omega)]
      simp [ib]
  · simp [renVs, renV, renAt, renIn, idx, hn0]
  · unfold argBlks iMs
    rw [List.map_cons, List.map_cons, List.map_cons, List.map_cons, List.map_cons, gd, gO, srcs_get fun j hh => gi _ j hh, ob_ren rin]
    simp [Mem.get, renBlk, renSegs, renSg, renAt, renIn, idx, hn0, hOd, hnO]
  · rintro _ _ _ ⟨rfl, (⟨hb, rfl, rfl⟩ | ⟨hb, rfl, rfl⟩)⟩
    · simp only [renV, renVs]
      refine hK1 hb _ _ fun n' => ?_
      simp only [iMs', zipUps, newUps]
      rw [zipUps_srcs rfl]
      simp only [List.cons_append, Mem.upd, Mem.put, hd, hO, if_false, if_true, renBlk, renSegs, renSg, List.map_cons, List.map_nil, List.map_append, renAt, r0, r1, outs_ren rout, List.set_cons_zero, List.set_cons_succ]
      rw [Mem.upd_app, Mem.upd_bagU hB]
      simp only [Mem.upd, Mem.put, hn, if_false, sqS]
    · simp only [renV, renVs]
      refine hK0 hb _ _ fun n' => ?_
      simp only [iMs, zipUps, newUps]
      rw [zipUps_srcs rfl, ob_ren rout]
      simp only [List.cons_append, List.append_nil, Mem.upd, Mem.put, hd, hO, if_false, if_true, renBlk, renSegs, renSg, List.map_cons, List.map_nil, renAt, r4, List.set_cons_zero, List.set_cons_succ]
      rw [Mem.upd_bagU hB]

/-! IdempotentsOf: sums -/
def sMs (N : Nat) (t : List Int) (P : Nat) : List Blk := [.lv true (sqS N t), .lv true [(0, .ints .i64 1 [(P : Int)])], .lv true [(0, .cells 1 [.sl 0 3 0 0 0 1])], .lv true [(0, .cells 0 [])]]
theorem sums_no (N : Nat) (t : List Int) (P : Nat) (f : FuncId) (hN : N ≤ 10) (hP : 2 ≤ P) (hP2 : P ≤ 7) (hbig : 20000 < P ^ N) :
    ACalls Try.prog 31 [.agg (sqS N t), .i .i64 P, .ref (.fn f [(0, 0, 0, 0), (0, 1, 0, 0), (0, 2, 0, 0)])] (sMs N t P) (fun v ms ns => v = .i .i64 3 ∧ ms = sMs N t P ∧ ns = []) := by
  unfold sMs
  refine acalls_of_body mix Try.func31 rfl fok31 (Nat.le_of_ble_eq_true rfl) ?_
  unfold abody
  simp only [absE, absL, absF, reduceCtorEq, ↓reduceIte, Nat.reduceEqDiff, Nat.reduceAdd, Nat.reduceLT, Nat.reduceMul, Nat.reduceSub, Nat.reduceLeDiff, Int.reduceLT, Int.reduceLE, Int.reduceEq, Option.isSome_some, implies_true, false_implies, Prod.mk.injEq, ne_eq, not_false_eq_true, not_true_eq_false, ge_iff_le, gt_iff_lt, Int.toNat_natCast, Int.reduceToNat, Int.cast_ofNat_Int, Int.natCast_nonneg, Try.f31]
  refine awpLoop.intro (fun k : Nat => [(1, .i .i64 P), (2, .ref (.fn f [(0, 0, 0, 0), (0, 1, 0, 0), (0, 2, 0, 0)])), (3, .ref (.ptr 1 0 0 0)), (7, .i .i64 ((P ^ k : Nat) : Int)), (12, .i .i64 N), (13, .i .i64 k)]) (fun k => ⟨[.lv true (sqS N t), .lv true [(0, .ints .i64 1 [(P : Int)])], .lv true [(0, .cells 1 [.sl 0 3 0 0 0 1])], .lv true [(0, .cells 0 [])]], [((1, 0), .lv true (sqS N t))], 50⟩)
    (fun k => k ≤ N ∧ P ^ k ≤ 20000) (fun k => N - k) 0 ⟨by omega, by rw [Nat.pow_zero]; decide⟩ ⟨[((1,0),(1,0))], rfl, ?_, ?_⟩ ?_
  · simp [wkEnv, lk, renV, renAt, renTo, renCaps]
  · simp [wkMem, wkLoc, Mem.get, assoc, renBlk, renSegs, renSg, renAt, renTo]
  · rintro k ⟨hk, hb⟩
    have hkN : k < N := by
      rcases Nat.lt_or_ge k N with h | h
      · exact h
      · obtain rfl : k = N := by omega
        omega
    have h : (k : Int) < N := by omega
    have hpp : P ^ k * P = P ^ (k + 1) := (Nat.pow_succ ..).symm
    have hlt : P ^ (k + 1) ≤ 2000000 := by rw [← hpp]; exact Nat.le_trans (Nat.mul_le_mul hb hP2) (by decide)
    have wp : IntKind.i64.wrap (((P ^ k : Nat) : Int) * P) = ((P ^ (k + 1) : Nat) : Int) := by rw [← Int.natCast_mul, hpp]; exact wrap_i64n (by omega)
    have w := wrap_i64s (show k < 2 ^ 62 by omega)
    by_cases h2 : P ^ (k + 1) ≤ 20000
    · have g2 : ¬ (20000 : Int) < ((P ^ (k + 1) : Nat) : Int) := by omega
      simp only [absE, absL, absF, reduceCtorEq, ↓reduceIte, Nat.reduceEqDiff, Nat.reduceAdd, Nat.reduceLT, Nat.reduceMul, Nat.reduceSub, Nat.reduceLeDiff, Int.reduceLT, Int.reduceLE, Int.reduceEq, Option.isSome_some, implies_true, false_implies, Prod.mk.injEq, ne_eq, not_false_eq_true, not_true_eq_false, ge_iff_le, gt_iff_lt, Int.toNat_natCast, Int.reduceToNat, Int.cast_ofNat_Int, Int.natCast_nonneg, h, wp, g2]
      refine LoopNext.intro (k + 1) ⟨by omega, h2⟩ (by omega) ⟨[((1,0),(1,0))], rfl, ?_, ?_⟩
      · simp [wkEnv, lk, renV, renAt, renTo, renCaps, w]
      · simp [wkMem, wkLoc, Mem.get, assoc, renBlk, renSegs, renSg, renAt, renTo]
    · have g2 : (20000 : Int) < ((P ^ (k + 1) : Nat) : Int) := by omega
      simp only [absE, absL, absF, reduceCtorEq, ↓reduceIte, Nat.reduceEqDiff, Nat.reduceAdd, Nat.reduceLT, Nat.reduceMul, Nat.reduceSub, Nat.reduceLeDiff, Int.reduceLT, Int.reduceLE, Int.reduceEq, Option.isSome_some, implies_true, false_implies, Prod.mk.injEq, ne_eq, not_false_eq_true, not_true_eq_false, ge_iff_le, gt_iff_lt, Int.toNat_natCast, Int.reduceToNat, Int.cast_ofNat_Int, Int.natCast_nonneg, h, wp, g2, Try.results31]
      exact ⟨[], by simp, by simp, by simp [renV], by simp [renBlk, renSegs, renSg, renAt, renFin], by simp⟩
/-- the digits of i, written from the lowest: m of them -/
def digW (P N i m : Nat) : List Int := (List.range N).map fun j => if N - m ≤ j then ((dg P i (N - 1 - j) : Nat) : Int) else 0
theorem digW_len {P N i m : Nat} : (digW P N i m).length = N := by simp [digW]
theorem digW_zero {P N i : Nat} : digW P N i 0 = List.replicate N 0 := by
  apply List.ext_getElem
  · simp [digW]
  · intro j h1 h2
    have hj : j < N := by simpa using h2
    simp only [digW, List.getElem_map, List.getElem_range, List.getElem_replicate]
    rw [if_neg (by omega)]
theorem digW_all {P N i : Nat} : digW P N i N = digL P N i := by
  unfold digW digL
  apply List.map_congr_left
  intro j hj
  rw [if_pos (by omega)]
theorem digW_next {P N i m : Nat} (h : m < N) : (digW P N i m).set (N - 1 - m) ((dg P i m : Nat) : Int) = digW P N i (m + 1) := by
  apply List.ext_getElem
  · simp [digW]
  · intro j h1 h2
    have hj : j < N := by simpa [digW] using h2
    rw [List.getElem_set]
    simp only [digW, List.getElem_map, List.getElem_range]
    by_cases e : N - 1 - m = j
    · rw [if_pos e, if_pos (by omega), show N - 1 - j = m by omega]
    · rw [if_neg e]
      by_cases e2 : N - m ≤ j
      · rw [if_pos e2, if_pos (by omega)]
      · rw [if_neg e2, if_neg (by omega)]
/-- nought is idempotent -/
theorem tmT_zero {N : Nat} {t : List Int} {P : Nat} (hp : PrP P) (hP : 2 ≤ P) : ∀ {x}, tmT N t P (digL P N 0) (digL P N 0) x = List.replicate N 0
  | 0 => rfl
  | x + 1 => by
    have hz : (digL P N 0).getD x 0 = 0 := by rw [digL_zero]; exact getD_rep0
    rw [tmT, tmT_zero hp hP (x := x)]
    exact tmIn_skip hp hz (by rw [← digL_zero (P := P)]; exact digL_rng (by omega))
theorem idmB_zero {N : Nat} {t : List Int} {P : Nat} (hp : PrP P) (hP : 2 ≤ P) : idmB N t P 0 = true := by
  unfold idmB; rw [tmT_zero hp hP, digL_zero]; exact decide_eq_true rfl

/-! IdempotentsOf: the program -/
def sqp (N : Nat) (t : List Int) (P : Nat) : List Blk := [.lv true (sqS N t), .lv true [(0, .ints .i64 1 [(P : Int)])]]
end Go.Proofs.Ytjmenocghjggcaa
