/-
Contracts of functions of the given program, by the abstract walk.
-/
import Derived.Test.YtjmenocghjggcaaAbsY
import Derived.Test.YtjmenocghjggcaaWm
namespace Go.Proofs.Ytjmenocghjggcaa
open Go Go.Abs
set_option linter.unusedVariables false
set_option linter.unusedSectionVars false
set_option linter.unusedSimpArgs false
set_option maxRecDepth 100000
/-! CountUnits: the program -/
theorem unI {N : Nat} {t : List Int} {P i : Nat} (hp : PrP P) (hs : SqP N t) (hP : 0 < P) : (rdS P N (eqT N t P (digL P N i) N) N).2.2.length = N ↔ unB N t P i = true := by
  have ha := digL_rng (N := N) (i := i) hP
  have hm := eq_mat hp hs ha
  have hE := (eqT_eqs (N := N) (t := t) hp hs ha (Nat.le_refl N)).len
  have hI := rdS_I hp hm hE (Nat.le_refl N)
  have hr := hI.red.rank hp.le.1 hm
  have hl := (perm_lt hI.perm).1
  have hk := hI.kn
  rw [List.length_map, List.length_take, hl, Nat.min_eq_left hk] at hr
  rw [hr, unB_iff]
def uMs (N : Nat) (t : List Int) (P C : Nat) : List Blk := [.lv true (sqS N t), .lv true [(0, .ints .i64 1 [(P : Int)])], .lv true [(0, .ints .i64 1 [(C : Int)])]]
theorem unit1_ok (N : Nat) (t : List Int) (P i C : Nat) (ht : Bytes 100 t) (hs : SqP N t) (hp : PrP P) (hP : 2 ≤ P) (hC : C ≤ 20000) :
    ACalls Try.prog 32 [.ref (.sl 0 0 0 0 N 1), .ref (.ptr 0 1 0 0), .ref (.ptr 0 2 0 0), .ref (.ptr 0 3 0 0)] (.lv true [(0, .ints .i64 N (digL P N i))] :: uMs N t P C)
      (fun v ms ns => v = .tup [] ∧ ms = .lv true [(0, .ints .i64 N (digL P N i))] :: uMs N t P (if unB N t P i then C + 1 else C) ∧ ns = []) := by
  have hN := hs.le
  have hN1 := hs.pos
  have ha := digL_rng (P := P) (N := N) (i := i) (by omega)
  have hEq := equations_ok N t P (digL P N i) ht hs hp ha digL_len
  have hri := unI (N := N) (t := t) (P := P) (i := i) hp hs (by omega)
  have hE := eqT_eqs (N := N) (t := t) hp hs ha (Nat.le_refl N)
  have hm := eq_mat (N := N) (t := t) hp hs ha
  have hRd := reduced_ok N N P (eqT N t P (digL P N i) N) hp hN (by omega) hE.len hm (by omega)
  generalize eqT N t P (digL P N i) N = E at hEq hri hE hm hRd ⊢
  have hEl := hE.len
  have wC := wrap_i64s (show C < 2 ^ 62 by omega)
  unfold uMs
  refine acalls_of_body mix Try.func32 rfl fok32 (Nat.le_of_ble_eq_true rfl) ?_
  unfold abody
  simp only [absE, absL, absF, reduceCtorEq, ↓reduceIte, Nat.reduceEqDiff, Nat.reduceAdd, Nat.reduceLT, Nat.reduceMul, Nat.reduceSub, Nat.reduceLeDiff, Int.reduceLT, Int.reduceLE, Int.reduceEq, Option.isSome_some, implies_true, false_implies, Prod.mk.injEq, ne_eq, not_false_eq_true, not_true_eq_false, ge_iff_le, gt_iff_lt, Int.toNat_natCast, Int.reduceToNat, Int.cast_ofNat_Int, Int.natCast_nonneg, List.getD_cons_zero, List.getD_cons_succ, Try.f32]
  refine CallsX.args [(0, 0)] hEq (by simp) (by simp [Mem.get]) (by simp [renVs, renV, renAt, renIn, idx, renSegs, renSg]) (by simp [argBlks, Mem.get, renBlk, renSegs, renSg]) ?_
  simp only [absE, absL, absF, reduceCtorEq, ↓reduceIte, Nat.reduceEqDiff, Nat.reduceAdd, Nat.reduceLT, Nat.reduceMul, Nat.reduceSub, Nat.reduceLeDiff, Int.reduceLT, Int.reduceLE, Int.reduceEq, Option.isSome_some, implies_true, false_implies, Prod.mk.injEq, ne_eq, not_false_eq_true, not_true_eq_false, ge_iff_le, gt_iff_lt, Int.toNat_natCast, Int.reduceToNat, Int.cast_ofNat_Int, Int.natCast_nonneg, newUps_inn, ob_out, Mem.upd_bagU, List.getD_cons_zero, List.getD_cons_succ]
  refine And.intro (chk_m (l := [(1, false), (0, false)]) rfl (by decide +kernel)) (And.intro (by simp [chk, disj_cons, disj_bag, disj_bag', disj_nl, disj_nr]) ?_)
  refine CallsX.rowG (g := 4) (LL := E) (by decide) (by decide) Row.new (fun σ h0 => by simp [renVs, renV, renAt, h0]) hRd ?_
  intro ups rd loc' hu hl
  have e6 : ∀ j, renOut 6 ((4, 0) :: srcs 4 1 E.length) 1 j = some (6, j) := fun j => rfl
  have e4 : renOut 6 ((4, 0) :: srcs 4 1 E.length) 0 0 = some (4, 0) := rfl
  refine And.intro (chk_w (l := [4, 3, 2, 1, 0]) rfl (by decide +kernel)) ?_
  simp only [renV, renVs, List.map_cons, List.map_nil, renAt, e6, e4, hu]
  generalize (rdS P N E N).2.2.length = K at hri ⊢
  by_cases hDN : K = N
  · rw [if_pos (hri.1 hDN)]
    have hDN2 : (K : Int) = N := by omega
    simp only [absE, absL, absF, reduceCtorEq, ↓reduceIte, Nat.reduceEqDiff, Nat.reduceAdd, Nat.reduceLT, Nat.reduceMul, Nat.reduceSub, Nat.reduceLeDiff, Int.reduceLT, Int.reduceLE, Int.reduceEq, Option.isSome_some, implies_true, false_implies, Prod.mk.injEq, ne_eq, not_false_eq_true, not_true_eq_false, ge_iff_le, gt_iff_lt, Int.toNat_natCast, Int.reduceToNat, Int.cast_ofNat_Int, Int.natCast_nonneg, List.getD_cons_zero, List.getD_cons_succ, hDN2, wC, Try.results32]
    exact ⟨[], by simp, by simp, by simp [renV, renVs], by simp [renBlk, renSegs, renSg], by simp⟩
  · rw [if_neg (fun h => hDN (hri.2 h))]
    have hDN2 : ¬ (K : Int) = N := by omega
    simp only [absE, absL, absF, reduceCtorEq, ↓reduceIte, Nat.reduceEqDiff, Nat.reduceAdd, Nat.reduceLT, Nat.reduceMul, Nat.reduceSub, Nat.reduceLeDiff, Int.reduceLT, Int.reduceLE, Int.reduceEq, Option.isSome_some, implies_true, false_implies, Prod.mk.injEq, ne_eq, not_false_eq_true, not_true_eq_false, ge_iff_le, gt_iff_lt, Int.toNat_natCast, Int.reduceToNat, Int.cast_ofNat_Int, Int.natCast_nonneg, List.getD_cons_zero, List.getD_cons_succ, hDN2, wC, Try.results32]
    exact ⟨[], by simp, by simp, by simp [renV, renVs], by simp [renBlk, renSegs, renSg], by simp⟩
theorem sumsU_no (N : Nat) (t : List Int) (P : Nat) (f : FuncId) (hN : N ≤ 10) (hP : 2 ≤ P) (hP2 : P ≤ 7) (hbig : 20000 < P ^ N) :
    ACalls Try.prog 31 [.agg (sqS N t), .i .i64 P, .ref (.fn f [(0, 0, 0, 0), (0, 1, 0, 0), (0, 2, 0, 0)])] (uMs N t P 0) (fun v ms ns => v = .i .i64 3 ∧ ms = uMs N t P 0 ∧ ns = []) := by
  unfold uMs
  refine acalls_of_body mix Try.func31 rfl fok31 (Nat.le_of_ble_eq_true rfl) ?_
  unfold abody
  simp only [absE, absL, absF, reduceCtorEq, ↓reduceIte, Nat.reduceEqDiff, Nat.reduceAdd, Nat.reduceLT, Nat.reduceMul, Nat.reduceSub, Nat.reduceLeDiff, Int.reduceLT, Int.reduceLE, Int.reduceEq, Option.isSome_some, implies_true, false_implies, Prod.mk.injEq, ne_eq, not_false_eq_true, not_true_eq_false, ge_iff_le, gt_iff_lt, Int.toNat_natCast, Int.reduceToNat, Int.cast_ofNat_Int, Int.natCast_nonneg, Try.f31]
  refine awpLoop.intro (fun k : Nat => [(1, .i .i64 P), (2, .ref (.fn f [(0, 0, 0, 0), (0, 1, 0, 0), (0, 2, 0, 0)])), (3, .ref (.ptr 1 0 0 0)), (7, .i .i64 ((P ^ k : Nat) : Int)), (12, .i .i64 N), (13, .i .i64 k)]) (fun k => ⟨[.lv true (sqS N t), .lv true [(0, .ints .i64 1 [(P : Int)])], .lv true [(0, .ints .i64 1 [((0 : Nat) : Int)])]], [((1, 0), .lv true (sqS N t))], 50⟩)
    (fun k => k ≤ N ∧ P ^ k ≤ 20000) (fun k => N - k) 0 ⟨by omega, by rw [Nat.pow_zero]; decide⟩ ⟨[((1,0),(1,0))], rfl, ?_, ?_⟩ ?_
  · simp [wkEnv, lk, renV, renAt, renTo, renCaps]
  · simp [wkMem, wkLoc, Mem.get, assoc, renBlk, renSegs, renSg, renAt, renTo]
  · rintro k ⟨hk, hb⟩
    have hkN : k < N := by
      rcases Nat.lt_or_ge k N with h | h
      · exact h
      · obtain rfl : k = N := by omega
        omega
    have h : (k : Int) < N := by omega
    have hpp : P ^ k * P = P ^ (k + 1) := (Nat.pow_succ ..).symm
    have hlt : P ^ (k + 1) ≤ 2000000 := by rw [← hpp]; exact Nat.le_trans (Nat.mul_le_mul hb hP2) (by decide)
    have wp : IntKind.i64.wrap (((P ^ k : Nat) : Int) * P) = ((P ^ (k + 1) : Nat) : Int) := by rw [← Int.natCast_mul, hpp]; exact wrap_i64n (by omega)
    have w := wrap_i64s (show k < 2 ^ 62 by omega)
    by_cases h2 : P ^ (k + 1) ≤ 20000
    · have g2 : ¬ (20000 : Int) < ((P ^ (k + 1) : Nat) : Int) := by omega
      simp only [absE, absL, absF, reduceCtorEq, ↓reduceIte, Nat.reduceEqDiff, Nat.reduceAdd, Nat.reduceLT, Nat.reduceMul, Nat.reduceSub, Nat.reduceLeDiff, Int.reduceLT, Int.reduceLE, Int.reduceEq, Option.isSome_some, implies_true, false_implies, Prod.mk.injEq, ne_eq, not_false_eq_true, not_true_eq_false, ge_iff_le, gt_iff_lt, Int.toNat_natCast, Int.reduceToNat, Int.cast_ofNat_Int, Int.natCast_nonneg, h, wp, g2]
      refine LoopNext.intro (k + 1) ⟨by omega, h2⟩ (by omega) ⟨[((1,0),(1,0))], rfl, ?_, ?_⟩
      · simp [wkEnv, lk, renV, renAt, renTo, renCaps, w]
      · simp [wkMem, wkLoc, Mem.get, assoc, renBlk, renSegs, renSg, renAt, renTo]
    · have g2 : (20000 : Int) < ((P ^ (k + 1) : Nat) : Int) := by omega
      simp only [absE, absL, absF, reduceCtorEq, ↓reduceIte, Nat.reduceEqDiff, Nat.reduceAdd, Nat.reduceLT, Nat.reduceMul, Nat.reduceSub, Nat.reduceLeDiff, Int.reduceLT, Int.reduceLE, Int.reduceEq, Option.isSome_some, implies_true, false_implies, Prod.mk.injEq, ne_eq, not_false_eq_true, not_true_eq_false, ge_iff_le, gt_iff_lt, Int.toNat_natCast, Int.reduceToNat, Int.cast_ofNat_Int, Int.natCast_nonneg, h, wp, g2, Try.results31]
      exact ⟨[], by simp, by simp, by simp [renV], by simp [renBlk, renSegs, renSg, renAt, renFin], by simp⟩
theorem sumsU_yes (N : Nat) (t : List Int) (P : Nat) (ht : Bytes 100 t) (hs : SqP N t) (hp : PrP P) (hP : 2 ≤ P) (hP2 : P ≤ 7) (hle : P ^ N ≤ 20000) :
    ACalls Try.prog 31 [.agg (sqS N t), .i .i64 P, .ref (.fn 32 [(0, 0, 0, 0), (0, 1, 0, 0), (0, 2, 0, 0)])] (uMs N t P 0)
      (fun v ms ns => v = .i .i64 0 ∧ ms = uMs N t P (cnU N t P (P ^ N)) ∧ ns = []) := by
  have hN := hs.le
  have hN1 := hs.pos
  have hP0 : 0 < P := by omega
  unfold uMs
  refine acalls_of_body mix Try.func31 rfl fok31 (Nat.le_of_ble_eq_true rfl) ?_
  unfold abody
  simp only [absE, absL, absF, reduceCtorEq, ↓reduceIte, Nat.reduceEqDiff, Nat.reduceAdd, Nat.reduceLT, Nat.reduceMul, Nat.reduceSub, Nat.reduceLeDiff, Int.reduceLT, Int.reduceLE, Int.reduceEq, Option.isSome_some, implies_true, false_implies, Prod.mk.injEq, ne_eq, not_false_eq_true, not_true_eq_false, ge_iff_le, gt_iff_lt, Int.toNat_natCast, Int.reduceToNat, Int.cast_ofNat_Int, Int.natCast_nonneg, Try.f31]
  refine awpLoop.intro (fun k : Nat => [(1, .i .i64 P), (2, .ref (.fn 32 [(0, 0, 0, 0), (0, 1, 0, 0), (0, 2, 0, 0)])), (3, .ref (.ptr 1 0 0 0)), (7, .i .i64 ((P ^ k : Nat) : Int)), (12, .i .i64 N), (13, .i .i64 k)]) (fun k => ⟨[.lv true (sqS N t), .lv true [(0, .ints .i64 1 [(P : Int)])], .lv true [(0, .ints .i64 1 [((0 : Nat) : Int)])]], [((1, 0), .lv true (sqS N t))], 50⟩)
    (fun k => k ≤ N) (fun k => N - k) 0 (by omega) ⟨[((1,0),(1,0))], rfl, ?_, ?_⟩ ?_
  · simp [wkEnv, lk, renV, renAt, renTo, renCaps]
  · simp [wkMem, wkLoc, Mem.get, assoc, renBlk, renSegs, renSg, renAt, renTo]
  · intro k hk
    have hpk : P ^ k ≤ P ^ N := Nat.pow_le_pow_right hP0 hk
    by_cases h : (k : Int) < N
    · have hpp : P ^ k * P = P ^ (k + 1) := (Nat.pow_succ ..).symm
      have hpk1 : P ^ (k + 1) ≤ P ^ N := Nat.pow_le_pow_right hP0 (by omega)
      have wp : IntKind.i64.wrap (((P ^ k : Nat) : Int) * P) = ((P ^ (k + 1) : Nat) : Int) := by rw [← Int.natCast_mul, hpp]; exact wrap_i64n (by omega)
      have w := wrap_i64s (show k < 2 ^ 62 by omega)
      have g2 : ¬ (20000 : Int) < ((P ^ (k + 1) : Nat) : Int) := by omega
      simp only [absE, absL, absF, reduceCtorEq, ↓reduceIte, Nat.reduceEqDiff, Nat.reduceAdd, Nat.reduceLT, Nat.reduceMul, Nat.reduceSub, Nat.reduceLeDiff, Int.reduceLT, Int.reduceLE, Int.reduceEq, Option.isSome_some, implies_true, false_implies, Prod.mk.injEq, ne_eq, not_false_eq_true, not_true_eq_false, ge_iff_le, gt_iff_lt, Int.toNat_natCast, Int.reduceToNat, Int.cast_ofNat_Int, Int.natCast_nonneg, h, wp, g2]
      refine LoopNext.intro (k + 1) (by omega) (by omega) ⟨[((1,0),(1,0))], rfl, ?_, ?_⟩
      · simp [wkEnv, lk, renV, renAt, renTo, renCaps, w]
      · simp [wkMem, wkLoc, Mem.get, assoc, renBlk, renSegs, renSg, renAt, renTo]
    · obtain rfl : k = N := by omega
      simp only [absE, absL, absF, reduceCtorEq, ↓reduceIte, Nat.reduceEqDiff, Nat.reduceAdd, Nat.reduceLT, Nat.reduceMul, Nat.reduceSub, Nat.reduceLeDiff, Int.reduceLT, Int.reduceLE, Int.reduceEq, Option.isSome_some, implies_true, false_implies, Prod.mk.injEq, ne_eq, not_false_eq_true, not_true_eq_false, ge_iff_le, gt_iff_lt, Int.toNat_natCast, Int.reduceToNat, Int.cast_ofNat_Int, Int.natCast_nonneg, h]
      refine awpLoop.intro (fun i : Nat => [(1, .i .i64 P), (2, .ref (.fn 32 [(0, 0, 0, 0), (0, 1, 0, 0), (0, 2, 0, 0)])), (3, .ref (.ptr 1 0 0 0)), (21, .i .i64 ((P ^ k : Nat) : Int)), (22, .i .i64 i)])
        (fun i => ⟨[.lv true (sqS k t), .lv true [(0, .ints .i64 1 [(P : Int)])], .lv true [(0, .ints .i64 1 [((cnU k t P i : Nat) : Int)])]], [((1, 0), .lv true (sqS k t))], 200⟩)
        (fun i => i ≤ P ^ k) (fun i => P ^ k - i) 0 (by omega) ⟨[((1,0),(1,0))], rfl, ?_, ?_⟩ ?_
      · simp [wkEnv, lk, renV, renAt, renTo, renCaps]
      · simp [wkMem, wkLoc, Mem.get, assoc, renBlk, renSegs, renSg, renAt, renTo, cnU]
      · intro i hi
        have hCl := cnU_le (N := k) (t := t) (P := P) (k := i)
        have hCs : cnU k t P (i + 1) = if unB k t P i then cnU k t P i + 1 else cnU k t P i := rfl
        by_cases h2 : i < P ^ k
        · generalize hCd : cnU k t P i = C at hCl hCs ⊢
          have g1 : (i : Int) < ((P ^ k : Nat) : Int) := by omega
          have hk8 : (k : Int) * 8 ≤ 140737488355328 := by omega
          have m1 : k * 1 = k := Nat.mul_one k
          have wi := wrap_i64s (show i < 2 ^ 62 by omega)
          have wk : IntKind.i64.wrap ((k : Int) - 1) = (k : Int) - 1 := wrap_i64 (by omega) (by omega)
          simp only [absE, absL, absF, reduceCtorEq, ↓reduceIte, Nat.reduceEqDiff, Nat.reduceAdd, Nat.reduceLT, Nat.reduceMul, Nat.reduceSub, Nat.reduceLeDiff, Int.reduceLT, Int.reduceLE, Int.reduceEq, Option.isSome_some, implies_true, false_implies, Prod.mk.injEq, ne_eq, not_false_eq_true, not_true_eq_false, ge_iff_le, gt_iff_lt, Int.toNat_natCast, Int.reduceToNat, Int.cast_ofNat_Int, Int.natCast_nonneg, g1, hk8, m1, wk]
          repeat first | refine And.intro (by decide +kernel) ?_ | refine And.intro (by omega) ?_
          refine awpLoop.intro (fun m : Nat => [(1, .i .i64 P), (2, .ref (.fn 32 [(0, 0, 0, 0), (0, 1, 0, 0), (0, 2, 0, 0)])), (3, .ref (.ptr 1 0 0 0)), (21, .i .i64 ((P ^ k : Nat) : Int)), (22, .i .i64 i), (8, .i .i64 ((i / P ^ m : Nat) : Int)), (9, .ref (.sl 205 0 0 0 k 1)), (10, .i .i64 ((k : Int) - 1 - (m : Int)))])
            (fun m => ⟨[.lv true (sqS k t), .lv true [(0, .ints .i64 1 [(P : Int)])], .lv true [(0, .ints .i64 1 [((C : Nat) : Int)])]], [((205, 0), .lv true ([(0, .ints .i64 k (digW P k i m))])), ((1, 0), .lv true (sqS k t))], 300⟩)
            (fun m => m ≤ k) (fun m => k - m) 0 (by omega) ⟨[((205,0),(205,0)), ((1,0),(1,0))], rfl, ?_, ?_⟩ ?_
          · simp [wkEnv, lk, renV, renAt, renTo, renCaps]
          · simp [wkMem, wkLoc, Mem.get, assoc, renBlk, renSegs, renSg, renAt, renTo, digW_zero]
          · intro m hm
            by_cases h3 : m < k
            · have ej : (k : Int) - 1 - m = ((k - 1 - m : Nat) : Int) := by omega
              have g0 : (0 : Int) ≤ ((k - 1 - m : Nat) : Int) := by omega
              have gN : ((k - 1 - m : Nat) : Int) < k := by omega
              have v1 : 0 + (k - 1 - m) * 1 < k := by omega
              have v2 : 0 + (k - 1 - m) * 1 + 1 ≤ k := by omega
              have pz : ¬ (P : Int) = 0 := by omega
              have t1 : Int.tmod ((i / P ^ m : Nat) : Int) P = ((dg P i m : Nat) : Int) := rfl
              have hdv : i / P ^ m / P = i / P ^ (m + 1) := by rw [Nat.div_div_eq_div_mul, Nat.pow_succ]
              have hd2 : i / P ^ (m + 1) ≤ 20000 := Nat.le_trans (Nat.div_le_self _ _) (by omega)
              have t2 : IntKind.i64.wrap (Int.tdiv ((i / P ^ m : Nat) : Int) P) = ((i / P ^ (m + 1) : Nat) : Int) := by
                rw [show Int.tdiv ((i / P ^ m : Nat) : Int) P = ((i / P ^ m / P : Nat) : Int) from rfl, hdv]; exact wrap_i64n (by omega)
              have es : (digW P k i m).set (0 + (k - 1 - m) * 1) ((dg P i m : Nat) : Int) = digW P k i (m + 1) := by
                rw [Nat.zero_add, Nat.mul_one]; exact digW_next h3
              have wm : IntKind.i64.wrap (((k - 1 - m : Nat) : Int) - 1) = (k : Int) - 1 - ((m + 1 : Nat) : Int) := by rw [wrap_i64 (by omega) (by omega)]; omega
              have es1 : 1 = k → [((dg P i m : Nat) : Int)] = digW P k i (m + 1) := fun hk1 => by rw [← es]; exact (setOne (L := digW P k i m) (j := 0 + (k - 1 - m) * 1) (by rw [digW_len]; omega) (by omega)).symm
              simp only [absE, absL, absF, reduceCtorEq, ↓reduceIte, Nat.reduceEqDiff, Nat.reduceAdd, Nat.reduceLT, Nat.reduceMul, Nat.reduceSub, Nat.reduceLeDiff, Int.reduceLT, Int.reduceLE, Int.reduceEq, Option.isSome_some, implies_true, false_implies, Prod.mk.injEq, ne_eq, not_false_eq_true, not_true_eq_false, ge_iff_le, gt_iff_lt, Int.toNat_natCast, Int.reduceToNat, Int.cast_ofNat_Int, Int.natCast_nonneg, ej, g0, gN, v1, v2, pz, t1, t2, es, wm]
              refine ite_st (fun h1n hy => ?_) ?_
              · rw [es1 h1n]
                exact ⟨by omega, hy⟩
              · refine LoopNext.intro (m + 1) (by omega) (by omega) ⟨[((205,0),(205,0)), ((1,0),(1,0))], rfl, ?_, ?_⟩
                · simp [wkEnv, lk, renV, renAt, renTo, renCaps]
                · simp [wkMem, wkLoc, Mem.get, assoc, renBlk, renSegs, renSg, renAt, renTo, wkMem]
            · obtain rfl : m = k := by omega
              have gneg : ¬ (0 : Int) ≤ (m : Int) - 1 - m := by omega
              have hda := digW_all (P := P) (N := m) (i := i)
              simp only [absE, absL, absF, reduceCtorEq, ↓reduceIte, Nat.reduceEqDiff, Nat.reduceAdd, Nat.reduceLT, Nat.reduceMul, Nat.reduceSub, Nat.reduceLeDiff, Int.reduceLT, Int.reduceLE, Int.reduceEq, Option.isSome_some, implies_true, false_implies, Prod.mk.injEq, ne_eq, not_false_eq_true, not_true_eq_false, ge_iff_le, gt_iff_lt, Int.toNat_natCast, Int.reduceToNat, Int.cast_ofNat_Int, Int.natCast_nonneg, gneg, hda]
              have hC := unit1_ok m t P i C ht hs hp hP (by omega)
              unfold uMs at hC
              refine CallsVia.args [(205, 0), (0, 0), (0, 1), (0, 2)] hC (by simp) (by simp [Mem.get, assoc]) rfl rfl ?_
              rintro _ _ _ ⟨rfl, rfl, rfl⟩
              rw [← hCs]
              simp only [absE, absL, absF, reduceCtorEq, ↓reduceIte, Nat.reduceEqDiff, Nat.reduceAdd, Nat.reduceLT, Nat.reduceMul, Nat.reduceSub, Nat.reduceLeDiff, Int.reduceLT, Int.reduceLE, Int.reduceEq, Option.isSome_some, implies_true, false_implies, Prod.mk.injEq, ne_eq, not_false_eq_true, not_true_eq_false, ge_iff_le, gt_iff_lt, Int.toNat_natCast, Int.reduceToNat, Int.cast_ofNat_Int, Int.natCast_nonneg, wi]
              refine LoopNext.intro (i + 1) (by omega) (by omega) ⟨[((1,0),(1,0))], rfl, ?_, ?_⟩
              · simp [wkEnv, lk, renV, renAt, renTo, renCaps]
              · simp [wkMem, wkLoc, Mem.get, assoc, renBlk, renSegs, renSg, renAt, renTo]
        · have e : P ^ k = i := by omega
          subst e
          have g1 : ¬ ((P ^ k : Nat) : Int) < ((P ^ k : Nat) : Int) := by omega
          simp only [absE, absL, absF, reduceCtorEq, ↓reduceIte, Nat.reduceEqDiff, Nat.reduceAdd, Nat.reduceLT, Nat.reduceMul, Nat.reduceSub, Nat.reduceLeDiff, Int.reduceLT, Int.reduceLE, Int.reduceEq, Option.isSome_some, implies_true, false_implies, Prod.mk.injEq, ne_eq, not_false_eq_true, not_true_eq_false, ge_iff_le, gt_iff_lt, Int.toNat_natCast, Int.reduceToNat, Int.cast_ofNat_Int, Int.natCast_nonneg, g1, Try.results31]
          exact ⟨[], by simp, by simp, by simp [renV], by simp [renBlk, renSegs, renSg, renAt, renFin], by simp⟩

end Go.Proofs.Ytjmenocghjggcaa
