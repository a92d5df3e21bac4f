/-
Contracts of functions of the given program, by the abstract walk.
-/
import Derived.Test.YtgblnnodoabdeaaAbsY
import Derived.Test.YtgblnnodoabdeaaTi
namespace Go.Proofs.Ytgblnnodoabdeaa
open Go Go.Abs
set_option linter.unusedVariables false
set_option linter.unusedSectionVars false
set_option linter.unusedSimpArgs false
set_option maxRecDepth 100000
/-! IdempotentsOf: sums, all of them  -/
def sqp (N : Nat) (t : List Int) (P : Nat) : List Blk := [.lv true (sqS N t), .lv true [(0, .ints .i64 1 [(P : Int)])]]
theorem sums_yes (N : Nat) (t : List Int) (P : Nat) (ht : Bytes 100 t) (hs : SqP N t) (hp : PrP P) (hP : 2 ≤ P) (hP2 : P ≤ 7) (hle : P ^ N ≤ 20000) :
    ACalls Try.prog 59 [.agg (sqS N t), .i .i64 P, .ref (.fn 60 [(0, 0, 0, 0), (0, 1, 0, 0), (0, 2, 0, 0)])] (sMs N t P)
      (fun v ms ns => v = .i .i64 0 ∧ ms = sqp N t P ++ [.lv true [(0, .cells 1 [.sl 1 0 0 0 (idmL N t P (P ^ N)).length 1])], .dead] ∧ ns = llN (idmL N t P (P ^ N))) := by
  have hN := hs.le
  have hN1 := hs.pos
  have hP0 : 0 < P := by omega
  unfold sMs
  refine acalls_of_body mix Try.func59 rfl fok59 (Nat.le_of_ble_eq_true rfl) ?_
  unfold abody
  simp only [absE, absL, absF, reduceCtorEq, ↓reduceIte, Nat.reduceEqDiff, Nat.reduceAdd, Nat.reduceLT, Nat.reduceMul, Nat.reduceSub, Nat.reduceLeDiff, Int.reduceLT, Int.reduceLE, Int.reduceEq, Option.isSome_some, implies_true, false_implies, Prod.mk.injEq, ne_eq, not_false_eq_true, not_true_eq_false, ge_iff_le, gt_iff_lt, Int.toNat_natCast, Int.reduceToNat, Int.cast_ofNat_Int, Int.natCast_nonneg, Try.f59]
  refine awpLoop.intro (fun k : Nat => [(1, .i .i64 P), (2, .ref (.fn 60 [(0, 0, 0, 0), (0, 1, 0, 0), (0, 2, 0, 0)])), (3, .ref (.ptr 1 0 0 0)), (7, .i .i64 ((P ^ k : Nat) : Int)), (12, .i .i64 N), (13, .i .i64 k)]) (fun k => ⟨[.lv true (sqS N t), .lv true [(0, .ints .i64 1 [(P : Int)])], .lv true [(0, .cells 1 [.sl 0 3 0 0 0 1])], .lv true [(0, .cells 0 [])]], [((1, 0), .lv true (sqS N t))], 50⟩)
    (fun k => k ≤ N) (fun k => N - k) 0 (by omega) ⟨[((1,0),(1,0))], rfl, ?_, ?_⟩ ?_
  · simp [wkEnv, lk, renV, renAt, renTo, renCaps]
  · simp [wkMem, wkLoc, Mem.get, assoc, renBlk, renSegs, renSg, renAt, renTo]
  · intro k hk
    have hpk : P ^ k ≤ P ^ N := Nat.pow_le_pow_right hP0 hk
    by_cases h : (k : Int) < N
    · have hpp : P ^ k * P = P ^ (k + 1) := (Nat.pow_succ ..).symm
      have hpk1 : P ^ (k + 1) ≤ P ^ N := Nat.pow_le_pow_right hP0 (by omega)
      have wp : IntKind.i64.wrap (((P ^ k : Nat) : Int) * P) = ((P ^ (k + 1) : Nat) : Int) := by rw [← Int.natCast_mul, hpp]; exact wrap_i64n (by omega)
      have w := wrap_i64s (show k < 2 ^ 62 by omega)
      have g2 : ¬ (20000 : Int) < ((P ^ (k + 1) : Nat) : Int) := by omega
      simp only [absE, absL, absF, reduceCtorEq, ↓reduceIte, Nat.reduceEqDiff, Nat.reduceAdd, Nat.reduceLT, Nat.reduceMul, Nat.reduceSub, Nat.reduceLeDiff, Int.reduceLT, Int.reduceLE, Int.reduceEq, Option.isSome_some, implies_true, false_implies, Prod.mk.injEq, ne_eq, not_false_eq_true, not_true_eq_false, ge_iff_le, gt_iff_lt, Int.toNat_natCast, Int.reduceToNat, Int.cast_ofNat_Int, Int.natCast_nonneg, h, wp, g2]
      refine LoopNext.intro (k + 1) (by omega) (by omega) ⟨[((1,0),(1,0))], rfl, ?_, ?_⟩
      · simp [wkEnv, lk, renV, renAt, renTo, renCaps, w]
      · simp [wkMem, wkLoc, Mem.get, assoc, renBlk, renSegs, renSg, renAt, renTo]
    · obtain rfl : k = N := by omega
      simp only [absE, absL, absF, reduceCtorEq, ↓reduceIte, Nat.reduceEqDiff, Nat.reduceAdd, Nat.reduceLT, Nat.reduceMul, Nat.reduceSub, Nat.reduceLeDiff, Int.reduceLT, Int.reduceLE, Int.reduceEq, Option.isSome_some, implies_true, false_implies, Prod.mk.injEq, ne_eq, not_false_eq_true, not_true_eq_false, ge_iff_le, gt_iff_lt, Int.toNat_natCast, Int.reduceToNat, Int.cast_ofNat_Int, Int.natCast_nonneg, h]
      refine awpLoop.intro (fun i : Nat => [(1, .i .i64 P), (2, .ref (.fn 60 [(0, 0, 0, 0), (0, 1, 0, 0), (0, 2, 0, 0)])), (3, .ref (.ptr 1 0 0 0)), (21, .i .i64 ((P ^ k : Nat) : Int)), (22, .i .i64 i)])
        (fun i => match i with
          | 0 => ⟨[.lv true (sqS k t), .lv true [(0, .ints .i64 1 [(P : Int)])], .lv true [(0, .cells 1 [.sl 0 3 0 0 0 1])], .lv true [(0, .cells 0 [])]], [((1, 0), .lv true (sqS k t))], 200⟩
          | i + 1 => ⟨[.lv true (sqS k t), .lv true [(0, .ints .i64 1 [(P : Int)])], .lv true [(0, .cells 1 [.sl 30 0 0 0 (idmL k t P (i + 1)).length 1])], .dead], [((1, 0), .lv true (sqS k t)), ((30, 0), .lv true ([(0, .cells (idmL k t P (i + 1)).length (outs 31 0 (idmL k t P (i + 1))))]))] ++ rbag 31 0 (idmL k t P (i + 1)), 200⟩)
        (fun i => i ≤ P ^ k) (fun i => P ^ k - i) 0 (by omega) ⟨[((1,0),(1,0))], rfl, ?_, ?_⟩ ?_
      · simp [wkEnv, lk, renV, renAt, renTo, renCaps]
      · simp [wkMem, wkLoc, Mem.get, assoc, renBlk, renSegs, renSg, renAt, renTo]
      · intro i hi
        by_cases h2 : i < P ^ k
        · have g1 : (i : Int) < ((P ^ k : Nat) : Int) := by omega
          have hk8 : (k : Int) * 8 ≤ 140737488355328 := by omega
          have m1 : k * 1 = k := Nat.mul_one k
          have wi := wrap_i64s (show i < 2 ^ 62 by omega)
          have wk : IntKind.i64.wrap ((k : Int) - 1) = (k : Int) - 1 := wrap_i64 (by omega) (by omega)
          cases i with
          | zero =>
            have g10 : ((0 : Nat) : Int) < ((P ^ k : Nat) : Int) := by omega
            have g1' : (((0 : Nat) : Nat) : Int) < ((P ^ k : Nat) : Int) := by omega
            have g11 : (0 : Int) < ((P ^ k : Nat) : Int) := by omega
            have i0 : ((0 : Nat) : Int) = 0 := rfl
            skip
            simp only [absE, absL, absF, reduceCtorEq, ↓reduceIte, Nat.reduceEqDiff, Nat.reduceAdd, Nat.reduceLT, Nat.reduceMul, Nat.reduceSub, Nat.reduceLeDiff, Int.reduceLT, Int.reduceLE, Int.reduceEq, Option.isSome_some, implies_true, false_implies, Prod.mk.injEq, ne_eq, not_false_eq_true, not_true_eq_false, ge_iff_le, gt_iff_lt, Int.toNat_natCast, Int.reduceToNat, Int.cast_ofNat_Int, Int.natCast_nonneg, g11, hk8, m1, wk]
            repeat first | refine And.intro (by decide +kernel) ?_ | refine And.intro (by omega) ?_
            refine awpLoop.intro (fun m : Nat => [(1, .i .i64 P), (2, .ref (.fn 60 [(0, 0, 0, 0), (0, 1, 0, 0), (0, 2, 0, 0)])), (3, .ref (.ptr 1 0 0 0)), (21, .i .i64 ((P ^ k : Nat) : Int)), (22, .i .i64 ((0 : Nat) : Int)), (8, .i .i64 (((0) / P ^ m : Nat) : Int)), (9, .ref (.sl 205 0 0 0 k 1)), (10, .i .i64 ((k : Int) - 1 - (m : Int)))])
              (fun m => ⟨[.lv true (sqS k t), .lv true [(0, .ints .i64 1 [(P : Int)])], .lv true [(0, .cells 1 [.sl 0 3 0 0 0 1])], .lv true [(0, .cells 0 [])]], [((205, 0), .lv true ([(0, .ints .i64 k (digW P k (0) m))])), ((1, 0), .lv true (sqS k t))], 300⟩)
              (fun m => m ≤ k) (fun m => k - m) 0 (by omega) ⟨[((205,0),(205,0)), ((1,0),(1,0))], rfl, ?_, ?_⟩ ?_
            · simp [wkEnv, lk, renV, renAt, renTo, renCaps]
            · simp [wkMem, wkLoc, Mem.get, assoc, renBlk, renSegs, renSg, renAt, renTo, digW_zero]
            · intro m hm
              by_cases h3 : m < k
              · have ej : (k : Int) - 1 - m = ((k - 1 - m : Nat) : Int) := by omega
                have g0 : (0 : Int) ≤ ((k - 1 - m : Nat) : Int) := by omega
                have gN : ((k - 1 - m : Nat) : Int) < k := by omega
                have v1 : 0 + (k - 1 - m) * 1 < k := by omega
                have v2 : 0 + (k - 1 - m) * 1 + 1 ≤ k := by omega
                have pz : ¬ (P : Int) = 0 := by omega
                have t1 : Int.tmod (((0) / P ^ m : Nat) : Int) P = ((dg P (0) m : Nat) : Int) := rfl
                have hdv : (0) / P ^ m / P = (0) / P ^ (m + 1) := by rw [Nat.div_div_eq_div_mul, Nat.pow_succ]
                have hd2 : (0) / P ^ (m + 1) ≤ 20000 := Nat.le_trans (Nat.div_le_self _ _) (by omega)
                have t2 : IntKind.i64.wrap (Int.tdiv (((0) / P ^ m : Nat) : Int) P) = (((0) / P ^ (m + 1) : Nat) : Int) := by
                  rw [show Int.tdiv (((0) / P ^ m : Nat) : Int) P = (((0) / P ^ m / P : Nat) : Int) from rfl, hdv]; exact wrap_i64n (by omega)
                have es : (digW P k (0) m).set (0 + (k - 1 - m) * 1) ((dg P (0) m : Nat) : Int) = digW P k (0) (m + 1) := by
                  rw [Nat.zero_add, Nat.mul_one]; exact digW_next h3
                have wm : IntKind.i64.wrap (((k - 1 - m : Nat) : Int) - 1) = (k : Int) - 1 - ((m + 1 : Nat) : Int) := by rw [wrap_i64 (by omega) (by omega)]; omega
                by_cases hk1 : 1 = k
                · have es1 : [((dg P (0) m : Nat) : Int)] = digW P k (0) (m + 1) := by rw [← es]; exact (setOne (L := digW P k (0) m) (j := 0 + (k - 1 - m) * 1) (by rw [digW_len]; omega) (by omega)).symm
                  simp only [absE, absL, absF, reduceCtorEq, ↓reduceIte, Nat.reduceEqDiff, Nat.reduceAdd, Nat.reduceLT, Nat.reduceMul, Nat.reduceSub, Nat.reduceLeDiff, Int.reduceLT, Int.reduceLE, Int.reduceEq, Option.isSome_some, implies_true, false_implies, Prod.mk.injEq, ne_eq, not_false_eq_true, not_true_eq_false, ge_iff_le, gt_iff_lt, Int.toNat_natCast, Int.reduceToNat, Int.cast_ofNat_Int, Int.natCast_nonneg, ej, g0, gN, v1, v2, pz, t1, t2, eq_true hk1, es1, wm]
                  repeat first | refine And.intro (by decide +kernel) ?_ | refine And.intro (by omega) ?_
                  refine LoopNext.intro (m + 1) (by omega) (by omega) ⟨[((205,0),(205,0)), ((1,0),(1,0))], rfl, ?_, ?_⟩
                  · simp [wkEnv, lk, renV, renAt, renTo, renCaps]
                  · simp [wkMem, wkLoc, Mem.get, assoc, renBlk, renSegs, renSg, renAt, renTo, wkMem]
                · simp only [absE, absL, absF, reduceCtorEq, ↓reduceIte, Nat.reduceEqDiff, Nat.reduceAdd, Nat.reduceLT, Nat.reduceMul, Nat.reduceSub, Nat.reduceLeDiff, Int.reduceLT, Int.reduceLE, Int.reduceEq, Option.isSome_some, implies_true, false_implies, Prod.mk.injEq, ne_eq, not_false_eq_true, not_true_eq_false, ge_iff_le, gt_iff_lt, Int.toNat_natCast, Int.reduceToNat, Int.cast_ofNat_Int, Int.natCast_nonneg, ej, g0, gN, v1, v2, pz, t1, t2, hk1, es, wm]
                  repeat first | refine And.intro (by decide +kernel) ?_ | refine And.intro (by omega) ?_
                  refine LoopNext.intro (m + 1) (by omega) (by omega) ⟨[((205,0),(205,0)), ((1,0),(1,0))], rfl, ?_, ?_⟩
                  · simp [wkEnv, lk, renV, renAt, renTo, renCaps]
                  · simp [wkMem, wkLoc, Mem.get, assoc, renBlk, renSegs, renSg, renAt, renTo, wkMem]
              · obtain rfl : m = k := by omega
                have gneg : ¬ (0 : Int) ≤ (m : Int) - 1 - m := by omega
                have hda := digW_all (P := P) (N := m) (i := 0)
                simp only [absE, absL, absF, reduceCtorEq, ↓reduceIte, Nat.reduceEqDiff, Nat.reduceAdd, Nat.reduceLT, Nat.reduceMul, Nat.reduceSub, Nat.reduceLeDiff, Int.reduceLT, Int.reduceLE, Int.reduceEq, Option.isSome_some, implies_true, false_implies, Prod.mk.injEq, ne_eq, not_false_eq_true, not_true_eq_false, ge_iff_le, gt_iff_lt, Int.toNat_natCast, Int.reduceToNat, Int.cast_ofNat_Int, Int.natCast_nonneg, gneg, hda]
                have hC := idm1_ok m t P 0 [] ht hs hp hP (by simp)
                unfold iMs at hC
                refine CallsVia.args [(205, 0), (0, 0), (0, 1), (0, 2), (0, 3)] hC (by simp) (by simp [Mem.get, assoc]) rfl rfl ?_
                rintro _ _ _ ⟨rfl, (⟨hb, rfl, rfl⟩ | ⟨hb, rfl, rfl⟩)⟩
                · have h1 : idmL m t P (0 + 1) = [digL P m 0] := by rw [idmL, idmL, hb]; rfl
                  simp only [absE, absL, absF, reduceCtorEq, ↓reduceIte, Nat.reduceEqDiff, Nat.reduceAdd, Nat.reduceLT, Nat.reduceMul, Nat.reduceSub, Nat.reduceLeDiff, Int.reduceLT, Int.reduceLE, Int.reduceEq, Option.isSome_some, implies_true, false_implies, Prod.mk.injEq, ne_eq, not_false_eq_true, not_true_eq_false, ge_iff_le, gt_iff_lt, Int.toNat_natCast, Int.reduceToNat, Int.cast_ofNat_Int, Int.natCast_nonneg, iMs', List.map_append, List.length_nil, Nat.zero_add]
                  refine LoopNext.intro (0 + 1) (by omega) (by omega) ⟨[((1, 0), (1, 0))] ++ snocS (304, 0) 30 205 31 0, wkOk_snoc (next := 200) (by simp [wkOk]) (by decide) (by decide) (by decide) (by decide) (by simp) (by decide), ?_, ?_⟩
                  · simp [wkEnv, lk, renV, renAt, snocS, renTo, renCaps]; decide
                  · simp only [wkMem]
                    rw [h1, show ([digL P m 0] : LLs) = [] ++ [digL P m 0] from rfl, wk_snoc (n := 0) (LL := []) (xs := digL P m 0) rfl (by decide) (by decide) (by decide) (by simp) (by decide) (by simp [Mem.get, assoc, digL_len, outs_nil, renAt, renOut]) (by simp [Mem.get, assoc, ib, digL_len]) (fun j hj => absurd hj (by omega))]
                    simp [wkLoc, ob, Mem.get, assoc, renBlk, renSegs, renSg, snocS, renAt, renTo]
                · rw [idmB_zero hp hP] at hb; cases hb
          | succ i =>
            have g10 : ((i + 1 : Nat) : Int) < ((P ^ k : Nat) : Int) := by omega
            have g1' : (((i + 1 : Nat) : Nat) : Int) < ((P ^ k : Nat) : Int) := by omega
            have hLl := idmL_len (N := k) (t := t) (P := P) (k := i + 1)
            have hLs : idmL k t P (i + 1 + 1) = if idmB k t P (i + 1) then idmL k t P (i + 1) ++ [digL P k (i + 1)] else idmL k t P (i + 1) := rfl
            generalize hLd : idmL k t P (i + 1) = L at hLl hLs
            simp only [absE, absL, absF, reduceCtorEq, ↓reduceIte, Nat.reduceEqDiff, Nat.reduceAdd, Nat.reduceLT, Nat.reduceMul, Nat.reduceSub, Nat.reduceLeDiff, Int.reduceLT, Int.reduceLE, Int.reduceEq, Option.isSome_some, implies_true, false_implies, Prod.mk.injEq, ne_eq, not_false_eq_true, not_true_eq_false, ge_iff_le, gt_iff_lt, Int.toNat_natCast, Int.reduceToNat, Int.cast_ofNat_Int, Int.natCast_nonneg, g1, hLd, hk8, m1, wk]
            repeat first | refine And.intro (by decide +kernel) ?_ | refine And.intro (by omega) ?_
            refine awpLoop.intro (fun m : Nat => [(1, .i .i64 P), (2, .ref (.fn 60 [(0, 0, 0, 0), (0, 1, 0, 0), (0, 2, 0, 0)])), (3, .ref (.ptr 1 0 0 0)), (21, .i .i64 ((P ^ k : Nat) : Int)), (22, .i .i64 ((i + 1 : Nat) : Int)), (8, .i .i64 (((i + 1) / P ^ m : Nat) : Int)), (9, .ref (.sl 205 0 0 0 k 1)), (10, .i .i64 ((k : Int) - 1 - (m : Int)))])
              (fun m => ⟨[.lv true (sqS k t), .lv true [(0, .ints .i64 1 [(P : Int)])], .lv true [(0, .cells 1 [.sl 30 0 0 0 L.length 1])], .dead], [((205, 0), .lv true ([(0, .ints .i64 k (digW P k (i + 1) m))])), ((1, 0), .lv true (sqS k t)), ((30, 0), .lv true ([(0, .cells L.length (outs 31 0 L))]))] ++ rbag 31 0 L, 300⟩)
              (fun m => m ≤ k) (fun m => k - m) 0 (by omega) ⟨[((205, 0), (205, 0)), ((1, 0), (1, 0))] ++ ((30, 0), (30, 0)) :: stdR 31 L.length, wkOk_keepO (next := 300) (by simp [wkOk]) (by decide) (by decide) (by simp), ?_, ?_⟩ ?_
            · simp [wkEnv, lk, renV, renAt, renTo, renCaps]
            · (simp only [wkMem]; rw [wk_keepO (LL := L) (by decide) (by simp) (by decide) (by simp [Mem.get, assoc, ob]) (fun j hj => by simp only [Mem.get, assoc]; simp; have q := assoc_rbag_in' (a := 31) (k := 0) (i := j) (LL := L) hj; rwa [Nat.zero_add] at q)]; simp [wkLoc, ob, Mem.get, assoc, renBlk, renSegs, renSg, renAt, renTo, digW_zero])
            · intro m hm
              by_cases h3 : m < k
              · have ej : (k : Int) - 1 - m = ((k - 1 - m : Nat) : Int) := by omega
                have g0 : (0 : Int) ≤ ((k - 1 - m : Nat) : Int) := by omega
                have gN : ((k - 1 - m : Nat) : Int) < k := by omega
                have v1 : 0 + (k - 1 - m) * 1 < k := by omega
                have v2 : 0 + (k - 1 - m) * 1 + 1 ≤ k := by omega
                have pz : ¬ (P : Int) = 0 := by omega
                have t1 : Int.tmod (((i + 1) / P ^ m : Nat) : Int) P = ((dg P (i + 1) m : Nat) : Int) := rfl
                have hdv : (i + 1) / P ^ m / P = (i + 1) / P ^ (m + 1) := by rw [Nat.div_div_eq_div_mul, Nat.pow_succ]
                have hd2 : (i + 1) / P ^ (m + 1) ≤ 20000 := Nat.le_trans (Nat.div_le_self _ _) (by omega)
                have t2 : IntKind.i64.wrap (Int.tdiv (((i + 1) / P ^ m : Nat) : Int) P) = (((i + 1) / P ^ (m + 1) : Nat) : Int) := by
                  rw [show Int.tdiv (((i + 1) / P ^ m : Nat) : Int) P = (((i + 1) / P ^ m / P : Nat) : Int) from rfl, hdv]; exact wrap_i64n (by omega)
                have es : (digW P k (i + 1) m).set (0 + (k - 1 - m) * 1) ((dg P (i + 1) m : Nat) : Int) = digW P k (i + 1) (m + 1) := by
                  rw [Nat.zero_add, Nat.mul_one]; exact digW_next h3
                have wm : IntKind.i64.wrap (((k - 1 - m : Nat) : Int) - 1) = (k : Int) - 1 - ((m + 1 : Nat) : Int) := by rw [wrap_i64 (by omega) (by omega)]; omega
                by_cases hk1 : 1 = k
                · have es1 : [((dg P (i + 1) m : Nat) : Int)] = digW P k (i + 1) (m + 1) := by rw [← es]; exact (setOne (L := digW P k (i + 1) m) (j := 0 + (k - 1 - m) * 1) (by rw [digW_len]; omega) (by omega)).symm
                  simp only [absE, absL, absF, reduceCtorEq, ↓reduceIte, Nat.reduceEqDiff, Nat.reduceAdd, Nat.reduceLT, Nat.reduceMul, Nat.reduceSub, Nat.reduceLeDiff, Int.reduceLT, Int.reduceLE, Int.reduceEq, Option.isSome_some, implies_true, false_implies, Prod.mk.injEq, ne_eq, not_false_eq_true, not_true_eq_false, ge_iff_le, gt_iff_lt, Int.toNat_natCast, Int.reduceToNat, Int.cast_ofNat_Int, Int.natCast_nonneg, ej, g0, gN, v1, v2, pz, t1, t2, eq_true hk1, es1, wm]
                  repeat first | refine And.intro (by decide +kernel) ?_ | refine And.intro (by omega) ?_
                  refine LoopNext.intro (m + 1) (by omega) (by omega) ⟨[((205, 0), (205, 0)), ((1, 0), (1, 0))] ++ ((30, 0), (30, 0)) :: stdR 31 L.length, wkOk_keepO (next := 300) (by simp [wkOk]) (by decide) (by decide) (by simp), ?_, ?_⟩
                  · simp [wkEnv, lk, renV, renAt, renTo, renCaps]
                  · (simp only [wkMem]; rw [wk_keepO (LL := L) (by decide) (by simp) (by decide) (by simp [Mem.get, assoc, ob]) (fun j hj => by simp only [Mem.get, assoc]; simp; have q := assoc_rbag_in' (a := 31) (k := 0) (i := j) (LL := L) hj; rwa [Nat.zero_add] at q)]; simp [wkLoc, ob, Mem.get, assoc, renBlk, renSegs, renSg, renAt, renTo, wkMem])
                · simp only [absE, absL, absF, reduceCtorEq, ↓reduceIte, Nat.reduceEqDiff, Nat.reduceAdd, Nat.reduceLT, Nat.reduceMul, Nat.reduceSub, Nat.reduceLeDiff, Int.reduceLT, Int.reduceLE, Int.reduceEq, Option.isSome_some, implies_true, false_implies, Prod.mk.injEq, ne_eq, not_false_eq_true, not_true_eq_false, ge_iff_le, gt_iff_lt, Int.toNat_natCast, Int.reduceToNat, Int.cast_ofNat_Int, Int.natCast_nonneg, ej, g0, gN, v1, v2, pz, t1, t2, hk1, es, wm]
                  repeat first | refine And.intro (by decide +kernel) ?_ | refine And.intro (by omega) ?_
                  refine LoopNext.intro (m + 1) (by omega) (by omega) ⟨[((205, 0), (205, 0)), ((1, 0), (1, 0))] ++ ((30, 0), (30, 0)) :: stdR 31 L.length, wkOk_keepO (next := 300) (by simp [wkOk]) (by decide) (by decide) (by simp), ?_, ?_⟩
                  · simp [wkEnv, lk, renV, renAt, renTo, renCaps]
                  · (simp only [wkMem]; rw [wk_keepO (LL := L) (by decide) (by simp) (by decide) (by simp [Mem.get, assoc, ob]) (fun j hj => by simp only [Mem.get, assoc]; simp; have q := assoc_rbag_in' (a := 31) (k := 0) (i := j) (LL := L) hj; rwa [Nat.zero_add] at q)]; simp [wkLoc, ob, Mem.get, assoc, renBlk, renSegs, renSg, renAt, renTo, wkMem])
              · obtain rfl : m = k := by omega
                have gneg : ¬ (0 : Int) ≤ (m : Int) - 1 - m := by omega
                have hda := digW_all (P := P) (N := m) (i := i + 1)
                simp only [absE, absL, absF, reduceCtorEq, ↓reduceIte, Nat.reduceEqDiff, Nat.reduceAdd, Nat.reduceLT, Nat.reduceMul, Nat.reduceSub, Nat.reduceLeDiff, Int.reduceLT, Int.reduceLE, Int.reduceEq, Option.isSome_some, implies_true, false_implies, Prod.mk.injEq, ne_eq, not_false_eq_true, not_true_eq_false, ge_iff_le, gt_iff_lt, Int.toNat_natCast, Int.reduceToNat, Int.cast_ofNat_Int, Int.natCast_nonneg, gneg, hda]
                have hC := idm1_ok m t P (i + 1) L ht hs hp hP (by omega)
                have q31 : ∀ j, j < L.length → assoc (rbag 31 0 L) 31 (0 + j) = ib (at_ L j) := fun j hj => assoc_rbag_in' hj
                refine CallsVia.idm (N := m) (t := t) (P := P) (i := i + 1) (L := L) (O := 30) (B := 31) (dg := 205) (by decide) (by decide) (by decide) (by decide) (by decide) (by decide) (by decide) (by simp [assoc, ob]) (fun j hj => by simp only [assoc]; simp; have q := q31 j hj; rwa [Nat.zero_add] at q) (by simp [assoc]) hC (fun hb ups rd hu => ?_) (fun hb ups rd hu => ?_)
                · rw [hb, if_pos rfl] at hLs
                  simp only [absE, absL, absF, reduceCtorEq, ↓reduceIte, Nat.reduceEqDiff, Nat.reduceAdd, Nat.reduceLT, Nat.reduceMul, Nat.reduceSub, Nat.reduceLeDiff, Int.reduceLT, Int.reduceLE, Int.reduceEq, Option.isSome_some, implies_true, false_implies, Prod.mk.injEq, ne_eq, not_false_eq_true, not_true_eq_false, ge_iff_le, gt_iff_lt, Int.toNat_natCast, Int.reduceToNat, Int.cast_ofNat_Int, Int.natCast_nonneg, hu, wi]
                  refine LoopNext.intro (i + 1 + 1) (by omega) (by omega) ⟨[((1, 0), (1, 0))] ++ snocS (304, 0) 30 205 31 L.length, wkOk_snoc (next := 200) (by simp [wkOk]) (by decide) (by decide) (by decide) (by decide) (by simp) (by decide), ?_, ?_⟩
                  · simp [wkEnv, lk, renV, renAt, snocS, renTo, renCaps]
                  · simp only [wkMem]
                    rw [hLs, wk_snoc (LL := L) (xs := digL P m (i + 1)) rfl (by decide) (by decide) (by decide) (by simp) (by decide) (by simp [Mem.get, assoc, digL_len]) (by simp only [Mem.get, assoc]; simp [assoc_rbag_ne, assoc, ib, digL_len]) (fun j hj => by
                      simp only [Mem.get, assoc]
                      simp
                      have q := assoc_rbag_in (a := 31) (k := 0) (i := j) (LL := L) (r := ((30, 0), Blk.dead) :: ((205, 0), Blk.lv true [(0, .ints .i64 m (digL P m (i + 1)))]) :: ((205, 0), Blk.lv true [(0, .ints .i64 m (digL P m (i + 1)))]) :: ((1, 0), Blk.lv true (sqS (m : Int) t)) :: ((30, 0), Blk.lv true [(0, .cells L.length (outs 31 0 L))]) :: rbag 31 0 L) hj
                      rwa [Nat.zero_add] at q)]
                    simp [wkLoc, ob, Mem.get, assoc, assoc_rbag_ne, renBlk, renSegs, renSg, snocS, renAt, renTo]
                · rw [hb, if_neg (by simp)] at hLs
                  simp only [absE, absL, absF, reduceCtorEq, ↓reduceIte, Nat.reduceEqDiff, Nat.reduceAdd, Nat.reduceLT, Nat.reduceMul, Nat.reduceSub, Nat.reduceLeDiff, Int.reduceLT, Int.reduceLE, Int.reduceEq, Option.isSome_some, implies_true, false_implies, Prod.mk.injEq, ne_eq, not_false_eq_true, not_true_eq_false, ge_iff_le, gt_iff_lt, Int.toNat_natCast, Int.reduceToNat, Int.cast_ofNat_Int, Int.natCast_nonneg, hu, wi]
                  refine LoopNext.intro (i + 1 + 1) (by omega) (by omega) ⟨[((1, 0), (1, 0))] ++ ((30, 0), (30, 0)) :: stdR 31 L.length, wkOk_keepO (next := 200) (by simp [wkOk]) (by decide) (by decide) (by simp), ?_, ?_⟩
                  · simp [wkEnv, lk, renV, renAt, renTo, renCaps]
                  · simp only [wkMem]
                    rw [hLs, wk_keepO (LL := L) (by decide) (by simp) (by decide) (by simp only [Mem.get, assoc]; simp [assoc_rbag_ne, assoc, ob]) (fun j hj => by
                      simp only [Mem.get, assoc]
                      simp
                      have q := assoc_rbag_in (a := 31) (k := 0) (i := j) (LL := L) (r := ((30, 0), ob 31 0 L) :: ((205, 0), Blk.lv true [(0, .ints .i64 m (digL P m (i + 1)))]) :: ((205, 0), Blk.lv true [(0, .ints .i64 m (digL P m (i + 1)))]) :: ((1, 0), Blk.lv true (sqS (m : Int) t)) :: ((30, 0), Blk.lv true [(0, .cells L.length (outs 31 0 L))]) :: rbag 31 0 L) hj
                      rwa [Nat.zero_add] at q)]
                    simp [wkLoc, ob, Mem.get, assoc, assoc_rbag_ne, renBlk, renSegs, renSg, renAt, renTo]
        · have hp0 : 0 < P ^ k := Nat.pow_pos hP0
          cases i with
          | zero => omega
          | succ i =>
            have g1 : ¬ ((i + 1 : Nat) : Int) < ((P ^ k : Nat) : Int) := by omega
            have e : P ^ k = i + 1 := by omega
            rw [e]
            rw [e] at g1
            generalize hLd : idmL k t P (i + 1) = L
            simp only [absE, absL, absF, reduceCtorEq, ↓reduceIte, Nat.reduceEqDiff, Nat.reduceAdd, Nat.reduceLT, Nat.reduceMul, Nat.reduceSub, Nat.reduceLeDiff, Int.reduceLT, Int.reduceLE, Int.reduceEq, Option.isSome_some, implies_true, false_implies, Prod.mk.injEq, ne_eq, not_false_eq_true, not_true_eq_false, ge_iff_le, gt_iff_lt, Int.toNat_natCast, Int.reduceToNat, Int.cast_ofNat_Int, Int.natCast_nonneg, g1, hLd, Try.results59]
            refine ⟨(30, 0) :: srcs 31 0 L.length, row_nodup (.inl (by decide)), row_keep (by decide) (by decide), by simp [renV], by simp [sqp, renBlk, renSegs, renSg, renAt, renFin, idx], ?_⟩
            exact row_map (p := (30, 0)) (B := 31) (LL := L) (by decide) (by decide) (by simp [Mem.get, assoc, ob]) fun j hj => by
              simp only [Mem.get, assoc]
              simp
              have q := assoc_rbag_in' (a := 31) (k := 0) (i := j) (LL := L) hj
              rwa [Nat.zero_add] at q

end Go.Proofs.Ytgblnnodoabdeaa
