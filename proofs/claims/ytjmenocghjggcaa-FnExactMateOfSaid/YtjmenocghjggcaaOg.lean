/-
Contracts of functions of the given program, by the abstract walk.
-/
import Derived.Test.YtjmenocghjggcaaAbsY
import Derived.Test.YtjmenocghjggcaaOf
import Derived.Test.YtjmenocghjggcaaCc
namespace Go.Proofs.Ytjmenocghjggcaa
open Go Go.Abs
set_option linter.unusedVariables false
set_option linter.unusedSectionVars false
set_option linter.unusedSimpArgs false
set_option maxRecDepth 100000
/-! MateOf: the reference -/
def mtR (N : Nat) (t : List Int) : TkR := tkA N (firstB (trA N t)) N [] 0
def mtO (N : Nat) (t : List Int) : List Int := grF N (fun i => (i : Int)) (mtR N t).2.1
noncomputable def mtAV (n : Int) (t : List Int) : AV :=
  if sqB n t then (if 8 < n then .tup [.agg (sqS 0 (List.replicate 100 0)), .i .i64 2] else if (mtR n.toNat t).1 = 0 then .tup [.agg (sqS n (mtO n.toNat t)), .i .i64 0] else .tup [.agg (sqS 0 (List.replicate 100 0)), .i .i64 ((mtR n.toNat t).1 : Nat)]) else .tup [.agg (sqS 0 (List.replicate 100 0)), .i .i64 1]
theorem l09Take0_ok (N : Nat) (g : List Int) (hN1 : 1 ≤ N) :
    ACalls Try.prog 42 [.ref (.ptr 0 0 0 0), .i .i64 0] [.lv true (mtS N .nils g 0)] (fun v ms ns => v = .b false ∧ ms = [.lv true (mtS N .nils g 0)] ∧ ns = []) := by
  have g1 : ¬ (0 : Int) = N := by omega
  unfold mtS
  refine acalls_of_body mix Try.func42 rfl fok42 (Nat.le_of_ble_eq_true rfl) ?_
  unfold abody
  simp only [absE, absL, absF, reduceCtorEq, ↓reduceIte, Nat.reduceEqDiff, Nat.reduceAdd, Nat.reduceLT, Nat.reduceMul, Nat.reduceSub, Nat.reduceLeDiff, Int.reduceLT, Int.reduceLE, Int.reduceEq, Option.isSome_some, implies_true, false_implies, Prod.mk.injEq, ne_eq, not_false_eq_true, not_true_eq_false, ge_iff_le, gt_iff_lt, Int.toNat_natCast, Int.reduceToNat, Int.cast_ofNat_Int, Int.natCast_nonneg, g1, Try.f42]
  refine awpLoop.intro (fun _ : Nat => [(0, .ref (.ptr 0 0 0 0)), (1, .i .i64 0), (5, .i .i64 0)]) (fun _ => ⟨[.lv true [(0, .ints .i64 1 [(N : Int)]), (1, .cells 1 [.nils]), (2, .ints .u8 100 g), (102, .ints .i64 1 [((0 : Nat) : Int)])]], [], 10⟩) (fun x => x = 0) (fun x => 1 - x) 0 rfl ⟨[], rfl, ?_, ?_⟩ ?_
  · simp [wkEnv, lk, renV, renAt, renTo]
  · simp [wkMem, wkLoc, renBlk, renSegs, renSg, renAt, renTo]
  · rintro _ rfl
    simp only [absE, absL, absF, reduceCtorEq, ↓reduceIte, Nat.reduceEqDiff, Nat.reduceAdd, Nat.reduceLT, Nat.reduceMul, Nat.reduceSub, Nat.reduceLeDiff, Int.reduceLT, Int.reduceLE, Int.reduceEq, Option.isSome_some, implies_true, false_implies, Prod.mk.injEq, ne_eq, not_false_eq_true, not_true_eq_false, ge_iff_le, gt_iff_lt, Int.toNat_natCast, Int.reduceToNat, Int.cast_ofNat_Int, Int.natCast_nonneg, Try.results42]
    exact ⟨[], by simp, by simp, by simp [renV], by simp [renBlk, renSegs, renSg, renAt, renFin], by simp⟩
/-- the table while it is written -/
def outP (N : Nat) (g : List Int) (x y : Nat) : List Int := (List.range 100).map fun n => if (n / 10 < x ∨ n / 10 = x ∧ n % 10 < y) ∧ n % 10 < N then g.getD n 0 - 1 else 0
theorem outP_len {N : Nat} {g : List Int} {x y : Nat} : (outP N g x y).length = 100 := by simp [outP]
theorem outP_get {N : Nat} {g : List Int} {x y n : Nat} (h : n < 100) : (outP N g x y).getD n 0 = if (n / 10 < x ∨ n / 10 = x ∧ n % 10 < y) ∧ n % 10 < N then g.getD n 0 - 1 else 0 := by simp [outP, h]
theorem outP_zero {N : Nat} {g : List Int} : outP N g 0 0 = List.replicate 100 0 := by
  refine ext_getD (by simp [outP]) fun n hn => ?_
  rw [outP_len] at hn
  rw [outP_get hn, getD_rep0, if_neg (by omega)]
theorem outP_row {N : Nat} {g : List Int} {x : Nat} : outP N g x N = outP N g (x + 1) 0 := by
  refine ext_getD (by simp [outP]) fun n hn => ?_
  rw [outP_len] at hn
  rw [outP_get hn, outP_get hn]
  by_cases h : (n / 10 < x ∨ n / 10 = x ∧ n % 10 < N) ∧ n % 10 < N
  · rw [if_pos h, if_pos (by omega)]
  · rw [if_neg h, if_neg (by omega)]
theorem outP_next {N : Nat} {g : List Int} {x y : Nat} (hx : x < N) (hy : y < N) (hN : N ≤ 10) : (outP N g x y).set (x * 10 + y) (g.getD (x * 10 + y) 0 - 1) = outP N g x (y + 1) := by
  refine ext_getD (by simp [outP]) fun n hn => ?_
  rw [List.length_set, outP_len] at hn
  rw [getD_set_int (by rw [outP_len]; omega), outP_get hn, outP_get hn]
  by_cases e : x * 10 + y = n
  · subst e
    rw [if_pos rfl, if_pos (by omega)]
  · rw [if_neg e]
    by_cases h : (n / 10 < x ∨ n / 10 = x ∧ n % 10 < y) ∧ n % 10 < N
    · rw [if_pos h, if_pos (by omega)]
    · rw [if_neg h, if_neg (by omega)]
theorem outP_all {N : Nat} {g : List Int} : outP N g N 0 = outR N g := by
  refine ext_getD (by simp [outP, outR]) fun n hn => ?_
  rw [outP_len] at hn
  have e1 : (outR N g).getD n 0 = if n / 10 < N ∧ n % 10 < N then g.getD n 0 - 1 else 0 := by simp [outR, hn]
  rw [outP_get hn, e1]
  by_cases h : n / 10 < N ∧ n % 10 < N
  · rw [if_pos h, if_pos (by omega)]
  · rw [if_neg h, if_neg (by omega)]
theorem mtR_facts {N : Nat} {t : List Int} (h8 : N ≤ 8) : ((mtR N t).1 = 0 ∨ (mtR N t).1 = 3 ∨ (mtR N t).1 = 4) ∧ ((mtR N t).1 = 3 → (mtR N t).2.2 = 20001) ∧ ((mtR N t).1 ≠ 3 → (mtR N t).2.2 ≤ 20000) ∧ ((mtR N t).1 = 0 → Tkn N (mtR N t).2.1 ∧ (mtR N t).2.1.length = N) := by
  have hr := tkA_r (N := N) (B := firstB (trA N t)) (d := N) (tk := []) (r := 0) (by omega)
  refine ⟨hr.2.2.2.2, hr.2.2.2.1, hr.2.2.1, fun h => ?_⟩
  have := tkA_tkn (N := N) (B := firstB (trA N t)) (fun k p hp => trA_pln h8 p (List.mem_filter.1 hp).1) (d := N) (tk := []) (r := 0) ⟨fun p hp => (by cases hp), List.Pairwise.nil⟩ h
  rw [List.length_nil, Nat.zero_add] at this
  exact this
set_option maxHeartbeats 2000000 in
theorem specMate_ok (n : Int) (t : List Int) (ht : Bytes 100 t) : ACalls Try.prog 19 [.agg (sqS n t)] [] (fun v ms ns => v = mtAV n t ∧ ms = [] ∧ ns = []) := by
  unfold mtAV
  refine acalls_of_body mix Try.func19 rfl fok19 (Nat.le_of_ble_eq_true rfl) ?_
  unfold abody
  simp only [absE, absL, absF, reduceCtorEq, ↓reduceIte, Nat.reduceEqDiff, Nat.reduceAdd, Nat.reduceLT, Nat.reduceMul, Nat.reduceSub, Nat.reduceLeDiff, Int.reduceLT, Int.reduceLE, Int.reduceEq, Option.isSome_some, implies_true, false_implies, Prod.mk.injEq, ne_eq, not_false_eq_true, not_true_eq_false, ge_iff_le, gt_iff_lt, Int.toNat_natCast, Int.reduceToNat, Int.cast_ofNat_Int, Int.natCast_nonneg, Try.f19]
  refine CallsVia.none (l01Is_ok n t ht) ?_
  rintro _ _ _ ⟨rfl, rfl, rfl⟩
  cases h1 : sqB n t
  · simp only [absE, absL, absF, reduceCtorEq, ↓reduceIte, Nat.reduceEqDiff, Nat.reduceAdd, Nat.reduceLT, Nat.reduceMul, Nat.reduceSub, Nat.reduceLeDiff, Int.reduceLT, Int.reduceLE, Int.reduceEq, Option.isSome_some, implies_true, false_implies, Prod.mk.injEq, ne_eq, not_false_eq_true, not_true_eq_false, ge_iff_le, gt_iff_lt, Int.toNat_natCast, Int.reduceToNat, Int.cast_ofNat_Int, Int.natCast_nonneg, Try.results19]
    exact ⟨[], by simp, by simp, by simp [renV, renVs, renSegs, renSg, h1, renAt]⟩
  · by_cases h2 : 8 < n
    · simp only [absE, absL, absF, reduceCtorEq, ↓reduceIte, Nat.reduceEqDiff, Nat.reduceAdd, Nat.reduceLT, Nat.reduceMul, Nat.reduceSub, Nat.reduceLeDiff, Int.reduceLT, Int.reduceLE, Int.reduceEq, Option.isSome_some, implies_true, false_implies, Prod.mk.injEq, ne_eq, not_false_eq_true, not_true_eq_false, ge_iff_le, gt_iff_lt, Int.toNat_natCast, Int.reduceToNat, Int.cast_ofNat_Int, Int.natCast_nonneg, h2, Try.results19]
      exact ⟨[], by simp, by simp, by simp [renV, renVs, renSegs, renSg, h1, h2, renAt]⟩
    · have hs : SqP n t := sqB_iff.1 h1
      obtain ⟨N, rfl⟩ : ∃ N : Nat, n = N := ⟨n.toNat, by have := hs.1; omega⟩
      have hN1 := hs.pos
      have hN8 : N ≤ 8 := by omega
      simp only [absE, absL, absF, reduceCtorEq, ↓reduceIte, Nat.reduceEqDiff, Nat.reduceAdd, Nat.reduceLT, Nat.reduceMul, Nat.reduceSub, Nat.reduceLeDiff, Int.reduceLT, Int.reduceLE, Int.reduceEq, Option.isSome_some, implies_true, false_implies, Prod.mk.injEq, ne_eq, not_false_eq_true, not_true_eq_false, ge_iff_le, gt_iff_lt, Int.toNat_natCast, Int.reduceToNat, Int.cast_ofNat_Int, Int.natCast_nonneg, h2]
      have hTl := trA_len (N := N) (t := t) hN8
      have hTp := trA_pln (N := N) (t := t) hN8
      have hTr := l09TransversalsM_ok N t ht hs
      have hfa := mtR_facts (N := N) (t := t) hN8
      have hRS : mtR N t = tkS N (trA N t) N [] 0 := tkS_A.symm
      have eR : mtO N t = if (mtR N t).1 = 0 then outR N (grd N (mtR N t).2.1) else mtO N t := by
        by_cases h0 : (mtR N t).1 = 0
        · rw [if_pos h0]
          obtain ⟨hk, hl⟩ := hfa.2.2.2 h0
          exact (out_same (by omega) hk hl).symm
        · rw [if_neg h0]
      have hval : (mtR N t).1 = 0 → ∀ x y, x < N → y < N → 1 ≤ (grd N (mtR N t).2.1).getD (x * 10 + y) 0 ∧ (grd N (mtR N t).2.1).getD (x * 10 + y) 0 ≤ 255 := fun h0 x y hx hy => by
        obtain ⟨hk, hl⟩ := hfa.2.2.2 h0
        obtain ⟨a, ha, ea⟩ := cover hk hl hx hy
        have g1 := (grF_all (f := fun i => (i : Int) + 1) (N := N) (by omega) hk (i := x) (j := y) (by omega)).2 a ha hx ea
        rw [grd_F, g1]; omega
      simp only [if_true, Int.toNat_natCast, if_neg h2]
      generalize hT : trA N t = T at hTl hTp hTr hRS
      by_cases hT0 : T = []
      · subst hT0
        have hTn : ACalls Try.prog 41 [.agg (sqS N t), .i .i64 1000000] [] (fun r xs ns => r = .ref .nils ∧ xs = [] ∧ ns = []) := hTr.mono fun v ms ns h => h.elim (fun h => h.2) fun h => absurd rfl h.1
        simp only [absE, absL, absF, reduceCtorEq, ↓reduceIte, Nat.reduceEqDiff, Nat.reduceAdd, Nat.reduceLT, Nat.reduceMul, Nat.reduceSub, Nat.reduceLeDiff, Int.reduceLT, Int.reduceLE, Int.reduceEq, Option.isSome_some, implies_true, false_implies, Prod.mk.injEq, ne_eq, not_false_eq_true, not_true_eq_false, ge_iff_le, gt_iff_lt, Int.toNat_natCast, Int.reduceToNat, Int.cast_ofNat_Int, Int.natCast_nonneg, h2]
        refine CallsX.none hTn ?_
        simp only [absE, absL, absF, reduceCtorEq, ↓reduceIte, Nat.reduceEqDiff, Nat.reduceAdd, Nat.reduceLT, Nat.reduceMul, Nat.reduceSub, Nat.reduceLeDiff, Int.reduceLT, Int.reduceLE, Int.reduceEq, Option.isSome_some, implies_true, false_implies, Prod.mk.injEq, ne_eq, not_false_eq_true, not_true_eq_false, ge_iff_le, gt_iff_lt, Int.toNat_natCast, Int.reduceToNat, Int.cast_ofNat_Int, Int.natCast_nonneg]
        have hTk := l09Take0_ok N (List.replicate 100 0) hN1
        have e4 : (mtR N t).1 = 4 := by
          rw [hRS]
          obtain ⟨m, rfl⟩ : ∃ m, N = m + 1 := ⟨N - 1, by omega⟩
          rfl
        refine CallsVia.args [(17, 0)] hTk (by simp) (by simp [Mem.get, assoc]) (by simp [renVs, renV, renAt, renIn, idx]) (by simp [argBlks, Mem.get, assoc, mtS, renBlk, renSegs, renSg, renAt]) ?_
        rintro _ _ _ ⟨rfl, rfl, rfl⟩
        simp only [absE, absL, absF, reduceCtorEq, ↓reduceIte, Nat.reduceEqDiff, Nat.reduceAdd, Nat.reduceLT, Nat.reduceMul, Nat.reduceSub, Nat.reduceLeDiff, Int.reduceLT, Int.reduceLE, Int.reduceEq, Option.isSome_some, implies_true, false_implies, Prod.mk.injEq, ne_eq, not_false_eq_true, not_true_eq_false, ge_iff_le, gt_iff_lt, Int.toNat_natCast, Int.reduceToNat, Int.cast_ofNat_Int, Int.natCast_nonneg, mtS, Try.results19]
        exact ⟨[], by simp, by simp, by simp [renV, renVs, renSegs, renSg, e4], by simp, by simp⟩
      · have hTn : ACalls Try.prog 41 [.agg (sqS N t), .i .i64 1000000] [] (fun r xs ns => r = .ref (.sl 1 0 0 0 T.length 10) ∧ xs = [] ∧ ns = [plB T]) := hTr.mono fun v ms ns h => h.elim (fun h => absurd h.1 hT0) fun h => h.2
        simp only [absE, absL, absF, reduceCtorEq, ↓reduceIte, Nat.reduceEqDiff, Nat.reduceAdd, Nat.reduceLT, Nat.reduceMul, Nat.reduceSub, Nat.reduceLeDiff, Int.reduceLT, Int.reduceLE, Int.reduceEq, Option.isSome_some, implies_true, false_implies, Prod.mk.injEq, ne_eq, not_false_eq_true, not_true_eq_false, ge_iff_le, gt_iff_lt, Int.toNat_natCast, Int.reduceToNat, Int.cast_ofNat_Int, Int.natCast_nonneg, h2]
        refine CallsX.none hTn ?_
        simp only [absE, absL, absF, reduceCtorEq, ↓reduceIte, Nat.reduceEqDiff, Nat.reduceAdd, Nat.reduceLT, Nat.reduceMul, Nat.reduceSub, Nat.reduceLeDiff, Int.reduceLT, Int.reduceLE, Int.reduceEq, Option.isSome_some, implies_true, false_implies, Prod.mk.injEq, ne_eq, not_false_eq_true, not_true_eq_false, ge_iff_le, gt_iff_lt, Int.toNat_natCast, Int.reduceToNat, Int.cast_ofNat_Int, Int.natCast_nonneg, plB]
        refine And.intro (by simp [chk, disj]) ?_
        have hTk := l09Take_ok N T (by omega) hN1 hTp (by omega) N (Nat.le_refl N) [] 0 ⟨fun p hp => (by cases hp), List.Pairwise.nil⟩ (by simp) (by omega)
        rw [Nat.sub_self, ← hRS] at hTk
        rw [show ((0 : Nat) : Int) = 0 from rfl] at hTk
        have eg0 : grd N [] = List.replicate 100 0 := rfl
        rw [eg0] at hTk
        refine CallsVia.args [(17, 0), (15, 0)] hTk (by simp) (by simp [Mem.get, assoc]) (by simp [renVs, renV, renAt, renIn, idx]) (by simp [argBlks, Mem.get, assoc, mtM, mtS, plB, renBlk, renSegs, renSg, renAt, renIn, idx]) ?_
        rintro _ _ _ ⟨rfl, rfl, rfl⟩
        generalize hS : mtR N t = S at hfa hval eR
        obtain ⟨sc, stk, sr⟩ := S
        simp only at hfa hval eR
        by_cases h0 : sc = 0
        · subst h0
          simp only [if_true] at eR
          simp only [absE, absL, absF, reduceCtorEq, ↓reduceIte, Nat.reduceEqDiff, Nat.reduceAdd, Nat.reduceLT, Nat.reduceMul, Nat.reduceSub, Nat.reduceLeDiff, Int.reduceLT, Int.reduceLE, Int.reduceEq, Option.isSome_some, implies_true, false_implies, Prod.mk.injEq, ne_eq, not_false_eq_true, not_true_eq_false, ge_iff_le, gt_iff_lt, Int.toNat_natCast, Int.reduceToNat, Int.cast_ofNat_Int, Int.natCast_nonneg, mtM, mtS, plB, decide_true, if_true]
          rw [eR]
          have hv := hval rfl
          generalize grd N stk = g at hv
          refine awpLoop.intro (fun x : Nat => [(1, .ref (.ptr 1 0 0 0)), (2, .ref (.ptr 2 0 0 0)), (4, .ref (.ptr 17 0 0 0)), (6, .ref (.ptr 6 0 0 0)), (7, .i .i64 x)]) (fun x => ⟨[], [((1, 0), .lv true (sqS N t)), ((2, 0), .lv true [(0, .ints .i64 1 [0]), (1, .ints .u8 100 (List.replicate 100 0))]), ((6, 0), .lv true [(0, .ints .i64 1 [(N : Int)]), (1, .ints .u8 100 (outP N g x 0))]), ((17, 0), .lv true [(0, .ints .i64 1 [(N : Int)]), (1, .cells 1 [.top]), (2, .ints .u8 100 g), (102, .ints .i64 1 [(sr : Int)])])], 100⟩) (fun x => x ≤ N) (fun x => N - x) 0 (by omega) ⟨[((1,0),(1,0)), ((2,0),(2,0)), ((38,0),(6,0)), ((17,0),(17,0))], rfl, ?_, ?_⟩ ?_
          · simp [wkEnv, lk, renV, renAt, renTo]
          · simp [wkMem, wkLoc, Mem.get, assoc, renBlk, renSegs, renSg, renAt, renTo, outP_zero]
          · intro x hx
            by_cases h : (x : Int) < N
            · have hxN : x < N := by omega
              have w := wrap_i64s (show x < 2 ^ 62 by omega)
              simp only [absE, absL, absF, reduceCtorEq, ↓reduceIte, Nat.reduceEqDiff, Nat.reduceAdd, Nat.reduceLT, Nat.reduceMul, Nat.reduceSub, Nat.reduceLeDiff, Int.reduceLT, Int.reduceLE, Int.reduceEq, Option.isSome_some, implies_true, false_implies, Prod.mk.injEq, ne_eq, not_false_eq_true, not_true_eq_false, ge_iff_le, gt_iff_lt, Int.toNat_natCast, Int.reduceToNat, Int.cast_ofNat_Int, Int.natCast_nonneg, h]
              refine awpLoop.intro (fun y : Nat => [(1, .ref (.ptr 1 0 0 0)), (2, .ref (.ptr 2 0 0 0)), (4, .ref (.ptr 17 0 0 0)), (6, .ref (.ptr 6 0 0 0)), (7, .i .i64 x), (8, .i .i64 y)]) (fun y => ⟨[], [((1, 0), .lv true (sqS N t)), ((2, 0), .lv true [(0, .ints .i64 1 [0]), (1, .ints .u8 100 (List.replicate 100 0))]), ((6, 0), .lv true [(0, .ints .i64 1 [(N : Int)]), (1, .ints .u8 100 (outP N g x y))]), ((17, 0), .lv true [(0, .ints .i64 1 [(N : Int)]), (1, .cells 1 [.top]), (2, .ints .u8 100 g), (102, .ints .i64 1 [(sr : Int)])])], 100⟩) (fun y => y ≤ N) (fun y => N - y) 0 (by omega) ⟨[((1,0),(1,0)), ((2,0),(2,0)), ((6,0),(6,0)), ((17,0),(17,0))], rfl, ?_, ?_⟩ ?_
              · simp [wkEnv, lk, renV, renAt, renTo]
              · simp [wkMem, wkLoc, Mem.get, assoc, renBlk, renSegs, renSg, renAt, renTo]
              · intro y hy
                by_cases h' : (y : Int) < N
                · have hyN : y < N := by omega
                  have w' := wrap_i64s (show y < 2 ^ 62 by omega)
                  have x10 : (x : Int) < 10 := by omega
                  have y10 : (y : Int) < 10 := by omega
                  have gi : 0 + x * 10 + y * 1 < 100 := by omega
                  have gi2 : 0 + x * 10 + y * 1 + 1 ≤ 100 := by omega
                  have hv1 := hv x y hxN hyN
                  have ge : g.getD (0 + x * 10 + y * 1) 0 = g.getD (x * 10 + y) 0 := by rw [Nat.zero_add, Nat.mul_one]
                  have wv : IntKind.u8.wrap (g.getD (x * 10 + y) 0 - 1) = g.getD (x * 10 + y) 0 - 1 := by
                    obtain ⟨b, hb⟩ : ∃ b : Nat, g.getD (x * 10 + y) 0 - 1 = b := ⟨(g.getD (x * 10 + y) 0 - 1).toNat, by omega⟩
                    rw [hb]; exact wrap_u8n (by omega)
                  have es : (outP N g x y).set (0 + x * 10 + y * 1) (g.getD (x * 10 + y) 0 - 1) = outP N g x (y + 1) := by rw [Nat.zero_add, Nat.mul_one]; exact outP_next hxN hyN (by omega)
                  simp only [absE, absL, absF, reduceCtorEq, ↓reduceIte, Nat.reduceEqDiff, Nat.reduceAdd, Nat.reduceLT, Nat.reduceMul, Nat.reduceSub, Nat.reduceLeDiff, Int.reduceLT, Int.reduceLE, Int.reduceEq, Option.isSome_some, implies_true, false_implies, Prod.mk.injEq, ne_eq, not_false_eq_true, not_true_eq_false, ge_iff_le, gt_iff_lt, Int.toNat_natCast, Int.reduceToNat, Int.cast_ofNat_Int, Int.natCast_nonneg, h', x10, y10, gi, gi2, ge, wv, es]
                  refine LoopNext.intro (y + 1) (by omega) (by omega) ⟨[((1,0),(1,0)), ((2,0),(2,0)), ((6,0),(6,0)), ((17,0),(17,0))], rfl, ?_, ?_⟩
                  · simp [wkEnv, lk, renV, renAt, renTo, w']
                  · simp [wkMem, wkLoc, Mem.get, assoc, renBlk, renSegs, renSg, renAt, renTo]
                · obtain rfl : N = y := by omega
                  simp only [absE, absL, absF, reduceCtorEq, ↓reduceIte, Nat.reduceEqDiff, Nat.reduceAdd, Nat.reduceLT, Nat.reduceMul, Nat.reduceSub, Nat.reduceLeDiff, Int.reduceLT, Int.reduceLE, Int.reduceEq, Option.isSome_some, implies_true, false_implies, Prod.mk.injEq, ne_eq, not_false_eq_true, not_true_eq_false, ge_iff_le, gt_iff_lt, Int.toNat_natCast, Int.reduceToNat, Int.cast_ofNat_Int, Int.natCast_nonneg, h']
                  refine LoopNext.intro (x + 1) (by omega) (by omega) ⟨[((1,0),(1,0)), ((2,0),(2,0)), ((6,0),(6,0)), ((17,0),(17,0))], rfl, ?_, ?_⟩
                  · simp [wkEnv, lk, renV, renAt, renTo, w]
                  · simp [wkMem, wkLoc, Mem.get, assoc, renBlk, renSegs, renSg, renAt, renTo, outP_row]
            · obtain rfl : N = x := by omega
              simp only [absE, absL, absF, reduceCtorEq, ↓reduceIte, Nat.reduceEqDiff, Nat.reduceAdd, Nat.reduceLT, Nat.reduceMul, Nat.reduceSub, Nat.reduceLeDiff, Int.reduceLT, Int.reduceLE, Int.reduceEq, Option.isSome_some, implies_true, false_implies, Prod.mk.injEq, ne_eq, not_false_eq_true, not_true_eq_false, ge_iff_le, gt_iff_lt, Int.toNat_natCast, Int.reduceToNat, Int.cast_ofNat_Int, Int.natCast_nonneg, h, Try.results19]
              exact ⟨[], by simp, by simp, by simp [renV, renVs, renSegs, renSg, outP_all], by simp, by simp⟩
        · have hb : decide (sc = 0) = false := decide_eq_false h0
          by_cases h3 : sc = 3
          · subst h3
            have hr : sr = 20001 := hfa.2.1 rfl
            subst hr
            simp only [absE, absL, absF, reduceCtorEq, ↓reduceIte, Nat.reduceEqDiff, Nat.reduceAdd, Nat.reduceLT, Nat.reduceMul, Nat.reduceSub, Nat.reduceLeDiff, Int.reduceLT, Int.reduceLE, Int.reduceEq, Option.isSome_some, implies_true, false_implies, Prod.mk.injEq, ne_eq, not_false_eq_true, not_true_eq_false, ge_iff_le, gt_iff_lt, Int.toNat_natCast, Int.reduceToNat, Int.cast_ofNat_Int, Int.natCast_nonneg, mtM, mtS, plB, hb, if_neg h0, Try.results19]
            exact ⟨[], by simp, by simp, by simp [renV, renVs, renSegs, renSg], by simp, by simp⟩
          · have h4 : sc = 4 := by omega
            subst h4
            have hr := hfa.2.2.1 h3
            have hr2 : ¬ (20000 : Int) < (sr : Int) := by omega
            simp only [absE, absL, absF, reduceCtorEq, ↓reduceIte, Nat.reduceEqDiff, Nat.reduceAdd, Nat.reduceLT, Nat.reduceMul, Nat.reduceSub, Nat.reduceLeDiff, Int.reduceLT, Int.reduceLE, Int.reduceEq, Option.isSome_some, implies_true, false_implies, Prod.mk.injEq, ne_eq, not_false_eq_true, not_true_eq_false, ge_iff_le, gt_iff_lt, Int.toNat_natCast, Int.reduceToNat, Int.cast_ofNat_Int, Int.natCast_nonneg, mtM, mtS, plB, hb, if_neg h0, hr2, Try.results19]
            exact ⟨[], by simp, by simp, by simp [renV, renVs, renSegs, renSg], by simp, by simp⟩

end Go.Proofs.Ytjmenocghjggcaa
