/-
Contracts of functions of the given program, by the abstract walk.
-/
import Derived.Test.YtoccbgffekhcaaaAbsY
import Derived.Test.YtoccbgffekhcaaaRa
import Derived.Test.YtoccbgffekhcaaaJj
import Derived.Test.YtoccbgffekhcaaaCc
namespace Go.Proofs.Ytoccbgffekhcaaa
open Go Go.Abs
set_option linter.unusedVariables false
set_option linter.unusedSectionVars false
set_option linter.unusedSimpArgs false
set_option maxRecDepth 100000
/-! triple systems: comparing triples, the reference's table -/
theorem lex3_at {p t : List Int} {i : Nat} (hi : i < 3) (h : ∀ j, j < i → p.getD j 0 = t.getD j 0) (hne : p.getD i 0 ≠ t.getD i 0) : lex3 p t ↔ p.getD i 0 < t.getD i 0 := by
  unfold lex3
  match i, hi with
  | 0, _ => constructor <;> intro hh <;> omega
  | 1, _ => have := h 0 (by omega); constructor <;> intro hh <;> omega
  | 2, _ => have := h 0 (by omega); have := h 1 (by omega); constructor <;> intro hh <;> omega
theorem lex3_no {p t : List Int} (h : ∀ j, j < 3 → p.getD j 0 = t.getD j 0) : ¬ lex3 p t := by
  have := h 0 (by omega); have := h 1 (by omega); have := h 2 (by omega)
  unfold lex3; omega
def ibk (xs : List Int) : Blk := .lv true [(0, .ints .i64 3 xs)]
theorem ahead_ok (p t : List Int) (hp : p.length = 3) (ht : t.length = 3) :
    ACalls Try.prog 187 [.ref (.sl 0 0 0 0 3 1), .ref (.sl 0 1 0 0 3 1)] [ibk p, ibk t] (fun v ms ns => v = .b (decide (lex3 p t)) ∧ ms = [ibk p, ibk t] ∧ ns = []) := by
  unfold ibk
  refine acalls_of_body mix Try.func187 rfl fok187 (Nat.le_of_ble_eq_true rfl) ?_
  unfold abody
  simp only [absE, absL, absF, reduceCtorEq, ↓reduceIte, Nat.reduceEqDiff, Nat.reduceAdd, Nat.reduceLT, Nat.reduceMul, Nat.reduceSub, Nat.reduceLeDiff, Int.reduceLT, Int.reduceLE, Int.reduceEq, Option.isSome_some, implies_true, false_implies, Prod.mk.injEq, ne_eq, not_false_eq_true, not_true_eq_false, ge_iff_le, gt_iff_lt, Int.toNat_natCast, Int.reduceToNat, Int.cast_ofNat_Int, Int.natCast_nonneg, Try.f187]
  refine awpLoop.intro (fun i : Nat => [(0, .ref (.sl 0 0 0 0 3 1)), (1, .ref (.sl 0 1 0 0 3 1)), (5, .i .i64 i)]) (fun i => ⟨[.lv true [(0, .ints .i64 3 p)], .lv true [(0, .ints .i64 3 t)]], [], 8⟩)
    (fun i => i ≤ 3 ∧ ∀ j, j < i → p.getD j 0 = t.getD j 0) (fun i => 3 - i) 0 ⟨by omega, fun j hj => absurd hj (by omega)⟩ ⟨[], rfl, ?_, ?_⟩ ?_
  · simp [wkEnv, lk, renV, renAt, renTo]
  · simp [wkMem, wkLoc, Mem.get, assoc, renBlk, renSegs, renSg, renTo]
  · rintro i ⟨hi, hq⟩
    by_cases h : (i : Int) < 3
    · have w := wrap_i64s (show i < 2 ^ 62 by omega)
      have v1 : 0 + i * 1 < 3 := by omega
      have e1 : p.getD (0 + i * 1) 0 = p.getD i 0 := by rw [Nat.zero_add, Nat.mul_one]
      have e2 : t.getD (0 + i * 1) 0 = t.getD i 0 := by rw [Nat.zero_add, Nat.mul_one]
      by_cases e : p.getD i 0 = t.getD i 0
      · simp only [absE, absL, absF, reduceCtorEq, ↓reduceIte, Nat.reduceEqDiff, Nat.reduceAdd, Nat.reduceLT, Nat.reduceMul, Nat.reduceSub, Nat.reduceLeDiff, Int.reduceLT, Int.reduceLE, Int.reduceEq, Option.isSome_some, implies_true, false_implies, Prod.mk.injEq, ne_eq, not_false_eq_true, not_true_eq_false, ge_iff_le, gt_iff_lt, Int.toNat_natCast, Int.reduceToNat, Int.cast_ofNat_Int, Int.natCast_nonneg, h, v1, e1, e2, e]
        repeat first | refine And.intro (by decide +kernel) ?_ | refine And.intro (by omega) ?_
        refine LoopNext.intro (i + 1) ⟨by omega, fun j hj => ?_⟩ (by omega) ⟨[], rfl, ?_, ?_⟩
        · by_cases ej : j = i
          · subst ej; exact e
          · exact hq j (by omega)
        · simp [wkEnv, lk, renV, renAt, renTo, w]
        · simp [wkMem, wkLoc, Mem.get, assoc, renBlk, renSegs, renSg, renTo, w]
      · have hl : decide (p.getD i 0 < t.getD i 0) = decide (lex3 p t) := decide_eq_decide.2 (lex3_at (by omega) hq e).symm
        simp only [absE, absL, absF, reduceCtorEq, ↓reduceIte, Nat.reduceEqDiff, Nat.reduceAdd, Nat.reduceLT, Nat.reduceMul, Nat.reduceSub, Nat.reduceLeDiff, Int.reduceLT, Int.reduceLE, Int.reduceEq, Option.isSome_some, implies_true, false_implies, Prod.mk.injEq, ne_eq, not_false_eq_true, not_true_eq_false, ge_iff_le, gt_iff_lt, Int.toNat_natCast, Int.reduceToNat, Int.cast_ofNat_Int, Int.natCast_nonneg, h, v1, e1, e2, e]
        repeat first | refine And.intro (by decide +kernel) ?_ | refine And.intro (by omega) ?_
        simp only [absE, absL, absF, reduceCtorEq, ↓reduceIte, Nat.reduceEqDiff, Nat.reduceAdd, Nat.reduceLT, Nat.reduceMul, Nat.reduceSub, Nat.reduceLeDiff, Int.reduceLT, Int.reduceLE, Int.reduceEq, Option.isSome_some, implies_true, false_implies, Prod.mk.injEq, ne_eq, not_false_eq_true, not_true_eq_false, ge_iff_le, gt_iff_lt, Int.toNat_natCast, Int.reduceToNat, Int.cast_ofNat_Int, Int.natCast_nonneg, h, v1, e1, e2, hl, Try.results187]
        repeat first | refine And.intro (by decide +kernel) ?_ | refine And.intro (by omega) ?_
        exact ⟨[], by simp, by simp, by simp [renV, renBlk, renSegs, renSg]⟩
    · have hl : ¬ lex3 p t := lex3_no fun j hj => hq j (by omega)
      simp only [absE, absL, absF, reduceCtorEq, ↓reduceIte, Nat.reduceEqDiff, Nat.reduceAdd, Nat.reduceLT, Nat.reduceMul, Nat.reduceSub, Nat.reduceLeDiff, Int.reduceLT, Int.reduceLE, Int.reduceEq, Option.isSome_some, implies_true, false_implies, Prod.mk.injEq, ne_eq, not_false_eq_true, not_true_eq_false, ge_iff_le, gt_iff_lt, Int.toNat_natCast, Int.reduceToNat, Int.cast_ofNat_Int, Int.natCast_nonneg, h, Try.results187]
      exact ⟨[], by simp, by simp, by simp [renV, renBlk, renSegs, renSg, hl]⟩
theorem chk_x {ops : List Oper} {j : Nat} {wr rd : List Abs.Id} : ∀ {h : Hist} {l : List Nat}, h.map (fun x => x.1) = l → (l.all fun i => ordB ops i j) = true → chk ops j wr rd h
  | [], _, _, _ => trivial
  | (i, wr', rd') :: r, _, rfl, hh => by
    simp only [List.map_cons, List.all_cons, Bool.and_eq_true] at hh
    refine ⟨?_, chk_x rfl hh.2⟩
    rw [hh.1, Bool.or_true]
def iniL (n : Nat) : List Int := (List.range 81).map fun p => if p < n then -1 else 0
theorem iniL_set {i j : Nat} (hi : i < 9) (hj : j < 9) : (iniL (i * 9 + j)).set (0 + i * 9 + j * 1) (-1) = iniL (i * 9 + (j + 1)) := by
  rw [Nat.zero_add, Nat.mul_one]
  apply List.ext_getElem
  · simp [iniL]
  · intro p h1 h2
    rw [List.getElem_set]
    simp only [iniL, List.getElem_map, List.getElem_range]
    split
    · rw [if_pos (by omega)]
    · by_cases h : p < i * 9 + j
      · rw [if_pos h, if_pos (by omega)]
      · rw [if_neg h, if_neg (by omega)]
theorem iniL_all : iniL (9 * 9) = tl fun _ _ => -1 := by decide +kernel
theorem iniL_zero : iniL (0 * 9) = List.replicate 81 0 := by decide +kernel
set_option maxHeartbeats 4000000 in
theorem l08Third_ok (v : Int) (LL : LLs) (hl : ∀ i, i < LL.length → (at_ LL i).length ≤ 2 ^ 20) (hm : LL.length ≤ 2 ^ 20) :
    ACalls Try.prog 171 [.i .i64 v, .ref (.sl 0 0 0 0 LL.length 1)] (ms1 LL) (fun r ms ns => ∃ X : List Int, X.length = 81 ∧ (thirdOk v LL = true → X = tl (thirdF v LL)) ∧ r = .tup [.agg [(0, .ints .i64 81 X)], .b (thirdOk v LL)] ∧ ms = ms1 LL ∧ ns = []) := by
  have g0 := ms1_0 (LL := LL)
  have hst : ∀ σ : Pairs, (ms1 LL).map (renBlk (renTo σ)) = ms1 LL := fun σ => ms1_ren renTo_zero
  have hfin : (ms1 LL).map (renBlk (renFin [])) = ms1 LL := ms1_ren renFin_zero
  refine acalls_of_body mix Try.func171 rfl fok171 (Nat.le_of_ble_eq_true rfl) ?_
  unfold abody
  simp only [absE, absL, absF, reduceCtorEq, ↓reduceIte, Nat.reduceEqDiff, Nat.reduceAdd, Nat.reduceLT, Nat.reduceMul, Nat.reduceSub, Nat.reduceLeDiff, Int.reduceLT, Int.reduceLE, Int.reduceEq, Option.isSome_some, implies_true, false_implies, Prod.mk.injEq, ne_eq, not_false_eq_true, not_true_eq_false, ge_iff_le, gt_iff_lt, Int.toNat_natCast, Int.reduceToNat, Int.cast_ofNat_Int, Int.natCast_nonneg, Try.f171]
  repeat first | refine And.intro (by decide +kernel) ?_ | refine And.intro (by omega) ?_
  refine awpLoop.intro (fun i : Nat => [(0, .i .i64 v), (1, .ref (.sl 0 0 0 0 LL.length 1)), (4, .ref (.ptr 1 0 0 0)), (6, .ref (.ptr 4 0 0 0)), (7, .i .i64 i)]) (fun i => ⟨ms1 LL, [((1, 0), .lv true ([(0, .ints .i64 81 (List.replicate 81 0))])), ((4, 0), .lv true ([(0, .ints .i64 81 (iniL (i * 9)))]))], 7⟩)
    (fun i => i ≤ 9) (fun i => 9 - i) 0 (by omega) ⟨[((1,0),(1,0)), ((4,0),(4,0))], rfl, ?_, ?_⟩ ?_
  · simp [wkEnv, lk, renV, renAt, renTo]
  · simp only [wkMem, hst, iniL_zero]; simp [wkLoc, Mem.get, assoc, renBlk, renSegs, renSg]
  · intro i hi
    by_cases h : (i : Int) < 9
    · have w := wrap_i64s (show i < 2 ^ 62 by omega)
      simp only [absE, absL, absF, reduceCtorEq, ↓reduceIte, Nat.reduceEqDiff, Nat.reduceAdd, Nat.reduceLT, Nat.reduceMul, Nat.reduceSub, Nat.reduceLeDiff, Int.reduceLT, Int.reduceLE, Int.reduceEq, Option.isSome_some, implies_true, false_implies, Prod.mk.injEq, ne_eq, not_false_eq_true, not_true_eq_false, ge_iff_le, gt_iff_lt, Int.toNat_natCast, Int.reduceToNat, Int.cast_ofNat_Int, Int.natCast_nonneg, h]
      refine awpLoop.intro (fun j : Nat => [(0, .i .i64 v), (1, .ref (.sl 0 0 0 0 LL.length 1)), (4, .ref (.ptr 1 0 0 0)), (6, .ref (.ptr 4 0 0 0)), (7, .i .i64 i), (8, .i .i64 j)]) (fun j => ⟨ms1 LL, [((1, 0), .lv true ([(0, .ints .i64 81 (List.replicate 81 0))])), ((4, 0), .lv true ([(0, .ints .i64 81 (iniL (i * 9 + j)))]))], 100⟩)
        (fun j => j ≤ 9) (fun j => 9 - j) 0 (by omega) ⟨[((1,0),(1,0)), ((4,0),(4,0))], rfl, ?_, ?_⟩ ?_
      · simp [wkEnv, lk, renV, renAt, renTo]
      · simp only [wkMem, hst]; simp [wkLoc, Mem.get, assoc, renBlk, renSegs, renSg]
      · intro j hj
        by_cases h' : (j : Int) < 9
        · have w' := wrap_i64s (show j < 2 ^ 62 by omega)
          have es := iniL_set (show i < 9 by omega) (show j < 9 by omega)
          have u : 0 + i * 9 + j * 1 + 1 ≤ 81 := by omega
          simp only [absE, absL, absF, reduceCtorEq, ↓reduceIte, Nat.reduceEqDiff, Nat.reduceAdd, Nat.reduceLT, Nat.reduceMul, Nat.reduceSub, Nat.reduceLeDiff, Int.reduceLT, Int.reduceLE, Int.reduceEq, Option.isSome_some, implies_true, false_implies, Prod.mk.injEq, ne_eq, not_false_eq_true, not_true_eq_false, ge_iff_le, gt_iff_lt, Int.toNat_natCast, Int.reduceToNat, Int.cast_ofNat_Int, Int.natCast_nonneg, h, h', u, es]
          repeat first | refine And.intro (by decide +kernel) ?_ | refine And.intro (by omega) ?_
          refine LoopNext.intro (j + 1) (by omega) (by omega) ⟨[((1,0),(1,0)), ((4,0),(4,0))], rfl, ?_, ?_⟩
          · simp [wkEnv, lk, renV, renAt, renTo, w']
          · simp only [wkMem, hst]; simp [wkLoc, Mem.get, assoc, renBlk, renSegs, renSg]
        · have hj9 : j = 9 := by omega
          subst hj9
          simp only [absE, absL, absF, reduceCtorEq, ↓reduceIte, Nat.reduceEqDiff, Nat.reduceAdd, Nat.reduceLT, Nat.reduceMul, Nat.reduceSub, Nat.reduceLeDiff, Int.reduceLT, Int.reduceLE, Int.reduceEq, Option.isSome_some, implies_true, false_implies, Prod.mk.injEq, ne_eq, not_false_eq_true, not_true_eq_false, ge_iff_le, gt_iff_lt, Int.toNat_natCast, Int.reduceToNat, Int.cast_ofNat_Int, Int.natCast_nonneg, w]
          refine LoopNext.intro (i + 1) (by omega) (by omega) ⟨[((1,0),(1,0)), ((4,0),(4,0))], rfl, ?_, ?_⟩
          · simp [wkEnv, lk, renV, renAt, renTo]
          · simp only [wkMem, hst, Nat.add_mul]; simp [wkLoc, Mem.get, assoc, renBlk, renSegs, renSg]
    · have hi9 : i = 9 := by omega
      subst hi9
      rw [iniL_all]
      simp only [absE, absL, absF, reduceCtorEq, ↓reduceIte, Nat.reduceEqDiff, Nat.reduceAdd, Nat.reduceLT, Nat.reduceMul, Nat.reduceSub, Nat.reduceLeDiff, Int.reduceLT, Int.reduceLE, Int.reduceEq, Option.isSome_some, implies_true, false_implies, Prod.mk.injEq, ne_eq, not_false_eq_true, not_true_eq_false, ge_iff_le, gt_iff_lt, Int.toNat_natCast, Int.reduceToNat, Int.cast_ofNat_Int, Int.natCast_nonneg]
      refine CallsVia.none (l01In_ok v 1 9) ?_
      rintro _ _ _ ⟨rfl, rfl, rfl⟩
      by_cases hv : 1 ≤ v ∧ v ≤ 9
      · have hvd : decide (1 ≤ v ∧ v ≤ 9) = true := decide_eq_true hv
        by_cases hl12 : (12 : Int) < LL.length
        · have hno := thirdOk_long (LL := LL) hv.2 (by omega)
          simp only [absE, absL, absF, reduceCtorEq, ↓reduceIte, Nat.reduceEqDiff, Nat.reduceAdd, Nat.reduceLT, Nat.reduceMul, Nat.reduceSub, Nat.reduceLeDiff, Int.reduceLT, Int.reduceLE, Int.reduceEq, Option.isSome_some, implies_true, false_implies, Prod.mk.injEq, ne_eq, not_false_eq_true, not_true_eq_false, ge_iff_le, gt_iff_lt, Int.toNat_natCast, Int.reduceToNat, Int.cast_ofNat_Int, Int.natCast_nonneg, hvd, hl12, Try.results171]
          repeat first | refine And.intro (by decide +kernel) ?_ | refine And.intro (by omega) ?_
          exact ⟨[], by simp, by simp, tl (fun _ _ => -1), tl_len, fun hh => absurd hh (by simp [hno]), by simp [renV, renVs, renSegs, renSg, hno], hfin, by simp⟩
        · simp only [absE, absL, absF, reduceCtorEq, ↓reduceIte, Nat.reduceEqDiff, Nat.reduceAdd, Nat.reduceLT, Nat.reduceMul, Nat.reduceSub, Nat.reduceLeDiff, Int.reduceLT, Int.reduceLE, Int.reduceEq, Option.isSome_some, implies_true, false_implies, Prod.mk.injEq, ne_eq, not_false_eq_true, not_true_eq_false, ge_iff_le, gt_iff_lt, Int.toNat_natCast, Int.reduceToNat, Int.cast_ofNat_Int, Int.natCast_nonneg, hvd, hl12]
          obtain ⟨V, hVe⟩ : ∃ V : Nat, v = V := ⟨v.toNat, by omega⟩
          subst hVe
          refine awpLoop.intro (fun s : Nat × (Nat → Nat → Int) => [(0, .i .i64 V), (1, .ref (.sl 0 0 0 0 LL.length 1)), (4, .ref (.ptr 1 0 0 0)), (6, .ref (.ptr 4 0 0 0)), (9, .i .i64 s.1)]) (fun s => ⟨ms1 LL, [((1, 0), .lv true ([(0, .ints .i64 81 (List.replicate 81 0))])), ((4, 0), .lv true ([(0, .ints .i64 81 (tl s.2))]))], 200⟩)
            (fun s => s.1 ≤ LL.length ∧ stT V LL s.1 = some s.2) (fun s => LL.length - s.1) (0, fun _ _ => -1) ⟨by simp, rfl⟩ ⟨[((1,0),(1,0)), ((4,0),(4,0))], rfl, ?_, ?_⟩ ?_
          · simp [wkEnv, lk, renV, renAt, renTo]
          · simp only [wkMem, hst]; simp [wkLoc, Mem.get, assoc, renBlk, renSegs, renSg]
          · rintro ⟨i, th⟩ ⟨hi, hth⟩
            simp only at hi hth
            have hTI := stT_TI hv.2 hth
            by_cases h : (i : Int) < LL.length
            · have w := wrap_i64s (show i < 2 ^ 62 by omega)
              have hil : i < LL.length := by omega
              have v1 : 0 + i * 1 < LL.length := by omega
              have e1 : (outs 0 1 LL).getD (0 + i * 1) .top = .sl 0 (1 + i) 0 0 (at_ LL i).length 1 := by rw [Nat.zero_add, Nat.mul_one]; exact outs_get hil
              have q1 : (ms1 LL).getD (1 + i) .dead = .lv true [(0, .ints .i64 (at_ LL i).length (at_ LL i))] := ms1_at hil
              have hbad : ¬ okP V (at_ LL (i - 1)) (at_ LL i) i → thirdOk V LL = false := fun hh => by
                have h1 : okT V LL i = false := by unfold okT; exact decide_eq_false hh
                exact thirdOk_none (stT_stop hth (by rw [h1]; rfl)) hil
              have hok : okP V (at_ LL (i - 1)) (at_ LL i) i → okT V LL i = true := fun hh => by unfold okT; exact decide_eq_true hh
              have hlex : 0 < i → (at_ LL (i - 1)).length = 3 := fun h0 => by
                obtain ⟨j, rfl⟩ : ∃ j, i = j + 1 := ⟨i - 1, by omega⟩
                rw [Nat.add_sub_cancel]
                unfold stT at hth
                cases hj : stT V LL j with
                | none => rw [hj] at hth; cases hth
                | some th0 =>
                  rw [hj] at hth
                  simp only at hth
                  split at hth
                  · rename_i hc
                    simp only [Bool.and_eq_true] at hc
                    exact (okT_iff.1 hc.1).1
                  · cases hth
              generalize hxs : at_ LL i = xs at e1 q1 hbad hok
              by_cases c1 : xs.length = 3
              · rw [c1] at e1 q1
                by_cases c2 : xs.getD 0 0 < 0
                · have hno := hbad fun hh => by have := hh.2.1; omega
                  simp only [absE, absL, absF, reduceCtorEq, ↓reduceIte, Nat.reduceEqDiff, Nat.reduceAdd, Nat.reduceLT, Nat.reduceMul, Nat.reduceSub, Nat.reduceLeDiff, Int.reduceLT, Int.reduceLE, Int.reduceEq, Option.isSome_some, implies_true, false_implies, Prod.mk.injEq, ne_eq, not_false_eq_true, not_true_eq_false, ge_iff_le, gt_iff_lt, Int.toNat_natCast, Int.reduceToNat, Int.cast_ofNat_Int, Int.natCast_nonneg, h, v1, e1, g0, q1, c2, Try.results171]
                  repeat first | refine And.intro (by decide +kernel) ?_ | refine And.intro (by omega) ?_
                  exact ⟨[], by simp, by simp, tl th, tl_len, fun hh => absurd hh (by simp [hno]), by simp [renV, renVs, renSegs, renSg, hno], hfin, by simp⟩
                · by_cases c3 : xs.getD 1 0 ≤ xs.getD 0 0
                  · have hno := hbad fun hh => by have := hh.2.2.1; omega
                    simp only [absE, absL, absF, reduceCtorEq, ↓reduceIte, Nat.reduceEqDiff, Nat.reduceAdd, Nat.reduceLT, Nat.reduceMul, Nat.reduceSub, Nat.reduceLeDiff, Int.reduceLT, Int.reduceLE, Int.reduceEq, Option.isSome_some, implies_true, false_implies, Prod.mk.injEq, ne_eq, not_false_eq_true, not_true_eq_false, ge_iff_le, gt_iff_lt, Int.toNat_natCast, Int.reduceToNat, Int.cast_ofNat_Int, Int.natCast_nonneg, h, v1, e1, g0, q1, c2, c3, Try.results171]
                    repeat first | refine And.intro (by decide +kernel) ?_ | refine And.intro (by omega) ?_
                    exact ⟨[], by simp, by simp, tl th, tl_len, fun hh => absurd hh (by simp [hno]), by simp [renV, renVs, renSegs, renSg, hno], hfin, by simp⟩
                  · by_cases c4 : xs.getD 2 0 ≤ xs.getD 1 0
                    · have hno := hbad fun hh => by have := hh.2.2.2.1; omega
                      simp only [absE, absL, absF, reduceCtorEq, ↓reduceIte, Nat.reduceEqDiff, Nat.reduceAdd, Nat.reduceLT, Nat.reduceMul, Nat.reduceSub, Nat.reduceLeDiff, Int.reduceLT, Int.reduceLE, Int.reduceEq, Option.isSome_some, implies_true, false_implies, Prod.mk.injEq, ne_eq, not_false_eq_true, not_true_eq_false, ge_iff_le, gt_iff_lt, Int.toNat_natCast, Int.reduceToNat, Int.cast_ofNat_Int, Int.natCast_nonneg, h, v1, e1, g0, q1, c2, c3, c4, Try.results171]
                      repeat first | refine And.intro (by decide +kernel) ?_ | refine And.intro (by omega) ?_
                      exact ⟨[], by simp, by simp, tl th, tl_len, fun hh => absurd hh (by simp [hno]), by simp [renV, renVs, renSegs, renSg, hno], hfin, by simp⟩
                    · by_cases c5 : (V : Int) ≤ xs.getD 2 0
                      · have hno := hbad fun hh => by have := hh.2.2.2.2.1; omega
                        simp only [absE, absL, absF, reduceCtorEq, ↓reduceIte, Nat.reduceEqDiff, Nat.reduceAdd, Nat.reduceLT, Nat.reduceMul, Nat.reduceSub, Nat.reduceLeDiff, Int.reduceLT, Int.reduceLE, Int.reduceEq, Option.isSome_some, implies_true, false_implies, Prod.mk.injEq, ne_eq, not_false_eq_true, not_true_eq_false, ge_iff_le, gt_iff_lt, Int.toNat_natCast, Int.reduceToNat, Int.cast_ofNat_Int, Int.natCast_nonneg, h, v1, e1, g0, q1, c2, c3, c4, c5, Try.results171]
                        repeat first | refine And.intro (by decide +kernel) ?_ | refine And.intro (by omega) ?_
                        exact ⟨[], by simp, by simp, tl th, tl_len, fun hh => absurd hh (by simp [hno]), by simp [renV, renVs, renSegs, renSg, hno], hfin, by simp⟩
                      · by_cases h0 : 0 < i
                        · have g00 : (0 : Int) < i := by omega
                          have wi : IntKind.i64.wrap ((i : Int) - 1) = ((i - 1 : Nat) : Int) := by rw [wrap_i64 (by omega) (by omega)]; omega
                          have hil1 : i - 1 < LL.length := by omega
                          have v2 : 0 + (i - 1) * 1 < LL.length := by omega
                          have z2 : (0 : Int) ≤ ((i - 1 : Nat) : Int) := by omega
                          have l2 : ((i - 1 : Nat) : Int) < LL.length := by omega
                          have e2 : (outs 0 1 LL).getD (0 + (i - 1) * 1) .top = .sl 0 (1 + (i - 1)) 0 0 (at_ LL (i - 1)).length 1 := by rw [Nat.zero_add, Nat.mul_one]; exact outs_get hil1
                          have q2 : (ms1 LL).getD (1 + (i - 1)) .dead = .lv true [(0, .ints .i64 (at_ LL (i - 1)).length (at_ LL (i - 1)))] := ms1_at hil1
                          have hp3 := hlex h0
                          generalize hps : at_ LL (i - 1) = ps at e2 q2 hp3 hbad hok
                          rw [hp3] at e2 q2
                          simp only [absE, absL, absF, reduceCtorEq, ↓reduceIte, Nat.reduceEqDiff, Nat.reduceAdd, Nat.reduceLT, Nat.reduceMul, Nat.reduceSub, Nat.reduceLeDiff, Int.reduceLT, Int.reduceLE, Int.reduceEq, Option.isSome_some, implies_true, false_implies, Prod.mk.injEq, ne_eq, not_false_eq_true, not_true_eq_false, ge_iff_le, gt_iff_lt, Int.toNat_natCast, Int.reduceToNat, Int.cast_ofNat_Int, Int.natCast_nonneg, h, v1, e1, g0, q1, c2, c3, c4, c5, g00, wi, v2, z2, l2, e2]
                          refine CallsX.args [(0, 1 + (i - 1)), (0, 1 + i)] (ahead_ok ps xs hp3 c1) ?_ ?_ ?_ ?_ ?_
                          · simp; omega
                          · intro p hp
                            simp at hp
                            rcases hp with rfl | rfl
                            · show (ms1 LL).getD _ .dead ≠ .dead; rw [q2]; simp
                            · show (ms1 LL).getD _ .dead ≠ .dead; rw [q1]; simp
                          · have hne : ¬ i - 1 = i := by omega
                            simp [renVs, renV, renAt, renIn, idx, hne]
                          · show [renBlk _ ((ms1 LL).getD (1 + (i - 1)) .dead), renBlk _ ((ms1 LL).getD (1 + i) .dead)] = _
                            rw [q1, q2]; rfl
                          · have u : ∀ loc n, Mem.upd ⟨ms1 LL, loc, n⟩ [((0, 1 + (i - 1)), .lv true [(0, .ints .i64 3 ps)]), ((0, 1 + i), .lv true [(0, .ints .i64 3 xs)])] = ⟨ms1 LL, loc, n⟩ := fun loc n => by
                              show ((Mem.mk (ms1 LL) loc n).put (0, 1 + (i - 1)) (.lv true [(0, .ints .i64 3 ps)])).put (0, 1 + i) (.lv true [(0, .ints .i64 3 xs)]) = _
                              rw [put_same (m := ⟨ms1 LL, loc, n⟩) q2, put_same (m := ⟨ms1 LL, loc, n⟩) q1]
                            simp only [ibk, zipUps, newUps, List.append_nil, renBlk, renSegs, renSg, u]
                            by_cases c6 : lex3 ps xs
                            · have c6d : decide (lex3 ps xs) = true := decide_eq_true c6
                              have HOKP : okP V ps xs i := ⟨c1, by omega, by omega, by omega, by omega, fun _ => c6⟩
                              have hokT : okT V LL i = true := hok HOKP
                              obtain ⟨p1, p2, p3, p4, pts⟩ := okP_pts hv.2 HOKP
                              have l9 : ∀ j, j < 3 → tr3 xs j < 9 := fun j hj => by
                                match j, hj with
                                | 0, _ => omega
                                | 1, _ => omega
                                | 2, _ => omega
                              simp only [absE, absL, absF, reduceCtorEq, ↓reduceIte, Nat.reduceEqDiff, Nat.reduceAdd, Nat.reduceLT, Nat.reduceMul, Nat.reduceSub, Nat.reduceLeDiff, Int.reduceLT, Int.reduceLE, Int.reduceEq, Option.isSome_some, implies_true, false_implies, Prod.mk.injEq, ne_eq, not_false_eq_true, not_true_eq_false, ge_iff_le, gt_iff_lt, Int.toNat_natCast, Int.reduceToNat, Int.cast_ofNat_Int, Int.natCast_nonneg, c6d]
                              refine And.intro (chk_x (l := (List.range 43).reverse) rfl (by decide +kernel)) ?_
                              refine awpLoop.intro (fun x : Nat => [(0, .i .i64 V), (1, .ref (.sl 0 0 0 0 LL.length 1)), (4, .ref (.ptr 1 0 0 0)), (6, .ref (.ptr 4 0 0 0)), (9, .i .i64 i), (10, .ref (.sl 0 (1 + i) 0 0 3 1)), (11, .i .i64 x)]) (fun x => ⟨ms1 LL, [((1, 0), .lv true ([(0, .ints .i64 81 (List.replicate 81 0))])), ((4, 0), .lv true ([(0, .ints .i64 81 (tl (pOut th (tr3 xs) x)))]))], 300⟩)
                                (fun x => x ≤ 3 ∧ ∀ x', x' < x → ∀ y, y < 3 → x' ≠ y → th (tr3 xs x') (tr3 xs y) < 0) (fun x => 3 - x) 0 ⟨by omega, fun x' hx' => absurd hx' (by omega)⟩ ⟨[((1,0),(1,0)), ((4,0),(4,0))], rfl, ?_, ?_⟩ ?_
                              · simp [wkEnv, lk, renV, renAt, renTo]
                              · simp only [wkMem, hst]; simp [wkLoc, Mem.get, assoc, renBlk, renSegs, renSg, pOut]
                              · rintro x ⟨hx, hqx⟩
                                by_cases hx3 : (x : Int) < 3
                                · have wx := wrap_i64s (show x < 2 ^ 62 by omega)
                                  simp only [absE, absL, absF, reduceCtorEq, ↓reduceIte, Nat.reduceEqDiff, Nat.reduceAdd, Nat.reduceLT, Nat.reduceMul, Nat.reduceSub, Nat.reduceLeDiff, Int.reduceLT, Int.reduceLE, Int.reduceEq, Option.isSome_some, implies_true, false_implies, Prod.mk.injEq, ne_eq, not_false_eq_true, not_true_eq_false, ge_iff_le, gt_iff_lt, Int.toNat_natCast, Int.reduceToNat, Int.cast_ofNat_Int, Int.natCast_nonneg, hx3]
                                  refine awpLoop.intro (fun y : Nat => [(0, .i .i64 V), (1, .ref (.sl 0 0 0 0 LL.length 1)), (4, .ref (.ptr 1 0 0 0)), (6, .ref (.ptr 4 0 0 0)), (9, .i .i64 i), (10, .ref (.sl 0 (1 + i) 0 0 3 1)), (11, .i .i64 x), (12, .i .i64 y)]) (fun y => ⟨ms1 LL, [((1, 0), .lv true ([(0, .ints .i64 81 (List.replicate 81 0))])), ((4, 0), .lv true ([(0, .ints .i64 81 (tl (pIn (pOut th (tr3 xs) x) (tr3 xs) x y)))]))], 400⟩)
                                    (fun y => y ≤ 3 ∧ ∀ y', y' < y → x ≠ y' → th (tr3 xs x) (tr3 xs y') < 0) (fun y => 3 - y) 0 ⟨by omega, fun y' hy' => absurd hy' (by omega)⟩ ⟨[((1,0),(1,0)), ((4,0),(4,0))], rfl, ?_, ?_⟩ ?_
                                  · simp [wkEnv, lk, renV, renAt, renTo]
                                  · simp only [wkMem, hst]; simp [wkLoc, Mem.get, assoc, renBlk, renSegs, renSg, pIn]
                                  · rintro y ⟨hy, hqy⟩
                                    by_cases hy3 : (y : Int) < 3
                                    · have wy := wrap_i64s (show y < 2 ^ 62 by omega)
                                      by_cases exy : x = y
                                      · have exi : (x : Int) = (y : Int) := by omega
                                        have es : pIn (pOut th (tr3 xs) x) (tr3 xs) x (y + 1) = pIn (pOut th (tr3 xs) x) (tr3 xs) x y := by rw [pIn, if_pos exy]
                                        simp only [absE, absL, absF, reduceCtorEq, ↓reduceIte, Nat.reduceEqDiff, Nat.reduceAdd, Nat.reduceLT, Nat.reduceMul, Nat.reduceSub, Nat.reduceLeDiff, Int.reduceLT, Int.reduceLE, Int.reduceEq, Option.isSome_some, implies_true, false_implies, Prod.mk.injEq, ne_eq, not_false_eq_true, not_true_eq_false, ge_iff_le, gt_iff_lt, Int.toNat_natCast, Int.reduceToNat, Int.cast_ofNat_Int, Int.natCast_nonneg, hy3, exi]
                                        refine LoopNext.intro (y + 1) ⟨by omega, fun y' hy' hne => ?_⟩ (by omega) ⟨[((1,0),(1,0)), ((4,0),(4,0))], rfl, ?_, ?_⟩
                                        · by_cases e : y' = y
                                          · subst e; exact absurd exy hne
                                          · exact hqy y' (by omega) hne
                                        · simp [wkEnv, lk, renV, renAt, renTo, wy, exi]
                                        · simp only [wkMem, hst, es]; simp [wkLoc, Mem.get, assoc, renBlk, renSegs, renSg]
                                      · have exi : ¬(x : Int) = (y : Int) := by omega
                                        have ex : xs.getD (0 + x * 1) 0 = ((tr3 xs x : Nat) : Int) := by rw [Nat.zero_add, Nat.mul_one]; exact pts x (by omega)
                                        have ey : xs.getD (0 + y * 1) 0 = ((tr3 xs y : Nat) : Int) := by rw [Nat.zero_add, Nat.mul_one]; exact pts y (by omega)
                                        have ez : xs.getD (0 + (3 - x - y) * 1) 0 = ((tr3 xs (3 - x - y) : Nat) : Int) := by rw [Nat.zero_add, Nat.mul_one]; exact pts _ (by omega)
                                        have vx : 0 + x * 1 < 3 := by omega
                                        have vy : 0 + y * 1 < 3 := by omega
                                        have vz : 0 + (3 - x - y) * 1 < 3 := by omega
                                        have lx := l9 x (by omega)
                                        have ly := l9 y (by omega)
                                        have lxi : (tr3 xs x : Int) < 9 := by omega
                                        have lyi : (tr3 xs y : Int) < 9 := by omega
                                        have us : 0 + tr3 xs x * 9 + tr3 xs y * 1 + 1 ≤ 81 := by omega
                                        have uv : 0 + tr3 xs x * 9 + tr3 xs y * 1 < 81 := by omega
                                        have gc : (tl (pIn (pOut th (tr3 xs) x) (tr3 xs) x y)).getD (0 + tr3 xs x * 9 + tr3 xs y * 1) 0 = th (tr3 xs x) (tr3 xs y) := by
                                          rw [show 0 + tr3 xs x * 9 + tr3 xs y * 1 = tr3 xs x * 9 + tr3 xs y by omega, tl_get lx ly, stage_get p1 p2 (by omega) (by omega)]
                                        have wz1 : IntKind.i64.wrap (3 - (x : Int)) = ((3 - x : Nat) : Int) := by rw [wrap_i64 (by omega) (by omega)]; omega
                                        have wz2 : IntKind.i64.wrap (((3 - x : Nat) : Int) - (y : Int)) = ((3 - x - y : Nat) : Int) := by rw [wrap_i64 (by omega) (by omega)]; omega
                                        have zi : ((3 - x - y : Nat) : Int) < 3 := by omega
                                        have z0 : (0 : Int) ≤ ((3 - x - y : Nat) : Int) := by omega
                                        have es : (tl (pIn (pOut th (tr3 xs) x) (tr3 xs) x y)).set (0 + tr3 xs x * 9 + tr3 xs y * 1) ((tr3 xs (3 - x - y) : Nat) : Int) = tl (pIn (pOut th (tr3 xs) x) (tr3 xs) x (y + 1)) := by
                                          rw [show 0 + tr3 xs x * 9 + tr3 xs y * 1 = tr3 xs x * 9 + tr3 xs y by omega, tl_set lx ly, pIn, if_neg exy]
                                        by_cases hz : 0 ≤ th (tr3 xs x) (tr3 xs y)
                                        · have hno : thirdOk V LL = false := by
                                            refine thirdOk_none (stT_stop hth ?_) hil
                                            rw [hxs, Bool.and_eq_false_iff]
                                            refine .inr ?_
                                            cases hf : freeT th (tr3 xs 0) (tr3 xs 1) (tr3 xs 2)
                                            · rfl
                                            · have := (free_pairs hTI (t := tr3 xs)).1 hf x y (by omega) (by omega) exy; omega
                                          simp only [absE, absL, absF, reduceCtorEq, ↓reduceIte, Nat.reduceEqDiff, Nat.reduceAdd, Nat.reduceLT, Nat.reduceMul, Nat.reduceSub, Nat.reduceLeDiff, Int.reduceLT, Int.reduceLE, Int.reduceEq, Option.isSome_some, implies_true, false_implies, Prod.mk.injEq, ne_eq, not_false_eq_true, not_true_eq_false, ge_iff_le, gt_iff_lt, Int.toNat_natCast, Int.reduceToNat, Int.cast_ofNat_Int, Int.natCast_nonneg, hx3, hy3, exi, q1, ex, ey, vx, vy, lxi, lyi, uv, gc, hz]
                                          repeat first | refine And.intro (by decide +kernel) ?_ | refine And.intro (by omega) ?_
                                          simp only [absE, absL, absF, reduceCtorEq, ↓reduceIte, Nat.reduceEqDiff, Nat.reduceAdd, Nat.reduceLT, Nat.reduceMul, Nat.reduceSub, Nat.reduceLeDiff, Int.reduceLT, Int.reduceLE, Int.reduceEq, Option.isSome_some, implies_true, false_implies, Prod.mk.injEq, ne_eq, not_false_eq_true, not_true_eq_false, ge_iff_le, gt_iff_lt, Int.toNat_natCast, Int.reduceToNat, Int.cast_ofNat_Int, Int.natCast_nonneg, hx3, hy3, Try.results171]
                                          repeat first | refine And.intro (by decide +kernel) ?_ | refine And.intro (by omega) ?_
                                          exact ⟨[], by simp, by simp, tl (pIn (pOut th (tr3 xs) x) (tr3 xs) x y), tl_len, fun hh => absurd hh (by simp [hno]), by simp [renV, renVs, renSegs, renSg, hno], hfin, by simp⟩
                                        · simp only [absE, absL, absF, reduceCtorEq, ↓reduceIte, Nat.reduceEqDiff, Nat.reduceAdd, Nat.reduceLT, Nat.reduceMul, Nat.reduceSub, Nat.reduceLeDiff, Int.reduceLT, Int.reduceLE, Int.reduceEq, Option.isSome_some, implies_true, false_implies, Prod.mk.injEq, ne_eq, not_false_eq_true, not_true_eq_false, ge_iff_le, gt_iff_lt, Int.toNat_natCast, Int.reduceToNat, Int.cast_ofNat_Int, Int.natCast_nonneg, hx3, hy3, exi, q1, ex, ey, vx, vy, lxi, lyi, uv, us, gc, hz]
                                          repeat first | refine And.intro (by decide +kernel) ?_ | refine And.intro (by omega) ?_
                                          simp only [absE, absL, absF, reduceCtorEq, ↓reduceIte, Nat.reduceEqDiff, Nat.reduceAdd, Nat.reduceLT, Nat.reduceMul, Nat.reduceSub, Nat.reduceLeDiff, Int.reduceLT, Int.reduceLE, Int.reduceEq, Option.isSome_some, implies_true, false_implies, Prod.mk.injEq, ne_eq, not_false_eq_true, not_true_eq_false, ge_iff_le, gt_iff_lt, Int.toNat_natCast, Int.reduceToNat, Int.cast_ofNat_Int, Int.natCast_nonneg, hx3, hy3, exi, q1, ex, ey, ez, vx, vy, vz, lxi, lyi, uv, us, gc, hz, wz1, wz2, zi, z0, es]
                                          repeat first | refine And.intro (by decide +kernel) ?_ | refine And.intro (by omega) ?_
                                          refine LoopNext.intro (y + 1) ⟨by omega, fun y' hy' hne => ?_⟩ (by omega) ⟨[((1,0),(1,0)), ((4,0),(4,0))], rfl, ?_, ?_⟩
                                          · by_cases e : y' = y
                                            · subst e; omega
                                            · exact hqy y' (by omega) hne
                                          · simp [wkEnv, lk, renV, renAt, renTo, wy]
                                          · simp only [wkMem, hst]; simp [wkLoc, Mem.get, assoc, renBlk, renSegs, renSg]
                                    · have hy3' : y = 3 := by omega
                                      subst hy3'
                                      simp only [absE, absL, absF, reduceCtorEq, ↓reduceIte, Nat.reduceEqDiff, Nat.reduceAdd, Nat.reduceLT, Nat.reduceMul, Nat.reduceSub, Nat.reduceLeDiff, Int.reduceLT, Int.reduceLE, Int.reduceEq, Option.isSome_some, implies_true, false_implies, Prod.mk.injEq, ne_eq, not_false_eq_true, not_true_eq_false, ge_iff_le, gt_iff_lt, Int.toNat_natCast, Int.reduceToNat, Int.cast_ofNat_Int, Int.natCast_nonneg, wx]
                                      refine LoopNext.intro (x + 1) ⟨by omega, fun x' hx' y hy hne => ?_⟩ (by omega) ⟨[((1,0),(1,0)), ((4,0),(4,0))], rfl, ?_, ?_⟩
                                      · by_cases e : x' = x
                                        · subst e; exact hqy y hy hne
                                        · exact hqx x' (by omega) y hy hne
                                      · simp [wkEnv, lk, renV, renAt, renTo]
                                      · simp only [wkMem, hst]; simp [wkLoc, Mem.get, assoc, renBlk, renSegs, renSg, pOut]
                                · have hx3' : x = 3 := by omega
                                  subst hx3'
                                  have hfree : freeT th (tr3 xs 0) (tr3 xs 1) (tr3 xs 2) = true := (free_pairs hTI (t := tr3 xs)).2 fun x y hx hy hne => hqx x hx y hy hne
                                  have hnx := stT_next hth hokT (by rw [hxs]; exact hfree)
                                  rw [hxs, ← pOut_put] at hnx
                                  simp only [absE, absL, absF, reduceCtorEq, ↓reduceIte, Nat.reduceEqDiff, Nat.reduceAdd, Nat.reduceLT, Nat.reduceMul, Nat.reduceSub, Nat.reduceLeDiff, Int.reduceLT, Int.reduceLE, Int.reduceEq, Option.isSome_some, implies_true, false_implies, Prod.mk.injEq, ne_eq, not_false_eq_true, not_true_eq_false, ge_iff_le, gt_iff_lt, Int.toNat_natCast, Int.reduceToNat, Int.cast_ofNat_Int, Int.natCast_nonneg]
                                  refine LoopNext.intro (i + 1, pOut th (tr3 xs) 3) ⟨by simp only; omega, hnx⟩ (by simp only; omega) ⟨[((1,0),(1,0)), ((4,0),(4,0))], rfl, ?_, ?_⟩
                                  · simp [wkEnv, lk, renV, renAt, renTo, w]
                                  · simp only [wkMem, hst]; simp [wkLoc, Mem.get, assoc, renBlk, renSegs, renSg]
                            · have hno := hbad fun hh => c6 (hh.2.2.2.2.2 h0)
                              have c6d : decide (lex3 ps xs) = false := decide_eq_false c6
                              simp only [absE, absL, absF, reduceCtorEq, ↓reduceIte, Nat.reduceEqDiff, Nat.reduceAdd, Nat.reduceLT, Nat.reduceMul, Nat.reduceSub, Nat.reduceLeDiff, Int.reduceLT, Int.reduceLE, Int.reduceEq, Option.isSome_some, implies_true, false_implies, Prod.mk.injEq, ne_eq, not_false_eq_true, not_true_eq_false, ge_iff_le, gt_iff_lt, Int.toNat_natCast, Int.reduceToNat, Int.cast_ofNat_Int, Int.natCast_nonneg, c6d]
                              refine And.intro (chk_x (l := (List.range 43).reverse) rfl (by decide +kernel)) ?_
                              simp only [absE, absL, absF, reduceCtorEq, ↓reduceIte, Nat.reduceEqDiff, Nat.reduceAdd, Nat.reduceLT, Nat.reduceMul, Nat.reduceSub, Nat.reduceLeDiff, Int.reduceLT, Int.reduceLE, Int.reduceEq, Option.isSome_some, implies_true, false_implies, Prod.mk.injEq, ne_eq, not_false_eq_true, not_true_eq_false, ge_iff_le, gt_iff_lt, Int.toNat_natCast, Int.reduceToNat, Int.cast_ofNat_Int, Int.natCast_nonneg, h, Try.results171]
                              repeat first | refine And.intro (by decide +kernel) ?_ | refine And.intro (by omega) ?_
                              exact ⟨[], by simp, by simp, tl th, tl_len, fun hh => absurd hh (by simp [hno]), by simp [renV, renVs, renSegs, renSg, hno], hfin, by simp⟩
                        · have g00 : ¬(0 : Int) < i := by omega
                          have HOKP : okP V (at_ LL (i - 1)) xs i := ⟨c1, by omega, by omega, by omega, by omega, fun hh => absurd hh h0⟩
                          have hokT : okT V LL i = true := hok HOKP
                          obtain ⟨p1, p2, p3, p4, pts⟩ := okP_pts hv.2 HOKP
                          have l9 : ∀ j, j < 3 → tr3 xs j < 9 := fun j hj => by
                            match j, hj with
                            | 0, _ => omega
                            | 1, _ => omega
                            | 2, _ => omega
                          simp only [absE, absL, absF, reduceCtorEq, ↓reduceIte, Nat.reduceEqDiff, Nat.reduceAdd, Nat.reduceLT, Nat.reduceMul, Nat.reduceSub, Nat.reduceLeDiff, Int.reduceLT, Int.reduceLE, Int.reduceEq, Option.isSome_some, implies_true, false_implies, Prod.mk.injEq, ne_eq, not_false_eq_true, not_true_eq_false, ge_iff_le, gt_iff_lt, Int.toNat_natCast, Int.reduceToNat, Int.cast_ofNat_Int, Int.natCast_nonneg, h, v1, e1, g0, q1, c2, c3, c4, c5, g00]
                          repeat first | refine And.intro (by decide +kernel) ?_ | refine And.intro (by omega) ?_
                          refine awpLoop.intro (fun x : Nat => [(0, .i .i64 V), (1, .ref (.sl 0 0 0 0 LL.length 1)), (4, .ref (.ptr 1 0 0 0)), (6, .ref (.ptr 4 0 0 0)), (9, .i .i64 i), (10, .ref (.sl 0 (1 + i) 0 0 3 1)), (11, .i .i64 x)]) (fun x => ⟨ms1 LL, [((1, 0), .lv true ([(0, .ints .i64 81 (List.replicate 81 0))])), ((4, 0), .lv true ([(0, .ints .i64 81 (tl (pOut th (tr3 xs) x)))]))], 300⟩)
                            (fun x => x ≤ 3 ∧ ∀ x', x' < x → ∀ y, y < 3 → x' ≠ y → th (tr3 xs x') (tr3 xs y) < 0) (fun x => 3 - x) 0 ⟨by omega, fun x' hx' => absurd hx' (by omega)⟩ ⟨[((1,0),(1,0)), ((4,0),(4,0))], rfl, ?_, ?_⟩ ?_
                          · simp [wkEnv, lk, renV, renAt, renTo]
                          · simp only [wkMem, hst]; simp [wkLoc, Mem.get, assoc, renBlk, renSegs, renSg, pOut]
                          · rintro x ⟨hx, hqx⟩
                            by_cases hx3 : (x : Int) < 3
                            · have wx := wrap_i64s (show x < 2 ^ 62 by omega)
                              simp only [absE, absL, absF, reduceCtorEq, ↓reduceIte, Nat.reduceEqDiff, Nat.reduceAdd, Nat.reduceLT, Nat.reduceMul, Nat.reduceSub, Nat.reduceLeDiff, Int.reduceLT, Int.reduceLE, Int.reduceEq, Option.isSome_some, implies_true, false_implies, Prod.mk.injEq, ne_eq, not_false_eq_true, not_true_eq_false, ge_iff_le, gt_iff_lt, Int.toNat_natCast, Int.reduceToNat, Int.cast_ofNat_Int, Int.natCast_nonneg, hx3]
                              refine awpLoop.intro (fun y : Nat => [(0, .i .i64 V), (1, .ref (.sl 0 0 0 0 LL.length 1)), (4, .ref (.ptr 1 0 0 0)), (6, .ref (.ptr 4 0 0 0)), (9, .i .i64 i), (10, .ref (.sl 0 (1 + i) 0 0 3 1)), (11, .i .i64 x), (12, .i .i64 y)]) (fun y => ⟨ms1 LL, [((1, 0), .lv true ([(0, .ints .i64 81 (List.replicate 81 0))])), ((4, 0), .lv true ([(0, .ints .i64 81 (tl (pIn (pOut th (tr3 xs) x) (tr3 xs) x y)))]))], 400⟩)
                                (fun y => y ≤ 3 ∧ ∀ y', y' < y → x ≠ y' → th (tr3 xs x) (tr3 xs y') < 0) (fun y => 3 - y) 0 ⟨by omega, fun y' hy' => absurd hy' (by omega)⟩ ⟨[((1,0),(1,0)), ((4,0),(4,0))], rfl, ?_, ?_⟩ ?_
                              · simp [wkEnv, lk, renV, renAt, renTo]
                              · simp only [wkMem, hst]; simp [wkLoc, Mem.get, assoc, renBlk, renSegs, renSg, pIn]
                              · rintro y ⟨hy, hqy⟩
                                by_cases hy3 : (y : Int) < 3
                                · have wy := wrap_i64s (show y < 2 ^ 62 by omega)
                                  by_cases exy : x = y
                                  · have exi : (x : Int) = (y : Int) := by omega
                                    have es : pIn (pOut th (tr3 xs) x) (tr3 xs) x (y + 1) = pIn (pOut th (tr3 xs) x) (tr3 xs) x y := by rw [pIn, if_pos exy]
                                    simp only [absE, absL, absF, reduceCtorEq, ↓reduceIte, Nat.reduceEqDiff, Nat.reduceAdd, Nat.reduceLT, Nat.reduceMul, Nat.reduceSub, Nat.reduceLeDiff, Int.reduceLT, Int.reduceLE, Int.reduceEq, Option.isSome_some, implies_true, false_implies, Prod.mk.injEq, ne_eq, not_false_eq_true, not_true_eq_false, ge_iff_le, gt_iff_lt, Int.toNat_natCast, Int.reduceToNat, Int.cast_ofNat_Int, Int.natCast_nonneg, hy3, exi]
                                    refine LoopNext.intro (y + 1) ⟨by omega, fun y' hy' hne => ?_⟩ (by omega) ⟨[((1,0),(1,0)), ((4,0),(4,0))], rfl, ?_, ?_⟩
                                    · by_cases e : y' = y
                                      · subst e; exact absurd exy hne
                                      · exact hqy y' (by omega) hne
                                    · simp [wkEnv, lk, renV, renAt, renTo, wy, exi]
                                    · simp only [wkMem, hst, es]; simp [wkLoc, Mem.get, assoc, renBlk, renSegs, renSg]
                                  · have exi : ¬(x : Int) = (y : Int) := by omega
                                    have ex : xs.getD (0 + x * 1) 0 = ((tr3 xs x : Nat) : Int) := by rw [Nat.zero_add, Nat.mul_one]; exact pts x (by omega)
                                    have ey : xs.getD (0 + y * 1) 0 = ((tr3 xs y : Nat) : Int) := by rw [Nat.zero_add, Nat.mul_one]; exact pts y (by omega)
                                    have ez : xs.getD (0 + (3 - x - y) * 1) 0 = ((tr3 xs (3 - x - y) : Nat) : Int) := by rw [Nat.zero_add, Nat.mul_one]; exact pts _ (by omega)
                                    have vx : 0 + x * 1 < 3 := by omega
                                    have vy : 0 + y * 1 < 3 := by omega
                                    have vz : 0 + (3 - x - y) * 1 < 3 := by omega
                                    have lx := l9 x (by omega)
                                    have ly := l9 y (by omega)
                                    have lxi : (tr3 xs x : Int) < 9 := by omega
                                    have lyi : (tr3 xs y : Int) < 9 := by omega
                                    have us : 0 + tr3 xs x * 9 + tr3 xs y * 1 + 1 ≤ 81 := by omega
                                    have uv : 0 + tr3 xs x * 9 + tr3 xs y * 1 < 81 := by omega
                                    have gc : (tl (pIn (pOut th (tr3 xs) x) (tr3 xs) x y)).getD (0 + tr3 xs x * 9 + tr3 xs y * 1) 0 = th (tr3 xs x) (tr3 xs y) := by
                                      rw [show 0 + tr3 xs x * 9 + tr3 xs y * 1 = tr3 xs x * 9 + tr3 xs y by omega, tl_get lx ly, stage_get p1 p2 (by omega) (by omega)]
                                    have wz1 : IntKind.i64.wrap (3 - (x : Int)) = ((3 - x : Nat) : Int) := by rw [wrap_i64 (by omega) (by omega)]; omega
                                    have wz2 : IntKind.i64.wrap (((3 - x : Nat) : Int) - (y : Int)) = ((3 - x - y : Nat) : Int) := by rw [wrap_i64 (by omega) (by omega)]; omega
                                    have zi : ((3 - x - y : Nat) : Int) < 3 := by omega
                                    have z0 : (0 : Int) ≤ ((3 - x - y : Nat) : Int) := by omega
                                    have es : (tl (pIn (pOut th (tr3 xs) x) (tr3 xs) x y)).set (0 + tr3 xs x * 9 + tr3 xs y * 1) ((tr3 xs (3 - x - y) : Nat) : Int) = tl (pIn (pOut th (tr3 xs) x) (tr3 xs) x (y + 1)) := by
                                      rw [show 0 + tr3 xs x * 9 + tr3 xs y * 1 = tr3 xs x * 9 + tr3 xs y by omega, tl_set lx ly, pIn, if_neg exy]
                                    by_cases hz : 0 ≤ th (tr3 xs x) (tr3 xs y)
                                    · have hno : thirdOk V LL = false := by
                                        refine thirdOk_none (stT_stop hth ?_) hil
                                        rw [hxs, Bool.and_eq_false_iff]
                                        refine .inr ?_
                                        cases hf : freeT th (tr3 xs 0) (tr3 xs 1) (tr3 xs 2)
                                        · rfl
                                        · have := (free_pairs hTI (t := tr3 xs)).1 hf x y (by omega) (by omega) exy; omega
                                      simp only [absE, absL, absF, reduceCtorEq, ↓reduceIte, Nat.reduceEqDiff, Nat.reduceAdd, Nat.reduceLT, Nat.reduceMul, Nat.reduceSub, Nat.reduceLeDiff, Int.reduceLT, Int.reduceLE, Int.reduceEq, Option.isSome_some, implies_true, false_implies, Prod.mk.injEq, ne_eq, not_false_eq_true, not_true_eq_false, ge_iff_le, gt_iff_lt, Int.toNat_natCast, Int.reduceToNat, Int.cast_ofNat_Int, Int.natCast_nonneg, hx3, hy3, exi, q1, ex, ey, vx, vy, lxi, lyi, uv, gc, hz]
                                      repeat first | refine And.intro (by decide +kernel) ?_ | refine And.intro (by omega) ?_
                                      simp only [absE, absL, absF, reduceCtorEq, ↓reduceIte, Nat.reduceEqDiff, Nat.reduceAdd, Nat.reduceLT, Nat.reduceMul, Nat.reduceSub, Nat.reduceLeDiff, Int.reduceLT, Int.reduceLE, Int.reduceEq, Option.isSome_some, implies_true, false_implies, Prod.mk.injEq, ne_eq, not_false_eq_true, not_true_eq_false, ge_iff_le, gt_iff_lt, Int.toNat_natCast, Int.reduceToNat, Int.cast_ofNat_Int, Int.natCast_nonneg, hx3, hy3, Try.results171]
                                      repeat first | refine And.intro (by decide +kernel) ?_ | refine And.intro (by omega) ?_
                                      exact ⟨[], by simp, by simp, tl (pIn (pOut th (tr3 xs) x) (tr3 xs) x y), tl_len, fun hh => absurd hh (by simp [hno]), by simp [renV, renVs, renSegs, renSg, hno], hfin, by simp⟩
                                    · simp only [absE, absL, absF, reduceCtorEq, ↓reduceIte, Nat.reduceEqDiff, Nat.reduceAdd, Nat.reduceLT, Nat.reduceMul, Nat.reduceSub, Nat.reduceLeDiff, Int.reduceLT, Int.reduceLE, Int.reduceEq, Option.isSome_some, implies_true, false_implies, Prod.mk.injEq, ne_eq, not_false_eq_true, not_true_eq_false, ge_iff_le, gt_iff_lt, Int.toNat_natCast, Int.reduceToNat, Int.cast_ofNat_Int, Int.natCast_nonneg, hx3, hy3, exi, q1, ex, ey, vx, vy, lxi, lyi, uv, us, gc, hz]
                                      repeat first | refine And.intro (by decide +kernel) ?_ | refine And.intro (by omega) ?_
                                      simp only [absE, absL, absF, reduceCtorEq, ↓reduceIte, Nat.reduceEqDiff, Nat.reduceAdd, Nat.reduceLT, Nat.reduceMul, Nat.reduceSub, Nat.reduceLeDiff, Int.reduceLT, Int.reduceLE, Int.reduceEq, Option.isSome_some, implies_true, false_implies, Prod.mk.injEq, ne_eq, not_false_eq_true, not_true_eq_false, ge_iff_le, gt_iff_lt, Int.toNat_natCast, Int.reduceToNat, Int.cast_ofNat_Int, Int.natCast_nonneg, hx3, hy3, exi, q1, ex, ey, ez, vx, vy, vz, lxi, lyi, uv, us, gc, hz, wz1, wz2, zi, z0, es]
                                      repeat first | refine And.intro (by decide +kernel) ?_ | refine And.intro (by omega) ?_
                                      refine LoopNext.intro (y + 1) ⟨by omega, fun y' hy' hne => ?_⟩ (by omega) ⟨[((1,0),(1,0)), ((4,0),(4,0))], rfl, ?_, ?_⟩
                                      · by_cases e : y' = y
                                        · subst e; omega
                                        · exact hqy y' (by omega) hne
                                      · simp [wkEnv, lk, renV, renAt, renTo, wy]
                                      · simp only [wkMem, hst]; simp [wkLoc, Mem.get, assoc, renBlk, renSegs, renSg]
                                · have hy3' : y = 3 := by omega
                                  subst hy3'
                                  simp only [absE, absL, absF, reduceCtorEq, ↓reduceIte, Nat.reduceEqDiff, Nat.reduceAdd, Nat.reduceLT, Nat.reduceMul, Nat.reduceSub, Nat.reduceLeDiff, Int.reduceLT, Int.reduceLE, Int.reduceEq, Option.isSome_some, implies_true, false_implies, Prod.mk.injEq, ne_eq, not_false_eq_true, not_true_eq_false, ge_iff_le, gt_iff_lt, Int.toNat_natCast, Int.reduceToNat, Int.cast_ofNat_Int, Int.natCast_nonneg, wx]
                                  refine LoopNext.intro (x + 1) ⟨by omega, fun x' hx' y hy hne => ?_⟩ (by omega) ⟨[((1,0),(1,0)), ((4,0),(4,0))], rfl, ?_, ?_⟩
                                  · by_cases e : x' = x
                                    · subst e; exact hqy y hy hne
                                    · exact hqx x' (by omega) y hy hne
                                  · simp [wkEnv, lk, renV, renAt, renTo]
                                  · simp only [wkMem, hst]; simp [wkLoc, Mem.get, assoc, renBlk, renSegs, renSg, pOut]
                            · have hx3' : x = 3 := by omega
                              subst hx3'
                              have hfree : freeT th (tr3 xs 0) (tr3 xs 1) (tr3 xs 2) = true := (free_pairs hTI (t := tr3 xs)).2 fun x y hx hy hne => hqx x hx y hy hne
                              have hnx := stT_next hth hokT (by rw [hxs]; exact hfree)
                              rw [hxs, ← pOut_put] at hnx
                              simp only [absE, absL, absF, reduceCtorEq, ↓reduceIte, Nat.reduceEqDiff, Nat.reduceAdd, Nat.reduceLT, Nat.reduceMul, Nat.reduceSub, Nat.reduceLeDiff, Int.reduceLT, Int.reduceLE, Int.reduceEq, Option.isSome_some, implies_true, false_implies, Prod.mk.injEq, ne_eq, not_false_eq_true, not_true_eq_false, ge_iff_le, gt_iff_lt, Int.toNat_natCast, Int.reduceToNat, Int.cast_ofNat_Int, Int.natCast_nonneg]
                              refine LoopNext.intro (i + 1, pOut th (tr3 xs) 3) ⟨by simp only; omega, hnx⟩ (by simp only; omega) ⟨[((1,0),(1,0)), ((4,0),(4,0))], rfl, ?_, ?_⟩
                              · simp [wkEnv, lk, renV, renAt, renTo, w]
                              · simp only [wkMem, hst]; simp [wkLoc, Mem.get, assoc, renBlk, renSegs, renSg]
              · have hno := hbad fun hh => c1 hh.1
                have c1i : ¬((xs.length : Nat) : Int) = 3 := by omega
                simp only [absE, absL, absF, reduceCtorEq, ↓reduceIte, Nat.reduceEqDiff, Nat.reduceAdd, Nat.reduceLT, Nat.reduceMul, Nat.reduceSub, Nat.reduceLeDiff, Int.reduceLT, Int.reduceLE, Int.reduceEq, Option.isSome_some, implies_true, false_implies, Prod.mk.injEq, ne_eq, not_false_eq_true, not_true_eq_false, ge_iff_le, gt_iff_lt, Int.toNat_natCast, Int.reduceToNat, Int.cast_ofNat_Int, Int.natCast_nonneg, h, v1, e1, g0, q1, c1i, Try.results171]
                repeat first | refine And.intro (by decide +kernel) ?_ | refine And.intro (by omega) ?_
                exact ⟨[], by simp, by simp, tl th, tl_len, fun hh => absurd hh (by simp [hno]), by simp [renV, renVs, renSegs, renSg, hno], hfin, by simp⟩
            · have hi' : i = LL.length := by omega
              subst hi'
              obtain ⟨hO, hF⟩ := thirdOk_some hv hth
              simp only [absE, absL, absF, reduceCtorEq, ↓reduceIte, Nat.reduceEqDiff, Nat.reduceAdd, Nat.reduceLT, Nat.reduceMul, Nat.reduceSub, Nat.reduceLeDiff, Int.reduceLT, Int.reduceLE, Int.reduceEq, Option.isSome_some, implies_true, false_implies, Prod.mk.injEq, ne_eq, not_false_eq_true, not_true_eq_false, ge_iff_le, gt_iff_lt, Int.toNat_natCast, Int.reduceToNat, Int.cast_ofNat_Int, Int.natCast_nonneg, h]
              refine awpLoop.intro (fun a : Nat => [(0, .i .i64 V), (1, .ref (.sl 0 0 0 0 LL.length 1)), (4, .ref (.ptr 1 0 0 0)), (6, .ref (.ptr 4 0 0 0)), (13, .i .i64 a)]) (fun a => ⟨ms1 LL, [((1, 0), .lv true ([(0, .ints .i64 81 (List.replicate 81 0))])), ((4, 0), .lv true ([(0, .ints .i64 81 (tl th))]))], 500⟩)
                (fun a => a ≤ V ∧ ∀ x, x < a → ∀ b, b < V → x ≠ b → 0 ≤ th x b) (fun a => V - a) 0 ⟨by omega, fun x hx => absurd hx (by omega)⟩ ⟨[((1,0),(1,0)), ((4,0),(4,0))], rfl, ?_, ?_⟩ ?_
              · simp [wkEnv, lk, renV, renAt, renTo]
              · simp only [wkMem, hst]; simp [wkLoc, Mem.get, assoc, renBlk, renSegs, renSg]
              · rintro a ⟨ha, hqa⟩
                by_cases h : (a : Int) < V
                · have w := wrap_i64s (show a < 2 ^ 62 by omega)
                  simp only [absE, absL, absF, reduceCtorEq, ↓reduceIte, Nat.reduceEqDiff, Nat.reduceAdd, Nat.reduceLT, Nat.reduceMul, Nat.reduceSub, Nat.reduceLeDiff, Int.reduceLT, Int.reduceLE, Int.reduceEq, Option.isSome_some, implies_true, false_implies, Prod.mk.injEq, ne_eq, not_false_eq_true, not_true_eq_false, ge_iff_le, gt_iff_lt, Int.toNat_natCast, Int.reduceToNat, Int.cast_ofNat_Int, Int.natCast_nonneg, h]
                  refine awpLoop.intro (fun b : Nat => [(0, .i .i64 V), (1, .ref (.sl 0 0 0 0 LL.length 1)), (4, .ref (.ptr 1 0 0 0)), (6, .ref (.ptr 4 0 0 0)), (13, .i .i64 a), (14, .i .i64 b)]) (fun b => ⟨ms1 LL, [((1, 0), .lv true ([(0, .ints .i64 81 (List.replicate 81 0))])), ((4, 0), .lv true ([(0, .ints .i64 81 (tl th))]))], 600⟩)
                    (fun b => b ≤ V ∧ ∀ y, y < b → a ≠ y → 0 ≤ th a y) (fun b => V - b) 0 ⟨by omega, fun y hy => absurd hy (by omega)⟩ ⟨[((1,0),(1,0)), ((4,0),(4,0))], rfl, ?_, ?_⟩ ?_
                  · simp [wkEnv, lk, renV, renAt, renTo]
                  · simp only [wkMem, hst]; simp [wkLoc, Mem.get, assoc, renBlk, renSegs, renSg]
                  · rintro b ⟨hb, hqb⟩
                    by_cases h' : (b : Int) < V
                    · have w' := wrap_i64s (show b < 2 ^ 62 by omega)
                      by_cases eab : a = b
                      · have eabi : (a : Int) = (b : Int) := by omega
                        simp only [absE, absL, absF, reduceCtorEq, ↓reduceIte, Nat.reduceEqDiff, Nat.reduceAdd, Nat.reduceLT, Nat.reduceMul, Nat.reduceSub, Nat.reduceLeDiff, Int.reduceLT, Int.reduceLE, Int.reduceEq, Option.isSome_some, implies_true, false_implies, Prod.mk.injEq, ne_eq, not_false_eq_true, not_true_eq_false, ge_iff_le, gt_iff_lt, Int.toNat_natCast, Int.reduceToNat, Int.cast_ofNat_Int, Int.natCast_nonneg, h', eabi]
                        refine LoopNext.intro (b + 1) ⟨by omega, fun y hy hne => ?_⟩ (by omega) ⟨[((1,0),(1,0)), ((4,0),(4,0))], rfl, ?_, ?_⟩
                        · by_cases e : y = b
                          · subst e; exact absurd eab hne
                          · exact hqb y (by omega) hne
                        · simp [wkEnv, lk, renV, renAt, renTo, w', eabi]
                        · simp only [wkMem, hst]; simp [wkLoc, Mem.get, assoc, renBlk, renSegs, renSg]
                      · have eabi : ¬(a : Int) = (b : Int) := by omega
                        have gc : (tl th).getD (0 + a * 9 + b * 1) 0 = th a b := by
                          rw [show 0 + a * 9 + b * 1 = a * 9 + b by omega, tl_get (by omega) (by omega)]
                        have la : (a : Int) < 9 := by omega
                        have lb : (b : Int) < 9 := by omega
                        have uv : 0 + a * 9 + b * 1 < 81 := by omega
                        by_cases hz : th a b < 0
                        · have hno : thirdOk V LL = false := by
                            rw [hO]
                            cases hc : cmplB V th
                            · rfl
                            · have := cmplB_iff.1 hc a (by omega) b (by omega) eab; omega
                          simp only [absE, absL, absF, reduceCtorEq, ↓reduceIte, Nat.reduceEqDiff, Nat.reduceAdd, Nat.reduceLT, Nat.reduceMul, Nat.reduceSub, Nat.reduceLeDiff, Int.reduceLT, Int.reduceLE, Int.reduceEq, Option.isSome_some, implies_true, false_implies, Prod.mk.injEq, ne_eq, not_false_eq_true, not_true_eq_false, ge_iff_le, gt_iff_lt, Int.toNat_natCast, Int.reduceToNat, Int.cast_ofNat_Int, Int.natCast_nonneg, h', eabi, gc, la, lb, uv, hz, Try.results171]
                          repeat first | refine And.intro (by decide +kernel) ?_ | refine And.intro (by omega) ?_
                          exact ⟨[], by simp, by simp, tl th, tl_len, fun hh => absurd hh (by simp [hno]), by simp [renV, renVs, renSegs, renSg, hno], hfin, by simp⟩
                        · simp only [absE, absL, absF, reduceCtorEq, ↓reduceIte, Nat.reduceEqDiff, Nat.reduceAdd, Nat.reduceLT, Nat.reduceMul, Nat.reduceSub, Nat.reduceLeDiff, Int.reduceLT, Int.reduceLE, Int.reduceEq, Option.isSome_some, implies_true, false_implies, Prod.mk.injEq, ne_eq, not_false_eq_true, not_true_eq_false, ge_iff_le, gt_iff_lt, Int.toNat_natCast, Int.reduceToNat, Int.cast_ofNat_Int, Int.natCast_nonneg, h', eabi, gc, la, lb, uv, hz]
                          refine LoopNext.intro (b + 1) ⟨by omega, fun y hy hne => ?_⟩ (by omega) ⟨[((1,0),(1,0)), ((4,0),(4,0))], rfl, ?_, ?_⟩
                          · by_cases e : y = b
                            · subst e; omega
                            · exact hqb y (by omega) hne
                          · simp [wkEnv, lk, renV, renAt, renTo, w']
                          · simp only [wkMem, hst]; simp [wkLoc, Mem.get, assoc, renBlk, renSegs, renSg]
                    · simp only [absE, absL, absF, reduceCtorEq, ↓reduceIte, Nat.reduceEqDiff, Nat.reduceAdd, Nat.reduceLT, Nat.reduceMul, Nat.reduceSub, Nat.reduceLeDiff, Int.reduceLT, Int.reduceLE, Int.reduceEq, Option.isSome_some, implies_true, false_implies, Prod.mk.injEq, ne_eq, not_false_eq_true, not_true_eq_false, ge_iff_le, gt_iff_lt, Int.toNat_natCast, Int.reduceToNat, Int.cast_ofNat_Int, Int.natCast_nonneg, h', w]
                      refine LoopNext.intro (a + 1) ⟨by omega, fun x hx y hy hne => ?_⟩ (by omega) ⟨[((1,0),(1,0)), ((4,0),(4,0))], rfl, ?_, ?_⟩
                      · by_cases e : x = a
                        · subst e; exact hqb y (by omega) hne
                        · exact hqa x (by omega) y hy hne
                      · simp [wkEnv, lk, renV, renAt, renTo]
                      · simp only [wkMem, hst]; simp [wkLoc, Mem.get, assoc, renBlk, renSegs, renSg]
                · have hyes : thirdOk V LL = true := by
                    rw [hO]
                    exact cmplB_iff.2 fun x hx y hy hne => hqa x (by omega) y (by omega) hne
                  simp only [absE, absL, absF, reduceCtorEq, ↓reduceIte, Nat.reduceEqDiff, Nat.reduceAdd, Nat.reduceLT, Nat.reduceMul, Nat.reduceSub, Nat.reduceLeDiff, Int.reduceLT, Int.reduceLE, Int.reduceEq, Option.isSome_some, implies_true, false_implies, Prod.mk.injEq, ne_eq, not_false_eq_true, not_true_eq_false, ge_iff_le, gt_iff_lt, Int.toNat_natCast, Int.reduceToNat, Int.cast_ofNat_Int, Int.natCast_nonneg, h, Try.results171]
                  repeat first | refine And.intro (by decide +kernel) ?_ | refine And.intro (by omega) ?_
                  exact ⟨[], by simp, by simp, tl th, tl_len, fun _ => by rw [hF], by simp [renV, renVs, renSegs, renSg, hyes], hfin, by simp⟩
      · have hvd : decide (1 ≤ v ∧ v ≤ 9) = false := decide_eq_false hv
        have hno : thirdOk v LL = false := by unfold thirdOk; rw [hvd]; rfl
        simp only [absE, absL, absF, reduceCtorEq, ↓reduceIte, Nat.reduceEqDiff, Nat.reduceAdd, Nat.reduceLT, Nat.reduceMul, Nat.reduceSub, Nat.reduceLeDiff, Int.reduceLT, Int.reduceLE, Int.reduceEq, Option.isSome_some, implies_true, false_implies, Prod.mk.injEq, ne_eq, not_false_eq_true, not_true_eq_false, ge_iff_le, gt_iff_lt, Int.toNat_natCast, Int.reduceToNat, Int.cast_ofNat_Int, Int.natCast_nonneg, hvd, Try.results171]
        repeat first | refine And.intro (by decide +kernel) ?_ | refine And.intro (by omega) ?_
        exact ⟨[], by simp, by simp, tl (fun _ _ => -1), tl_len, fun hh => absurd hh (by simp [hno]), by simp [renV, renVs, renSegs, renSg, hno], hfin, by simp⟩

end Go.Proofs.Ytoccbgffekhcaaa
