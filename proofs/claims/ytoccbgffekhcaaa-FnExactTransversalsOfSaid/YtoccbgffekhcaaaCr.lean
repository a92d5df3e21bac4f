/-
Contracts of functions of the given program, by the abstract walk.
-/
import Derived.Test.YtoccbgffekhcaaaAbsY
import Derived.Test.YtoccbgffekhcaaaCp
namespace Go.Proofs.Ytoccbgffekhcaaa
open Go Go.Abs
set_option linter.unusedVariables false
set_option linter.unusedSectionVars false
set_option linter.unusedSimpArgs false
set_option maxRecDepth 100000
def turned (t : List Int) : List Int := (List.range 100).map fun k => t.getD (k % 10 * 10 + k / 10) 0
theorem turned_getD {t : List Int} {a b : Nat} (ha : a < 10) (hb : b < 10) : (turned t).getD (b * 10 + a) 0 = t.getD (a * 10 + b) 0 := by
  have h1 : b * 10 + a < 100 := by omega
  have h2 : (b * 10 + a) % 10 = a := by omega
  have h3 : (b * 10 + a) / 10 = b := by omega
  simp [turned, h1, h2, h3, List.getD_eq_getElem?_getD]

theorem l01Turned_ok (t : List Int) (ht : t.length = 100) : ACalls Try.prog 127 [.agg (tbS t)] [] (fun r ms ns => r = .agg (tbS (turned t)) ∧ ms = [] ∧ ns = []) := by
  refine acalls_of_body mix Try.func127 rfl fok127 (Nat.le_of_ble_eq_true rfl) ?_
  unfold abody
  simp only [absE, absL, absF, reduceCtorEq, ↓reduceIte, Nat.reduceEqDiff, Nat.reduceAdd, Nat.reduceLT, Nat.reduceMul, Nat.reduceSub, Nat.reduceLeDiff, Int.reduceLT, Int.reduceLE, Int.reduceEq, Option.isSome_some, implies_true, false_implies, Prod.mk.injEq, ne_eq, not_false_eq_true, not_true_eq_false, ge_iff_le, gt_iff_lt, Int.toNat_natCast, Int.reduceToNat, Int.cast_ofNat_Int, Int.natCast_nonneg, Try.f127]
  refine awpLoop.intro (fun a : Nat × List Int => [(1, .ref (.ptr 1 0 0 0)), (2, .ref (.ptr 2 0 0 0)), (3, .ref (.ptr 4 0 0 0)), (4, .i .i64 a.1)]) (fun a => ⟨[], [((1, 0), .lv true (tbS t)), ((2, 0), .lv true (tbS (List.replicate 100 0))), ((4, 0), .lv true (tbS a.2))], 5⟩)
    (fun a => a.1 ≤ 10 ∧ a.2.length = 100 ∧ ∀ x y, x < 10 → y < 10 → x < a.1 → a.2.getD (y * 10 + x) 0 = t.getD (x * 10 + y) 0) (fun a => 10 - a.1) (0, List.replicate 100 0) ⟨by omega, by simp, fun x y _ _ h => absurd h (by simp)⟩ ⟨[((1,0),(1,0)), ((2,0),(2,0)), ((4,0),(4,0))], rfl, ?_, ?_⟩ ?_
  · simp [wkEnv, lk, renV, renAt, renTo]
  · simp [wkMem, wkLoc, Mem.get, assoc, renBlk, renSegs, renSg, renTo]
  · rintro ⟨i, o⟩ ⟨hi, ho, hp⟩
    simp only at hi ho hp
    by_cases h : (i : Int) < 10
    · have w : IntKind.i64.wrap ((i : Int) + 1) = ((i + 1 : Nat) : Int) := by rw [wrap_i64 (by omega) (by omega)]; omega
      simp only [absE, absL, absF, reduceCtorEq, ↓reduceIte, Nat.reduceEqDiff, Nat.reduceAdd, Nat.reduceLT, Nat.reduceMul, Nat.reduceSub, Nat.reduceLeDiff, Int.reduceLT, Int.reduceLE, Int.reduceEq, Option.isSome_some, implies_true, false_implies, Prod.mk.injEq, ne_eq, not_false_eq_true, not_true_eq_false, ge_iff_le, gt_iff_lt, Int.toNat_natCast, Int.reduceToNat, Int.cast_ofNat_Int, Int.natCast_nonneg, h]
      refine awpLoop.intro (fun a : Nat × List Int => [(1, .ref (.ptr 1 0 0 0)), (2, .ref (.ptr 2 0 0 0)), (3, .ref (.ptr 4 0 0 0)), (4, .i .i64 i), (5, .i .i64 a.1)]) (fun a => ⟨[], [((1, 0), .lv true (tbS t)), ((2, 0), .lv true (tbS (List.replicate 100 0))), ((4, 0), .lv true (tbS a.2))], 5⟩)
        (fun a => a.1 ≤ 10 ∧ a.2.length = 100 ∧ ∀ x y, x < 10 → y < 10 → (x < i ∨ x = i ∧ y < a.1) → a.2.getD (y * 10 + x) 0 = t.getD (x * 10 + y) 0) (fun a => 10 - a.1) (0, o) ⟨by omega, by simpa using ho, fun x y h1 h2 h => hp x y h1 h2 (by simp only at h; omega)⟩ ⟨[((1,0),(1,0)), ((2,0),(2,0)), ((4,0),(4,0))], rfl, ?_, ?_⟩ ?_
      · simp [wkEnv, lk, renV, renAt, renTo]
      · simp [wkMem, wkLoc, Mem.get, assoc, renBlk, renSegs, renSg, renTo]
      · rintro ⟨j, o⟩ ⟨hj, ho, hp⟩
        simp only at hj ho hp
        by_cases h' : (j : Int) < 10
        · have w' : IntKind.i64.wrap ((j : Int) + 1) = ((j + 1 : Nat) : Int) := by rw [wrap_i64 (by omega) (by omega)]; omega
          have u1 : 0 + i * 10 + j * 1 < 100 := by omega
          have u2 : 0 + j * 10 + i * 1 + 1 ≤ 100 := by omega
          simp only [absE, absL, absF, reduceCtorEq, ↓reduceIte, Nat.reduceEqDiff, Nat.reduceAdd, Nat.reduceLT, Nat.reduceMul, Nat.reduceSub, Nat.reduceLeDiff, Int.reduceLT, Int.reduceLE, Int.reduceEq, Option.isSome_some, implies_true, false_implies, Prod.mk.injEq, ne_eq, not_false_eq_true, not_true_eq_false, ge_iff_le, gt_iff_lt, Int.toNat_natCast, Int.reduceToNat, Int.cast_ofNat_Int, Int.natCast_nonneg, h, h', u1, u2]
          refine LoopNext.intro (j + 1, o.set (0 + j * 10 + i * 1) (t.getD (0 + i * 10 + j * 1) 0)) ⟨by simp only; omega, by simpa using ho, fun x y hx hy hc => ?_⟩ (by simp only; omega) ⟨[((1,0),(1,0)), ((2,0),(2,0)), ((4,0),(4,0))], rfl, ?_, ?_⟩
          · simp only
            rw [getD_set_int (by omega)]
            split
            · rename_i e
              have e1 : x = i := by omega
              have e2 : y = j := by omega
              subst e1; subst e2
              congr 1; omega
            · rename_i e
              exact hp x y hx hy (by simp only at hc; omega)
          · simp [wkEnv, lk, renV, renAt, renTo, w']
          · simp [wkMem, wkLoc, Mem.get, assoc, renBlk, renSegs, renSg, renTo]
        · simp only [absE, absL, absF, reduceCtorEq, ↓reduceIte, Nat.reduceEqDiff, Nat.reduceAdd, Nat.reduceLT, Nat.reduceMul, Nat.reduceSub, Nat.reduceLeDiff, Int.reduceLT, Int.reduceLE, Int.reduceEq, Option.isSome_some, implies_true, false_implies, Prod.mk.injEq, ne_eq, not_false_eq_true, not_true_eq_false, ge_iff_le, gt_iff_lt, Int.toNat_natCast, Int.reduceToNat, Int.cast_ofNat_Int, Int.natCast_nonneg, h, h']
          refine LoopNext.intro (i + 1, o) ⟨by simp only; omega, by simpa using ho, fun x y hx hy hc => hp x y hx hy (by simp only at hc; omega)⟩ (by simp only; omega) ⟨[((1,0),(1,0)), ((2,0),(2,0)), ((4,0),(4,0))], rfl, ?_, ?_⟩
          · simp [wkEnv, lk, renV, renAt, renTo, w]
          · simp [wkMem, wkLoc, Mem.get, assoc, renBlk, renSegs, renSg, renTo]
    · simp only [absE, absL, absF, reduceCtorEq, ↓reduceIte, Nat.reduceEqDiff, Nat.reduceAdd, Nat.reduceLT, Nat.reduceMul, Nat.reduceSub, Nat.reduceLeDiff, Int.reduceLT, Int.reduceLE, Int.reduceEq, Option.isSome_some, implies_true, false_implies, Prod.mk.injEq, ne_eq, not_false_eq_true, not_true_eq_false, ge_iff_le, gt_iff_lt, Int.toNat_natCast, Int.reduceToNat, Int.cast_ofNat_Int, Int.natCast_nonneg, h, Try.results127]
      have : o = turned t := ext_getD (by simp [turned, ho]) fun j hj => by
        have h1 := hp (j % 10) (j / 10) (by omega) (by omega) (by omega)
        have h2 := turned_getD (t := t) (a := j % 10) (b := j / 10) (by omega) (by omega)
        have h3 : j / 10 * 10 + j % 10 = j := by omega
        rw [h3] at h1 h2
        rw [h1, h2]
      subst this
      exact ⟨[], by simp, by simp, by simp [renV, renSegs, renSg]⟩

/-- What the rows' test answers. -/
def RowsP (n : Int) (t : List Int) : Prop := ∀ i : Nat, i < 10 → if (i : Int) < n then PermP n ((t.drop (i * 10)).take 10) else (t.drop (i * 10)).take 10 = List.replicate 10 0
open Classical in
noncomputable def rowsB (n : Int) (t : List Int) : Bool := decide (RowsP n t)
theorem rowsB_true {n : Int} {t : List Int} (h : RowsP n t) : rowsB n t = true := by unfold rowsB; exact @decide_eq_true _ (_) h
theorem rowsB_false {n : Int} {t : List Int} (h : ¬RowsP n t) : rowsB n t = false := by unfold rowsB; exact @decide_eq_false _ (_) h
theorem rowsB_iff {n : Int} {t : List Int} : rowsB n t = true ↔ RowsP n t := by unfold rowsB; exact @decide_eq_true_iff _ (_)
theorem bytes_row {t : List Int} (h : Bytes 100 t) {off : Nat} (ho : off + 10 ≤ 100) : Bytes 10 ((t.drop off).take 10) :=
  ⟨sub_length (by have := h.len; omega), fun i => by rw [getD_sub]; split; exact h.rng _; omega⟩

theorem l01Rows_ok (t : List Int) (n : Int) (ht : Bytes 100 t) : ACalls Try.prog 126 [.agg (tbS t), .i .i64 n] [] (fun r ms ns => r = .b (rowsB n t) ∧ ms = [] ∧ ns = []) := by
  refine acalls_of_body mix Try.func126 rfl fok126 (Nat.le_of_ble_eq_true rfl) ?_
  unfold abody
  simp only [absE, absL, absF, reduceCtorEq, ↓reduceIte, Nat.reduceEqDiff, Nat.reduceAdd, Nat.reduceLT, Nat.reduceMul, Nat.reduceSub, Nat.reduceLeDiff, Int.reduceLT, Int.reduceLE, Int.reduceEq, Option.isSome_some, implies_true, false_implies, Prod.mk.injEq, ne_eq, not_false_eq_true, not_true_eq_false, ge_iff_le, gt_iff_lt, Int.toNat_natCast, Int.reduceToNat, Int.cast_ofNat_Int, Int.natCast_nonneg, Try.f126]
  refine awpLoop.intro (fun i : Nat => [(1, .i .i64 n), (2, .ref (.ptr 1 0 0 0)), (5, .i .i64 i)]) (fun i => ⟨[], [((1, 0), .lv true (tbS t))], 2⟩)
    (fun i => i ≤ 10 ∧ ∀ j, j < i → if (j : Int) < n then PermP n ((t.drop (j * 10)).take 10) else (t.drop (j * 10)).take 10 = List.replicate 10 0) (fun i => 10 - i) 0 ⟨by omega, fun x h => absurd h (by simp)⟩ ⟨[((1,0),(1,0))], rfl, ?_, ?_⟩ ?_
  · simp [wkEnv, lk, renV, renAt, renTo]
  · simp [wkMem, wkLoc, Mem.get, assoc, renBlk, renSegs, renSg, renTo]
  · rintro i ⟨hi, hp⟩
    by_cases h : (i : Int) < 10
    · have w : IntKind.i64.wrap ((i : Int) + 1) = ((i + 1 : Nat) : Int) := by rw [wrap_i64 (by omega) (by omega)]; omega
      have u1 : 0 + i * 10 + 10 ≤ 100 := by omega
      by_cases hin : (i : Int) < n
      · have g1 : ¬ n ≤ (i : Int) := by omega
        simp only [absE, absL, absF, reduceCtorEq, ↓reduceIte, Nat.reduceEqDiff, Nat.reduceAdd, Nat.reduceLT, Nat.reduceMul, Nat.reduceSub, Nat.reduceLeDiff, Int.reduceLT, Int.reduceLE, Int.reduceEq, Option.isSome_some, implies_true, false_implies, Prod.mk.injEq, ne_eq, not_false_eq_true, not_true_eq_false, ge_iff_le, gt_iff_lt, Int.toNat_natCast, Int.reduceToNat, Int.cast_ofNat_Int, Int.natCast_nonneg, h, hin, u1]
        refine CallsVia.none (l01Perm_ok _ n (bytes_row ht (by omega))) ?_
        rintro _ _ _ ⟨rfl, rfl, rfl⟩
        cases hb : permB n ((t.drop (0 + i * 10)).take 10)
        · simp only [absE, absL, absF, reduceCtorEq, ↓reduceIte, Nat.reduceEqDiff, Nat.reduceAdd, Nat.reduceLT, Nat.reduceMul, Nat.reduceSub, Nat.reduceLeDiff, Int.reduceLT, Int.reduceLE, Int.reduceEq, Option.isSome_some, implies_true, false_implies, Prod.mk.injEq, ne_eq, not_false_eq_true, not_true_eq_false, ge_iff_le, gt_iff_lt, Int.toNat_natCast, Int.reduceToNat, Int.cast_ofNat_Int, Int.natCast_nonneg, h, hin, u1, hb, g1, Try.results126]
          refine fin_false (rowsB_false fun hr => ?_)
          have := hr i (by omega)
          rw [if_pos hin] at this
          rw [Nat.zero_add, permB_true this] at hb
          cases hb
        · simp only [absE, absL, absF, reduceCtorEq, ↓reduceIte, Nat.reduceEqDiff, Nat.reduceAdd, Nat.reduceLT, Nat.reduceMul, Nat.reduceSub, Nat.reduceLeDiff, Int.reduceLT, Int.reduceLE, Int.reduceEq, Option.isSome_some, implies_true, false_implies, Prod.mk.injEq, ne_eq, not_false_eq_true, not_true_eq_false, ge_iff_le, gt_iff_lt, Int.toNat_natCast, Int.reduceToNat, Int.cast_ofNat_Int, Int.natCast_nonneg, h, hin, u1, hb, g1, Try.results126]
          refine LoopNext.intro (i + 1) ⟨by omega, fun j hj => ?_⟩ (by omega) ⟨[((1,0),(1,0))], rfl, ?_, ?_⟩
          · by_cases e : j = i
            · subst e
              rw [if_pos hin]
              rw [Nat.zero_add] at hb
              exact permB_iff.1 hb
            · exact hp j (by omega)
          · simp [wkEnv, lk, renV, renAt, renTo, w]
          · simp [wkMem, wkLoc, Mem.get, assoc, renBlk, renSegs, renSg, renTo]
      · have g1 : n ≤ (i : Int) := by omega
        by_cases e : (t.drop (0 + i * 10)).take 10 = List.replicate 10 0
        · simp only [absE, absL, absF, reduceCtorEq, ↓reduceIte, Nat.reduceEqDiff, Nat.reduceAdd, Nat.reduceLT, Nat.reduceMul, Nat.reduceSub, Nat.reduceLeDiff, Int.reduceLT, Int.reduceLE, Int.reduceEq, Option.isSome_some, implies_true, false_implies, Prod.mk.injEq, ne_eq, not_false_eq_true, not_true_eq_false, ge_iff_le, gt_iff_lt, Int.toNat_natCast, Int.reduceToNat, Int.cast_ofNat_Int, Int.natCast_nonneg, h, hin, u1, g1, e, Try.results126]
          refine LoopNext.intro (i + 1) ⟨by omega, fun j hj => ?_⟩ (by omega) ⟨[((1,0),(1,0))], rfl, ?_, ?_⟩
          · by_cases e2 : j = i
            · subst e2
              rw [if_neg hin]
              rw [Nat.zero_add] at e
              exact e
            · exact hp j (by omega)
          · simp [wkEnv, lk, renV, renAt, renTo, w]
          · simp [wkMem, wkLoc, Mem.get, assoc, renBlk, renSegs, renSg, renTo]
        · simp only [absE, absL, absF, reduceCtorEq, ↓reduceIte, Nat.reduceEqDiff, Nat.reduceAdd, Nat.reduceLT, Nat.reduceMul, Nat.reduceSub, Nat.reduceLeDiff, Int.reduceLT, Int.reduceLE, Int.reduceEq, Option.isSome_some, implies_true, false_implies, Prod.mk.injEq, ne_eq, not_false_eq_true, not_true_eq_false, ge_iff_le, gt_iff_lt, Int.toNat_natCast, Int.reduceToNat, Int.cast_ofNat_Int, Int.natCast_nonneg, h, hin, u1, g1, e, Try.results126]
          refine fin_false (rowsB_false fun hr => ?_)
          have := hr i (by omega)
          rw [if_neg hin] at this
          rw [Nat.zero_add] at e
          exact e this
    · simp only [absE, absL, absF, reduceCtorEq, ↓reduceIte, Nat.reduceEqDiff, Nat.reduceAdd, Nat.reduceLT, Nat.reduceMul, Nat.reduceSub, Nat.reduceLeDiff, Int.reduceLT, Int.reduceLE, Int.reduceEq, Option.isSome_some, implies_true, false_implies, Prod.mk.injEq, ne_eq, not_false_eq_true, not_true_eq_false, ge_iff_le, gt_iff_lt, Int.toNat_natCast, Int.reduceToNat, Int.cast_ofNat_Int, Int.natCast_nonneg, h, Try.results126]
      exact fin_true (rowsB_true fun j hj => hp j (by omega))

end Go.Proofs.Ytoccbgffekhcaaa
