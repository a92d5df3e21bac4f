/-
Contracts of functions of the given program, by the abstract walk.
-/
import Derived.Test.YtoccbgffekhcaaaAbsY
import Derived.Test.YtoccbgffekhcaaaNh
namespace Go.Proofs.Ytoccbgffekhcaaa
open Go Go.Abs
set_option linter.unusedVariables false
set_option linter.unusedSectionVars false
set_option linter.unusedSimpArgs false
set_option maxRecDepth 100000
/-! terms: plain, and what is a term -/
def isLf (b : Int) : Bool := decide (b = 120 ∨ b = 121 ∨ b = 122 ∨ b = 101)
def isOp (b : Int) : Bool := decide (b = 42 ∨ b = 92 ∨ b = 47)
def symV (x y z : Nat) (b : Int) : Nat := if b = 120 then x else if b = 121 then y else if b = 122 then z else 0
def apB (N : Nat) (t : List Int) (b : Int) (a c : Nat) : Nat := if b = 42 then cl t a c else if b = 47 then rdF N t a c else ldF N t a c
/-- how many values stand on the stack -/
def dpt (xs : List Int) : Nat → Option Nat
  | 0 => some 0
  | i + 1 => match dpt xs i with
    | none => none
    | some d => if isLf (xs.getD i 0) then some (d + 1) else if isOp (xs.getD i 0) && decide (2 ≤ d) then some (d - 1) else none
def trmB (xs : List Int) (k : Nat) : Bool := decide (dpt xs k = some 1) && decide (k ≤ 40)
def stk (N : Nat) (t : List Int) (x y z : Nat) (xs : List Int) : Nat → List Nat
  | 0 => []
  | i + 1 => if isLf (xs.getD i 0) then stk N t x y z xs i ++ [symV x y z (xs.getD i 0)]
    else (stk N t x y z xs i).take ((stk N t x y z xs i).length - 2) ++ [apB N t (xs.getD i 0) ((stk N t x y z xs i).getD ((stk N t x y z xs i).length - 2) 0) ((stk N t x y z xs i).getD ((stk N t x y z xs i).length - 1) 0)]
def trmV (N : Nat) (t : List Int) (x y z : Nat) (xs : List Int) (k : Nat) : Nat := (stk N t x y z xs k).getD 0 0
theorem dpt_none {xs : List Int} {i : Nat} : ∀ {j}, dpt xs i = none → i ≤ j → dpt xs j = none
  | 0, h, hj => by obtain rfl : i = 0 := by omega
                   exact h
  | j + 1, h, hj => by
    by_cases e : i = j + 1
    · subst e; exact h
    · have := dpt_none (j := j) h (by omega)
      unfold dpt; rw [this]
theorem dpt_some {xs : List Int} {k i d : Nat} (h : dpt xs k = some d) (hi : i ≤ k) : ∃ e, dpt xs i = some e := by
  cases hd : dpt xs i with
  | none => rw [dpt_none hd hi] at h; cases h
  | some e => exact ⟨e, rfl⟩
theorem dpt_le {xs : List Int} : ∀ {i d}, dpt xs i = some d → d ≤ i
  | 0, d, h => by simp [dpt] at h; omega
  | i + 1, d, h => by
    unfold dpt at h
    cases hd : dpt xs i with
    | none => rw [hd] at h; cases h
    | some e =>
      rw [hd] at h
      have := dpt_le hd
      simp only at h
      split at h
      · simp at h; omega
      · split at h
        · simp at h; omega
        · cases h
/-- a symbol of a term -/
theorem dpt_step {xs : List Int} {i d : Nat} (h : dpt xs i = some d) : (isLf (xs.getD i 0) = true ∧ dpt xs (i + 1) = some (d + 1)) ∨ (isLf (xs.getD i 0) = false ∧ isOp (xs.getD i 0) = true ∧ 2 ≤ d ∧ dpt xs (i + 1) = some (d - 1)) ∨ (isLf (xs.getD i 0) = false ∧ (isOp (xs.getD i 0) && decide (2 ≤ d)) = false ∧ dpt xs (i + 1) = none) := by
  have e : dpt xs (i + 1) = if isLf (xs.getD i 0) then some (d + 1) else if isOp (xs.getD i 0) && decide (2 ≤ d) then some (d - 1) else none := by rw [dpt, h]
  cases h1 : isLf (xs.getD i 0)
  · cases h2 : isOp (xs.getD i 0) && decide (2 ≤ d)
    · refine .inr (.inr ⟨rfl, rfl, ?_⟩)
      rw [e, h1, h2]; rfl
    · refine .inr (.inl ⟨rfl, ?_, ?_, ?_⟩)
      · simp only [Bool.and_eq_true] at h2; exact h2.1
      · simp only [Bool.and_eq_true, decide_eq_true_eq] at h2; exact h2.2
      · rw [e, h1, h2]; rfl
  · exact .inl ⟨rfl, by rw [e, h1]; rfl⟩
theorem stk_len {N : Nat} {t : List Int} {x y z : Nat} {xs : List Int} : ∀ {i d}, dpt xs i = some d → (stk N t x y z xs i).length = d
  | 0, d, h => by simp [dpt] at h; simp [stk, h]
  | i + 1, d, h => by
    obtain ⟨e, he⟩ := dpt_some h (Nat.le_succ i)
    have ih := stk_len (N := N) (t := t) (x := x) (y := y) (z := z) he
    unfold stk
    rcases dpt_step he with ⟨h1, h2⟩ | ⟨h1, h2, h3, h4⟩ | ⟨h1, h2, h3⟩
    · rw [h1, if_pos rfl, List.length_append, ih]; rw [h2] at h; simp at h ⊢; omega
    · rw [h1, if_neg (by simp), List.length_append, List.length_take, ih]; rw [h4] at h; simp at h ⊢; omega
    · rw [h3] at h; cases h
theorem apB_lt {N : Nat} {t : List Int} {b : Int} {a c : Nat} (hs : SqP N t) (ha : a < N) (hc : c < N) : apB N t b a c < N := by
  unfold apB
  split
  · exact hs.cl_lt ha hc
  · split
    · exact (hs.colP hc).fnd_lt hs.le ha
    · exact (hs.rowP ha).fnd_lt hs.le hc
theorem symV_lt {N x y z : Nat} {b : Int} (h0 : 0 < N) (hx : x < N) (hy : y < N) (hz : z < N) : symV x y z b < N := by
  unfold symV; split
  · exact hx
  · split
    · exact hy
    · split
      · exact hz
      · exact h0
theorem stk_lt {N : Nat} {t : List Int} {x y z : Nat} {xs : List Int} (hs : SqP N t) (hx : x < N) (hy : y < N) (hz : z < N) : ∀ {i} {v}, v ∈ stk N t x y z xs i → v < N
  | 0, v, h => by simp [stk] at h
  | i + 1, v, h => by
    have ih := fun v => stk_lt (xs := xs) hs hx hy hz (i := i) (v := v)
    have hg : ∀ j, (stk N t x y z xs i).getD j 0 < N := fun j => by
      by_cases hj : j < (stk N t x y z xs i).length
      · have e : (stk N t x y z xs i).getD j 0 = (stk N t x y z xs i)[j] := by simp [hj]
        rw [e]; exact ih _ (List.getElem_mem hj)
      · have e : (stk N t x y z xs i).getD j 0 = 0 := by simp [show (stk N t x y z xs i).length ≤ j by omega]
        rw [e]; exact hs.pos
    unfold stk at h
    split at h
    · rcases List.mem_append.1 h with h | h
      · exact ih v h
      · simp at h; subst h; exact symV_lt hs.pos hx hy hz
    · rcases List.mem_append.1 h with h | h
      · exact ih v (List.mem_of_mem_take h)
      · simp at h; subst h; exact apB_lt hs (hg _) (hg _)
theorem isLeaf_ok (b : Int) : ACalls Try.prog 144 [.i .u8 b] [] (fun v ms ns => v = .b (isLf b) ∧ ms = [] ∧ ns = []) := by
  refine acalls_of_body mix Try.func144 rfl fok144 (Nat.le_of_ble_eq_true rfl) ?_
  unfold abody
  by_cases h1 : b = 120
  · subst h1
    simp only [absE, absL, absF, reduceCtorEq, ↓reduceIte, Nat.reduceEqDiff, Nat.reduceAdd, Nat.reduceLT, Nat.reduceMul, Nat.reduceSub, Nat.reduceLeDiff, Int.reduceLT, Int.reduceLE, Int.reduceEq, Option.isSome_some, implies_true, false_implies, Prod.mk.injEq, ne_eq, not_false_eq_true, not_true_eq_false, ge_iff_le, gt_iff_lt, Int.toNat_natCast, Int.reduceToNat, Int.cast_ofNat_Int, Int.natCast_nonneg, Try.f144, Try.results144]
    exact ⟨[], by simp, by simp, by simp [renV, renVs, renSegs, renSg, isLf]⟩
  · by_cases h2 : b = 121
    · subst h2
      simp only [absE, absL, absF, reduceCtorEq, ↓reduceIte, Nat.reduceEqDiff, Nat.reduceAdd, Nat.reduceLT, Nat.reduceMul, Nat.reduceSub, Nat.reduceLeDiff, Int.reduceLT, Int.reduceLE, Int.reduceEq, Option.isSome_some, implies_true, false_implies, Prod.mk.injEq, ne_eq, not_false_eq_true, not_true_eq_false, ge_iff_le, gt_iff_lt, Int.toNat_natCast, Int.reduceToNat, Int.cast_ofNat_Int, Int.natCast_nonneg, Try.f144, Try.results144]
      exact ⟨[], by simp, by simp, by simp [renV, renVs, renSegs, renSg, isLf]⟩
    · by_cases h3 : b = 122
      · subst h3
        simp only [absE, absL, absF, reduceCtorEq, ↓reduceIte, Nat.reduceEqDiff, Nat.reduceAdd, Nat.reduceLT, Nat.reduceMul, Nat.reduceSub, Nat.reduceLeDiff, Int.reduceLT, Int.reduceLE, Int.reduceEq, Option.isSome_some, implies_true, false_implies, Prod.mk.injEq, ne_eq, not_false_eq_true, not_true_eq_false, ge_iff_le, gt_iff_lt, Int.toNat_natCast, Int.reduceToNat, Int.cast_ofNat_Int, Int.natCast_nonneg, Try.f144, Try.results144]
        exact ⟨[], by simp, by simp, by simp [renV, renVs, renSegs, renSg, isLf]⟩
      · by_cases h4 : b = 101
        · subst h4
          simp only [absE, absL, absF, reduceCtorEq, ↓reduceIte, Nat.reduceEqDiff, Nat.reduceAdd, Nat.reduceLT, Nat.reduceMul, Nat.reduceSub, Nat.reduceLeDiff, Int.reduceLT, Int.reduceLE, Int.reduceEq, Option.isSome_some, implies_true, false_implies, Prod.mk.injEq, ne_eq, not_false_eq_true, not_true_eq_false, ge_iff_le, gt_iff_lt, Int.toNat_natCast, Int.reduceToNat, Int.cast_ofNat_Int, Int.natCast_nonneg, Try.f144, Try.results144]
          exact ⟨[], by simp, by simp, by simp [renV, renVs, renSegs, renSg, isLf]⟩
        · simp only [absE, absL, absF, reduceCtorEq, ↓reduceIte, Nat.reduceEqDiff, Nat.reduceAdd, Nat.reduceLT, Nat.reduceMul, Nat.reduceSub, Nat.reduceLeDiff, Int.reduceLT, Int.reduceLE, Int.reduceEq, Option.isSome_some, implies_true, false_implies, Prod.mk.injEq, ne_eq, not_false_eq_true, not_true_eq_false, ge_iff_le, gt_iff_lt, Int.toNat_natCast, Int.reduceToNat, Int.cast_ofNat_Int, Int.natCast_nonneg, h1, h2, h3, h4, decide_false, Try.f144, Try.results144]
          exact ⟨[], by simp, by simp, by simp [renV, renVs, renSegs, renSg, isLf, h1, h2, h3, h4]⟩
theorem isOperation_ok (b : Int) : ACalls Try.prog 145 [.i .u8 b] [] (fun v ms ns => v = .b (isOp b) ∧ ms = [] ∧ ns = []) := by
  refine acalls_of_body mix Try.func145 rfl fok145 (Nat.le_of_ble_eq_true rfl) ?_
  unfold abody
  by_cases h1 : b = 42
  · subst h1
    simp only [absE, absL, absF, reduceCtorEq, ↓reduceIte, Nat.reduceEqDiff, Nat.reduceAdd, Nat.reduceLT, Nat.reduceMul, Nat.reduceSub, Nat.reduceLeDiff, Int.reduceLT, Int.reduceLE, Int.reduceEq, Option.isSome_some, implies_true, false_implies, Prod.mk.injEq, ne_eq, not_false_eq_true, not_true_eq_false, ge_iff_le, gt_iff_lt, Int.toNat_natCast, Int.reduceToNat, Int.cast_ofNat_Int, Int.natCast_nonneg, Try.f145, Try.results145]
    exact ⟨[], by simp, by simp, by simp [renV, renVs, renSegs, renSg, isOp]⟩
  · by_cases h2 : b = 92
    · subst h2
      simp only [absE, absL, absF, reduceCtorEq, ↓reduceIte, Nat.reduceEqDiff, Nat.reduceAdd, Nat.reduceLT, Nat.reduceMul, Nat.reduceSub, Nat.reduceLeDiff, Int.reduceLT, Int.reduceLE, Int.reduceEq, Option.isSome_some, implies_true, false_implies, Prod.mk.injEq, ne_eq, not_false_eq_true, not_true_eq_false, ge_iff_le, gt_iff_lt, Int.toNat_natCast, Int.reduceToNat, Int.cast_ofNat_Int, Int.natCast_nonneg, Try.f145, Try.results145]
      exact ⟨[], by simp, by simp, by simp [renV, renVs, renSegs, renSg, isOp]⟩
    · by_cases h3 : b = 47
      · subst h3
        simp only [absE, absL, absF, reduceCtorEq, ↓reduceIte, Nat.reduceEqDiff, Nat.reduceAdd, Nat.reduceLT, Nat.reduceMul, Nat.reduceSub, Nat.reduceLeDiff, Int.reduceLT, Int.reduceLE, Int.reduceEq, Option.isSome_some, implies_true, false_implies, Prod.mk.injEq, ne_eq, not_false_eq_true, not_true_eq_false, ge_iff_le, gt_iff_lt, Int.toNat_natCast, Int.reduceToNat, Int.cast_ofNat_Int, Int.natCast_nonneg, Try.f145, Try.results145]
        exact ⟨[], by simp, by simp, by simp [renV, renVs, renSegs, renSg, isOp]⟩
      · simp only [absE, absL, absF, reduceCtorEq, ↓reduceIte, Nat.reduceEqDiff, Nat.reduceAdd, Nat.reduceLT, Nat.reduceMul, Nat.reduceSub, Nat.reduceLeDiff, Int.reduceLT, Int.reduceLE, Int.reduceEq, Option.isSome_some, implies_true, false_implies, Prod.mk.injEq, ne_eq, not_false_eq_true, not_true_eq_false, ge_iff_le, gt_iff_lt, Int.toNat_natCast, Int.reduceToNat, Int.cast_ofNat_Int, Int.natCast_nonneg, h1, h2, h3, decide_false, Try.f145, Try.results145]
        exact ⟨[], by simp, by simp, by simp [renV, renVs, renSegs, renSg, isOp, h1, h2, h3]⟩
theorem l03Op_ok (b : Int) : ACalls Try.prog 142 [.i .u8 b] [] (fun v ms ns => v = .b (isOp b) ∧ ms = [] ∧ ns = []) := by
  refine acalls_of_body mix Try.func142 rfl fok142 (Nat.le_of_ble_eq_true rfl) ?_
  unfold abody
  by_cases h1 : b = 42
  · subst h1
    simp only [absE, absL, absF, reduceCtorEq, ↓reduceIte, Nat.reduceEqDiff, Nat.reduceAdd, Nat.reduceLT, Nat.reduceMul, Nat.reduceSub, Nat.reduceLeDiff, Int.reduceLT, Int.reduceLE, Int.reduceEq, Option.isSome_some, implies_true, false_implies, Prod.mk.injEq, ne_eq, not_false_eq_true, not_true_eq_false, ge_iff_le, gt_iff_lt, Int.toNat_natCast, Int.reduceToNat, Int.cast_ofNat_Int, Int.natCast_nonneg, Try.f142, Try.results142]
    exact ⟨[], by simp, by simp, by simp [renV, renVs, renSegs, renSg, isOp]⟩
  · by_cases h2 : b = 92
    · subst h2
      simp only [absE, absL, absF, reduceCtorEq, ↓reduceIte, Nat.reduceEqDiff, Nat.reduceAdd, Nat.reduceLT, Nat.reduceMul, Nat.reduceSub, Nat.reduceLeDiff, Int.reduceLT, Int.reduceLE, Int.reduceEq, Option.isSome_some, implies_true, false_implies, Prod.mk.injEq, ne_eq, not_false_eq_true, not_true_eq_false, ge_iff_le, gt_iff_lt, Int.toNat_natCast, Int.reduceToNat, Int.cast_ofNat_Int, Int.natCast_nonneg, Try.f142, Try.results142]
      exact ⟨[], by simp, by simp, by simp [renV, renVs, renSegs, renSg, isOp]⟩
    · by_cases h3 : b = 47
      · subst h3
        simp only [absE, absL, absF, reduceCtorEq, ↓reduceIte, Nat.reduceEqDiff, Nat.reduceAdd, Nat.reduceLT, Nat.reduceMul, Nat.reduceSub, Nat.reduceLeDiff, Int.reduceLT, Int.reduceLE, Int.reduceEq, Option.isSome_some, implies_true, false_implies, Prod.mk.injEq, ne_eq, not_false_eq_true, not_true_eq_false, ge_iff_le, gt_iff_lt, Int.toNat_natCast, Int.reduceToNat, Int.cast_ofNat_Int, Int.natCast_nonneg, Try.f142, Try.results142]
        exact ⟨[], by simp, by simp, by simp [renV, renVs, renSegs, renSg, isOp]⟩
      · simp only [absE, absL, absF, reduceCtorEq, ↓reduceIte, Nat.reduceEqDiff, Nat.reduceAdd, Nat.reduceLT, Nat.reduceMul, Nat.reduceSub, Nat.reduceLeDiff, Int.reduceLT, Int.reduceLE, Int.reduceEq, Option.isSome_some, implies_true, false_implies, Prod.mk.injEq, ne_eq, not_false_eq_true, not_true_eq_false, ge_iff_le, gt_iff_lt, Int.toNat_natCast, Int.reduceToNat, Int.cast_ofNat_Int, Int.natCast_nonneg, h1, h2, h3, decide_false, Try.f142, Try.results142]
        exact ⟨[], by simp, by simp, by simp [renV, renVs, renSegs, renSg, isOp, h1, h2, h3]⟩
theorem isTerm_ok (xs : List Int) (k : Nat) (hk : k ≤ 2 ^ 20) :
    ACalls Try.prog 87 [.ref (.sl 0 0 0 0 k 1)] [.lv true [(0, .ints .u8 k xs)]] (fun v ms ns => v = .b (trmB xs k) ∧ ms = [.lv true [(0, .ints .u8 k xs)]] ∧ ns = []) := by
  refine acalls_of_body mix Try.func87 rfl fok87 (Nat.le_of_ble_eq_true rfl) ?_
  unfold abody
  simp only [absE, absL, absF, reduceCtorEq, ↓reduceIte, Nat.reduceEqDiff, Nat.reduceAdd, Nat.reduceLT, Nat.reduceMul, Nat.reduceSub, Nat.reduceLeDiff, Int.reduceLT, Int.reduceLE, Int.reduceEq, Option.isSome_some, implies_true, false_implies, Prod.mk.injEq, ne_eq, not_false_eq_true, not_true_eq_false, ge_iff_le, gt_iff_lt, Int.toNat_natCast, Int.reduceToNat, Int.cast_ofNat_Int, Int.natCast_nonneg, Try.f87]
  refine awpLoop.intro (fun s : Nat × Nat => [(0, .ref (.sl 0 0 0 0 k 1)), (3, .i .i64 s.2), (6, .ref (.sl 0 0 0 0 k 1)), (7, .i .i64 k), (8, .i .i64 s.1)]) (fun s => ⟨[.lv true [(0, .ints .u8 k xs)]], [], 6⟩)
    (fun s => s.1 ≤ k ∧ dpt xs s.1 = some s.2) (fun s => k - s.1) (0, 0) ⟨by simp, rfl⟩ ⟨[], rfl, ?_, ?_⟩ ?_
  · simp [wkEnv, lk, renV, renAt, renTo]
  · simp [wkMem, wkLoc, Mem.get, assoc, renBlk, renSegs, renSg, renTo]
  · rintro ⟨i, d⟩ ⟨hi, hd⟩
    simp only at hi hd
    have hdi := dpt_le hd
    by_cases h : (i : Int) < k
    · have w := wrap_i64s (show i < 2 ^ 62 by omega)
      have v1 : 0 + i * 1 < k := by omega
      have e1 : xs.getD (0 + i * 1) 0 = xs.getD i 0 := by rw [Nat.zero_add, Nat.mul_one]
      simp only [absE, absL, absF, reduceCtorEq, ↓reduceIte, Nat.reduceEqDiff, Nat.reduceAdd, Nat.reduceLT, Nat.reduceMul, Nat.reduceSub, Nat.reduceLeDiff, Int.reduceLT, Int.reduceLE, Int.reduceEq, Option.isSome_some, implies_true, false_implies, Prod.mk.injEq, ne_eq, not_false_eq_true, not_true_eq_false, ge_iff_le, gt_iff_lt, Int.toNat_natCast, Int.reduceToNat, Int.cast_ofNat_Int, Int.natCast_nonneg, h, v1, e1]
      refine CallsVia.none (isLeaf_ok (xs.getD i 0)) ?_
      rintro _ _ _ ⟨rfl, rfl, rfl⟩
      rcases dpt_step hd with ⟨h1, h2⟩ | ⟨h1, h2, h3, h4⟩ | ⟨h1, h2, h3⟩
      · have w2 := wrap_i64s (show d < 2 ^ 62 by omega)
        simp only [absE, absL, absF, reduceCtorEq, ↓reduceIte, Nat.reduceEqDiff, Nat.reduceAdd, Nat.reduceLT, Nat.reduceMul, Nat.reduceSub, Nat.reduceLeDiff, Int.reduceLT, Int.reduceLE, Int.reduceEq, Option.isSome_some, implies_true, false_implies, Prod.mk.injEq, ne_eq, not_false_eq_true, not_true_eq_false, ge_iff_le, gt_iff_lt, Int.toNat_natCast, Int.reduceToNat, Int.cast_ofNat_Int, Int.natCast_nonneg, h1]
        refine LoopNext.intro (i + 1, d + 1) ⟨by simp only; omega, h2⟩ (by simp only; omega) ⟨[], rfl, ?_, ?_⟩
        · simp [wkEnv, lk, renV, renAt, renTo, w, w2]
        · simp [wkMem, wkLoc, Mem.get, assoc, renBlk, renSegs, renSg, renTo, w, w2]
      · have w2 : IntKind.i64.wrap ((d : Int) - 1) = ((d - 1 : Nat) : Int) := by rw [wrap_i64 (by omega) (by omega)]; omega
        have g2 : (2 : Int) ≤ d := by omega
        simp only [absE, absL, absF, reduceCtorEq, ↓reduceIte, Nat.reduceEqDiff, Nat.reduceAdd, Nat.reduceLT, Nat.reduceMul, Nat.reduceSub, Nat.reduceLeDiff, Int.reduceLT, Int.reduceLE, Int.reduceEq, Option.isSome_some, implies_true, false_implies, Prod.mk.injEq, ne_eq, not_false_eq_true, not_true_eq_false, ge_iff_le, gt_iff_lt, Int.toNat_natCast, Int.reduceToNat, Int.cast_ofNat_Int, Int.natCast_nonneg, h1]
        refine CallsVia.none (isOperation_ok (xs.getD i 0)) ?_
        rintro _ _ _ ⟨rfl, rfl, rfl⟩
        simp only [absE, absL, absF, reduceCtorEq, ↓reduceIte, Nat.reduceEqDiff, Nat.reduceAdd, Nat.reduceLT, Nat.reduceMul, Nat.reduceSub, Nat.reduceLeDiff, Int.reduceLT, Int.reduceLE, Int.reduceEq, Option.isSome_some, implies_true, false_implies, Prod.mk.injEq, ne_eq, not_false_eq_true, not_true_eq_false, ge_iff_le, gt_iff_lt, Int.toNat_natCast, Int.reduceToNat, Int.cast_ofNat_Int, Int.natCast_nonneg, h2, g2]
        refine LoopNext.intro (i + 1, d - 1) ⟨by simp only; omega, h4⟩ (by simp only; omega) ⟨[], rfl, ?_, ?_⟩
        · simp [wkEnv, lk, renV, renAt, renTo, w, w2]
        · simp [wkMem, wkLoc, Mem.get, assoc, renBlk, renSegs, renSg, renTo, w, w2]
      · have hf : trmB xs k = false := by
          unfold trmB; rw [dpt_none h3 (by omega)]; rfl
        simp only [absE, absL, absF, reduceCtorEq, ↓reduceIte, Nat.reduceEqDiff, Nat.reduceAdd, Nat.reduceLT, Nat.reduceMul, Nat.reduceSub, Nat.reduceLeDiff, Int.reduceLT, Int.reduceLE, Int.reduceEq, Option.isSome_some, implies_true, false_implies, Prod.mk.injEq, ne_eq, not_false_eq_true, not_true_eq_false, ge_iff_le, gt_iff_lt, Int.toNat_natCast, Int.reduceToNat, Int.cast_ofNat_Int, Int.natCast_nonneg, h1]
        refine CallsVia.none (isOperation_ok (xs.getD i 0)) ?_
        rintro _ _ _ ⟨rfl, rfl, rfl⟩
        cases h5 : isOp (xs.getD i 0)
        · simp only [absE, absL, absF, reduceCtorEq, ↓reduceIte, Nat.reduceEqDiff, Nat.reduceAdd, Nat.reduceLT, Nat.reduceMul, Nat.reduceSub, Nat.reduceLeDiff, Int.reduceLT, Int.reduceLE, Int.reduceEq, Option.isSome_some, implies_true, false_implies, Prod.mk.injEq, ne_eq, not_false_eq_true, not_true_eq_false, ge_iff_le, gt_iff_lt, Int.toNat_natCast, Int.reduceToNat, Int.cast_ofNat_Int, Int.natCast_nonneg, hf, Try.results87]
          exact ⟨[], by simp, by simp, by simp [renV, renBlk, renSegs, renSg, hf]⟩
        · have g2 : ¬(2 : Int) ≤ d := by
            rw [h5, Bool.true_and, decide_eq_false_iff_not] at h2; omega
          simp only [absE, absL, absF, reduceCtorEq, ↓reduceIte, Nat.reduceEqDiff, Nat.reduceAdd, Nat.reduceLT, Nat.reduceMul, Nat.reduceSub, Nat.reduceLeDiff, Int.reduceLT, Int.reduceLE, Int.reduceEq, Option.isSome_some, implies_true, false_implies, Prod.mk.injEq, ne_eq, not_false_eq_true, not_true_eq_false, ge_iff_le, gt_iff_lt, Int.toNat_natCast, Int.reduceToNat, Int.cast_ofNat_Int, Int.natCast_nonneg, g2, hf, Try.results87]
          exact ⟨[], by simp, by simp, by simp [renV, renBlk, renSegs, renSg, hf]⟩
    · have hik : i = k := by omega
      subst hik
      by_cases h1 : d = 1
      · subst h1
        by_cases h2 : i ≤ 40
        · have g : (i : Int) ≤ 40 := by omega
          have hf : trmB xs i = true := by unfold trmB; rw [hd]; simp [h2]
          simp only [absE, absL, absF, reduceCtorEq, ↓reduceIte, Nat.reduceEqDiff, Nat.reduceAdd, Nat.reduceLT, Nat.reduceMul, Nat.reduceSub, Nat.reduceLeDiff, Int.reduceLT, Int.reduceLE, Int.reduceEq, Option.isSome_some, implies_true, false_implies, Prod.mk.injEq, ne_eq, not_false_eq_true, not_true_eq_false, ge_iff_le, gt_iff_lt, Int.toNat_natCast, Int.reduceToNat, Int.cast_ofNat_Int, Int.natCast_nonneg, h, g, hf, Try.results87]
          exact ⟨[], by simp, by simp, by simp [renV, renBlk, renSegs, renSg, hf]⟩
        · have g : ¬(i : Int) ≤ 40 := by omega
          have hf : trmB xs i = false := by unfold trmB; rw [hd]; simp [h2]
          simp only [absE, absL, absF, reduceCtorEq, ↓reduceIte, Nat.reduceEqDiff, Nat.reduceAdd, Nat.reduceLT, Nat.reduceMul, Nat.reduceSub, Nat.reduceLeDiff, Int.reduceLT, Int.reduceLE, Int.reduceEq, Option.isSome_some, implies_true, false_implies, Prod.mk.injEq, ne_eq, not_false_eq_true, not_true_eq_false, ge_iff_le, gt_iff_lt, Int.toNat_natCast, Int.reduceToNat, Int.cast_ofNat_Int, Int.natCast_nonneg, h, g, hf, Try.results87]
          exact ⟨[], by simp, by simp, by simp [renV, renBlk, renSegs, renSg, hf]⟩
      · have g : ¬(d : Int) = 1 := by omega
        have hf : trmB xs i = false := by unfold trmB; rw [hd]; simp [h1]
        simp only [absE, absL, absF, reduceCtorEq, ↓reduceIte, Nat.reduceEqDiff, Nat.reduceAdd, Nat.reduceLT, Nat.reduceMul, Nat.reduceSub, Nat.reduceLeDiff, Int.reduceLT, Int.reduceLE, Int.reduceEq, Option.isSome_some, implies_true, false_implies, Prod.mk.injEq, ne_eq, not_false_eq_true, not_true_eq_false, ge_iff_le, gt_iff_lt, Int.toNat_natCast, Int.reduceToNat, Int.cast_ofNat_Int, Int.natCast_nonneg, h, g, hf, Try.results87]
        exact ⟨[], by simp, by simp, by simp [renV, renBlk, renSegs, renSg, hf]⟩
theorem isLf_iff {b : Int} : isLf b = true ↔ b = 120 ∨ b = 121 ∨ b = 122 ∨ b = 101 := by unfold isLf; rw [decide_eq_true_iff]
theorem l03Is_ok (xs : List Int) (k : Nat) (hk : k ≤ 2 ^ 20) :
    ACalls Try.prog 85 [.ref (.sl 0 0 0 0 k 1)] [.lv true [(0, .ints .u8 k xs)]] (fun v ms ns => v = .b (trmB xs k) ∧ ms = [.lv true [(0, .ints .u8 k xs)]] ∧ ns = []) := by
  refine acalls_of_body mix Try.func85 rfl fok85 (Nat.le_of_ble_eq_true rfl) ?_
  unfold abody
  simp only [absE, absL, absF, reduceCtorEq, ↓reduceIte, Nat.reduceEqDiff, Nat.reduceAdd, Nat.reduceLT, Nat.reduceMul, Nat.reduceSub, Nat.reduceLeDiff, Int.reduceLT, Int.reduceLE, Int.reduceEq, Option.isSome_some, implies_true, false_implies, Prod.mk.injEq, ne_eq, not_false_eq_true, not_true_eq_false, ge_iff_le, gt_iff_lt, Int.toNat_natCast, Int.reduceToNat, Int.cast_ofNat_Int, Int.natCast_nonneg, Try.f85]
  refine awpLoop.intro (fun s : Nat × Nat => [(0, .ref (.sl 0 0 0 0 k 1)), (3, .i .i64 s.2), (4, .i .i64 s.1)]) (fun s => ⟨[.lv true [(0, .ints .u8 k xs)]], [], 4⟩)
    (fun s => s.1 ≤ k ∧ dpt xs s.1 = some s.2) (fun s => k - s.1) (0, 0) ⟨by simp, rfl⟩ ⟨[], rfl, ?_, ?_⟩ ?_
  · simp [wkEnv, lk, renV, renAt, renTo]
  · simp [wkMem, wkLoc, Mem.get, assoc, renBlk, renSegs, renSg, renTo]
  · rintro ⟨i, d⟩ ⟨hi, hd⟩
    simp only at hi hd
    have hdi := dpt_le hd
    by_cases h : (i : Int) < k
    · have w := wrap_i64s (show i < 2 ^ 62 by omega)
      have v1 : 0 + i * 1 < k := by omega
      have e1 : xs.getD (0 + i * 1) 0 = xs.getD i 0 := by rw [Nat.zero_add, Nat.mul_one]
      have hst := dpt_step hd
      generalize hb : xs.getD i 0 = b at e1 hst
      rcases hst with ⟨h1, h2⟩ | ⟨h1, h2, h3, h4⟩ | ⟨h1, h2, h3⟩
      · have w2 := wrap_i64s (show d < 2 ^ 62 by omega)
        rcases isLf_iff.1 h1 with rfl | rfl | rfl | rfl
        all_goals
          simp only [absE, absL, absF, reduceCtorEq, ↓reduceIte, Nat.reduceEqDiff, Nat.reduceAdd, Nat.reduceLT, Nat.reduceMul, Nat.reduceSub, Nat.reduceLeDiff, Int.reduceLT, Int.reduceLE, Int.reduceEq, Option.isSome_some, implies_true, false_implies, Prod.mk.injEq, ne_eq, not_false_eq_true, not_true_eq_false, ge_iff_le, gt_iff_lt, Int.toNat_natCast, Int.reduceToNat, Int.cast_ofNat_Int, Int.natCast_nonneg, h, v1, e1]
          refine LoopNext.intro (i + 1, d + 1) ⟨by simp only; omega, h2⟩ (by simp only; omega) ⟨[], rfl, ?_, ?_⟩
          · simp [wkEnv, lk, renV, renAt, renTo, w, w2]
          · simp [wkMem, wkLoc, Mem.get, assoc, renBlk, renSegs, renSg, renTo]
      · have w2 : IntKind.i64.wrap ((d : Int) - 1) = ((d - 1 : Nat) : Int) := by rw [wrap_i64 (by omega) (by omega)]; omega
        have g2 : (2 : Int) ≤ d := by omega
        have n1 : ¬ b = 120 := fun e => by rw [isLf_iff.2 (.inl e)] at h1; cases h1
        have n2 : ¬ b = 121 := fun e => by rw [isLf_iff.2 (.inr (.inl e))] at h1; cases h1
        have n3 : ¬ b = 122 := fun e => by rw [isLf_iff.2 (.inr (.inr (.inl e)))] at h1; cases h1
        have n4 : ¬ b = 101 := fun e => by rw [isLf_iff.2 (.inr (.inr (.inr e)))] at h1; cases h1
        simp only [absE, absL, absF, reduceCtorEq, ↓reduceIte, Nat.reduceEqDiff, Nat.reduceAdd, Nat.reduceLT, Nat.reduceMul, Nat.reduceSub, Nat.reduceLeDiff, Int.reduceLT, Int.reduceLE, Int.reduceEq, Option.isSome_some, implies_true, false_implies, Prod.mk.injEq, ne_eq, not_false_eq_true, not_true_eq_false, ge_iff_le, gt_iff_lt, Int.toNat_natCast, Int.reduceToNat, Int.cast_ofNat_Int, Int.natCast_nonneg, h, v1, e1, n1, n2, n3, n4, decide_false]
        refine CallsVia.none (l03Op_ok b) ?_
        rintro _ _ _ ⟨rfl, rfl, rfl⟩
        simp only [absE, absL, absF, reduceCtorEq, ↓reduceIte, Nat.reduceEqDiff, Nat.reduceAdd, Nat.reduceLT, Nat.reduceMul, Nat.reduceSub, Nat.reduceLeDiff, Int.reduceLT, Int.reduceLE, Int.reduceEq, Option.isSome_some, implies_true, false_implies, Prod.mk.injEq, ne_eq, not_false_eq_true, not_true_eq_false, ge_iff_le, gt_iff_lt, Int.toNat_natCast, Int.reduceToNat, Int.cast_ofNat_Int, Int.natCast_nonneg, h2, g2]
        refine LoopNext.intro (i + 1, d - 1) ⟨by simp only; omega, h4⟩ (by simp only; omega) ⟨[], rfl, ?_, ?_⟩
        · simp [wkEnv, lk, renV, renAt, renTo, w, w2]
        · simp [wkMem, wkLoc, Mem.get, assoc, renBlk, renSegs, renSg, renTo, w, w2]
      · have hf : trmB xs k = false := by
          unfold trmB; rw [dpt_none h3 (by omega)]; rfl
        have n1 : ¬ b = 120 := fun e => by rw [isLf_iff.2 (.inl e)] at h1; cases h1
        have n2 : ¬ b = 121 := fun e => by rw [isLf_iff.2 (.inr (.inl e))] at h1; cases h1
        have n3 : ¬ b = 122 := fun e => by rw [isLf_iff.2 (.inr (.inr (.inl e)))] at h1; cases h1
        have n4 : ¬ b = 101 := fun e => by rw [isLf_iff.2 (.inr (.inr (.inr e)))] at h1; cases h1
        simp only [absE, absL, absF, reduceCtorEq, ↓reduceIte, Nat.reduceEqDiff, Nat.reduceAdd, Nat.reduceLT, Nat.reduceMul, Nat.reduceSub, Nat.reduceLeDiff, Int.reduceLT, Int.reduceLE, Int.reduceEq, Option.isSome_some, implies_true, false_implies, Prod.mk.injEq, ne_eq, not_false_eq_true, not_true_eq_false, ge_iff_le, gt_iff_lt, Int.toNat_natCast, Int.reduceToNat, Int.cast_ofNat_Int, Int.natCast_nonneg, h, v1, e1, n1, n2, n3, n4, decide_false]
        refine CallsVia.none (l03Op_ok b) ?_
        rintro _ _ _ ⟨rfl, rfl, rfl⟩
        cases h5 : isOp b
        · simp only [absE, absL, absF, reduceCtorEq, ↓reduceIte, Nat.reduceEqDiff, Nat.reduceAdd, Nat.reduceLT, Nat.reduceMul, Nat.reduceSub, Nat.reduceLeDiff, Int.reduceLT, Int.reduceLE, Int.reduceEq, Option.isSome_some, implies_true, false_implies, Prod.mk.injEq, ne_eq, not_false_eq_true, not_true_eq_false, ge_iff_le, gt_iff_lt, Int.toNat_natCast, Int.reduceToNat, Int.cast_ofNat_Int, Int.natCast_nonneg, hf, Try.results85]
          exact ⟨[], by simp, by simp, by simp [renV, renBlk, renSegs, renSg, hf]⟩
        · have g2 : ¬(2 : Int) ≤ d := by
            rw [h5, Bool.true_and, decide_eq_false_iff_not] at h2; omega
          simp only [absE, absL, absF, reduceCtorEq, ↓reduceIte, Nat.reduceEqDiff, Nat.reduceAdd, Nat.reduceLT, Nat.reduceMul, Nat.reduceSub, Nat.reduceLeDiff, Int.reduceLT, Int.reduceLE, Int.reduceEq, Option.isSome_some, implies_true, false_implies, Prod.mk.injEq, ne_eq, not_false_eq_true, not_true_eq_false, ge_iff_le, gt_iff_lt, Int.toNat_natCast, Int.reduceToNat, Int.cast_ofNat_Int, Int.natCast_nonneg, g2, hf, Try.results85]
          exact ⟨[], by simp, by simp, by simp [renV, renBlk, renSegs, renSg, hf]⟩
    · have hik : i = k := by omega
      subst hik
      by_cases h1 : d = 1
      · subst h1
        by_cases h2 : i ≤ 40
        · have g : (i : Int) ≤ 40 := by omega
          have hf : trmB xs i = true := by unfold trmB; rw [hd]; simp [h2]
          simp only [absE, absL, absF, reduceCtorEq, ↓reduceIte, Nat.reduceEqDiff, Nat.reduceAdd, Nat.reduceLT, Nat.reduceMul, Nat.reduceSub, Nat.reduceLeDiff, Int.reduceLT, Int.reduceLE, Int.reduceEq, Option.isSome_some, implies_true, false_implies, Prod.mk.injEq, ne_eq, not_false_eq_true, not_true_eq_false, ge_iff_le, gt_iff_lt, Int.toNat_natCast, Int.reduceToNat, Int.cast_ofNat_Int, Int.natCast_nonneg, h, g, hf, Try.results85]
          exact ⟨[], by simp, by simp, by simp [renV, renBlk, renSegs, renSg, hf]⟩
        · have g : ¬(i : Int) ≤ 40 := by omega
          have hf : trmB xs i = false := by unfold trmB; rw [hd]; simp [h2]
          simp only [absE, absL, absF, reduceCtorEq, ↓reduceIte, Nat.reduceEqDiff, Nat.reduceAdd, Nat.reduceLT, Nat.reduceMul, Nat.reduceSub, Nat.reduceLeDiff, Int.reduceLT, Int.reduceLE, Int.reduceEq, Option.isSome_some, implies_true, false_implies, Prod.mk.injEq, ne_eq, not_false_eq_true, not_true_eq_false, ge_iff_le, gt_iff_lt, Int.toNat_natCast, Int.reduceToNat, Int.cast_ofNat_Int, Int.natCast_nonneg, h, g, hf, Try.results85]
          exact ⟨[], by simp, by simp, by simp [renV, renBlk, renSegs, renSg, hf]⟩
      · have g : ¬(d : Int) = 1 := by omega
        have hf : trmB xs i = false := by unfold trmB; rw [hd]; simp [h1]
        simp only [absE, absL, absF, reduceCtorEq, ↓reduceIte, Nat.reduceEqDiff, Nat.reduceAdd, Nat.reduceLT, Nat.reduceMul, Nat.reduceSub, Nat.reduceLeDiff, Int.reduceLT, Int.reduceLE, Int.reduceEq, Option.isSome_some, implies_true, false_implies, Prod.mk.injEq, ne_eq, not_false_eq_true, not_true_eq_false, ge_iff_le, gt_iff_lt, Int.toNat_natCast, Int.reduceToNat, Int.cast_ofNat_Int, Int.natCast_nonneg, h, g, hf, Try.results85]
        exact ⟨[], by simp, by simp, by simp [renV, renBlk, renSegs, renSg, hf]⟩

end Go.Proofs.Ytoccbgffekhcaaa
