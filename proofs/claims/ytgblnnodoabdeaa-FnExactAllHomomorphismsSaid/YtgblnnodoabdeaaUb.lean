/-
Contracts of functions of the given program, by the abstract walk.
-/
import Derived.Test.YtgblnnodoabdeaaAbsY
import Derived.Test.YtgblnnodoabdeaaUa
import Derived.Test.YtgblnnodoabdeaaDc
namespace Go.Proofs.Ytgblnnodoabdeaa
open Go Go.Abs
set_option linter.unusedVariables false
set_option linter.unusedSectionVars false
set_option linter.unusedSimpArgs false
set_option maxRecDepth 100000
/-! the order of tables: plain; the functions that compare -/
theorem cmpR_self : ∀ (a : List Int), cmpR a a = 0
  | [] => rfl
  | x :: a => by simp only [cmpR, Int.lt_irrefl, if_false]; exact cmpR_self a
theorem cmpR_eq : ∀ {a b : List Int}, cmpR a b = 0 → a = b
  | [], [], _ => rfl
  | [], _ :: _, h => by simp [cmpR] at h
  | _ :: _, [], h => by simp [cmpR] at h
  | x :: a, y :: b, h => by
    simp only [cmpR] at h
    split at h
    · cases h
    · split at h
      · cases h
      · rw [cmpR_eq h, show x = y by omega]
theorem cmpR_neg : ∀ (a b : List Int), cmpR b a = - cmpR a b
  | [], [] => rfl
  | [], _ :: _ => rfl
  | _ :: _, [] => rfl
  | x :: a, y :: b => by
    simp only [cmpR]
    split <;> split <;> try first | rfl | omega
    exact cmpR_neg a b
theorem cmpR_rng : ∀ (a b : List Int), -1 ≤ cmpR a b ∧ cmpR a b ≤ 1
  | [], [] => by simp [cmpR]
  | [], _ :: _ => by simp [cmpR]
  | _ :: _, [] => by simp [cmpR]
  | x :: a, y :: b => by
    simp only [cmpR]
    have := cmpR_rng a b
    split
    · omega
    · split <;> omega
theorem cmpR_trans : ∀ {a b c : List Int}, cmpR a b ≤ 0 → cmpR b c ≤ 0 → cmpR a c ≤ 0
  | [], [], _, _, h => h
  | [], _ :: _, [], _, h => by simp [cmpR] at h
  | [], _ :: _, _ :: _, _, _ => by simp [cmpR]
  | _ :: _, [], _, h, _ => by simp [cmpR] at h
  | _ :: _, _ :: _, [], _, h => by simp [cmpR] at h
  | x :: a, y :: b, z :: c, h1, h2 => by
    simp only [cmpR] at h1 h2 ⊢
    by_cases e1 : x < y
    · by_cases e2 : y < z
      · rw [if_pos (by omega)]; decide
      · by_cases e3 : z < y
        · rw [if_neg e2, if_pos e3] at h2; exact absurd h2 (by decide)
        · rw [if_pos (by omega)]; decide
    · by_cases e4 : y < x
      · rw [if_neg e1, if_pos e4] at h1; exact absurd h1 (by decide)
      · rw [if_neg e1, if_neg e4] at h1
        by_cases e2 : y < z
        · rw [if_pos (by omega)]; decide
        · by_cases e3 : z < y
          · rw [if_neg e2, if_pos e3] at h2; exact absurd h2 (by decide)
          · rw [if_neg e2, if_neg e3] at h2
            rw [if_neg (by omega), if_neg (by omega)]
            exact cmpR_trans h1 h2
theorem cmpR_app : ∀ {a a' : List Int} (b b' : List Int), a.length = a'.length → cmpR (a ++ b) (a' ++ b') = if cmpR a a' = 0 then cmpR b b' else cmpR a a'
  | [], [], _, _, _ => by simp [cmpR]
  | [], _ :: _, _, _, h => by simp at h
  | _ :: _, [], _, _, h => by simp at h
  | x :: a, y :: a', b, b', h => by
    have ih := cmpR_app (a := a) (a' := a') b b' (by simpa using h)
    simp only [List.cons_append, cmpR, ih]
    by_cases e1 : x < y
    · simp [e1]
    · by_cases e2 : y < x
      · simp [e1, e2]
      · simp [e1, e2]
theorem cmpR_lt {a b : List Int} : cmpR a b < 0 ↔ ¬ cmpR b a ≤ 0 := by rw [cmpR_neg a b]; omega
theorem cmpR_anti {a b : List Int} (h1 : cmpR a b ≤ 0) (h2 : cmpR b a ≤ 0) : a = b := cmpR_eq (by rw [cmpR_neg a b] at h2; omega)
/-- Up to a place the same: then what stands there and behind decides. -/
theorem cmpR_at {a b : List Int} {k : Nat} (hl : a.length = b.length) (h : a.take k = b.take k) : cmpR a b = cmpR (a.drop k) (b.drop k) := by
  have e := cmpR_app (a.drop k) (b.drop k) (show (a.take k).length = (b.take k).length by rw [h])
  rw [List.take_append_drop, List.take_append_drop, h, cmpR_self, if_pos rfl] at e
  exact e
theorem row_split {t : List Int} {x : Nat} : t.drop (x * 10) = rwL t x ++ t.drop ((x + 1) * 10) := by
  unfold rwL
  conv => lhs; rw [← List.take_append_drop 10 (t.drop (x * 10))]
  rw [List.drop_drop]
  congr 2
  omega
theorem cmpT_row {t s : List Int} {x : Nat} (ht : t.length = 100) (hs : s.length = 100) (hx : x < 10) (h : t.take (x * 10) = s.take (x * 10)) (hne : cmpR (rwL t x) (rwL s x) ≠ 0) : cmpR t s = cmpR (rwL t x) (rwL s x) := by
  rw [cmpR_at (by omega) h, row_split, row_split (t := s), cmpR_app _ _ (by rw [rwL_len ht hx, rwL_len hs hx]), if_neg hne]
theorem take_row {t s : List Int} {x : Nat} (h : t.take (x * 10) = s.take (x * 10)) (h2 : rwL t x = rwL s x) : t.take ((x + 1) * 10) = s.take ((x + 1) * 10) := by
  have e : ∀ u : List Int, u.take ((x + 1) * 10) = u.take (x * 10) ++ rwL u x := fun u => by
    unfold rwL
    rw [← List.take_add]
    congr 1
    omega
  rw [e, e, h, h2]
theorem compareTables_ok (n m : Int) (t s : List Int) (ht : Bytes 100 t) (hs : Bytes 100 s) :
    ACalls Try.prog 84 [.agg (sqS n t), .agg (sqS m s)] [] (fun v ms ns => v = .i .i64 (cmpR t s) ∧ ms = [] ∧ ns = []) := by
  refine acalls_of_body mix Try.func84 rfl fok84 (Nat.le_of_ble_eq_true rfl) ?_
  unfold abody
  simp only [absE, absL, absF, reduceCtorEq, ↓reduceIte, Nat.reduceEqDiff, Nat.reduceAdd, Nat.reduceLT, Nat.reduceMul, Nat.reduceSub, Nat.reduceLeDiff, Int.reduceLT, Int.reduceLE, Int.reduceEq, Option.isSome_some, implies_true, false_implies, Prod.mk.injEq, ne_eq, not_false_eq_true, not_true_eq_false, ge_iff_le, gt_iff_lt, Int.toNat_natCast, Int.reduceToNat, Int.cast_ofNat_Int, Int.natCast_nonneg, Try.f84]
  refine awpLoop.intro (fun x : Nat => [(2, .ref (.ptr 1 0 0 0)), (3, .ref (.ptr 2 0 0 0)), (7, .i .i64 x)]) (fun x => ⟨[], [((1, 0), .lv true (sqS n t)), ((2, 0), .lv true (sqS m s))], 10⟩) (fun x => x ≤ 10 ∧ t.take (x * 10) = s.take (x * 10)) (fun x => 10 - x) 0 ⟨by omega, rfl⟩ ⟨[((1,0),(1,0)), ((2,0),(2,0))], rfl, ?_, ?_⟩ ?_
  · simp [wkEnv, lk, renV, renAt, renTo]
  · simp [wkMem, wkLoc, Mem.get, assoc, renBlk, renSegs, renSg, renTo]
  · rintro x ⟨hx, hq⟩
    by_cases h : (x : Int) < 10
    · have w := wrap_i64s (show x < 2 ^ 62 by omega)
      have hC := bytesCompare_ok n m t s x ht hs (by omega)
      have z1 : 0 + x * 10 + 0 = x * 10 := by omega
      simp only [absE, absL, absF, reduceCtorEq, ↓reduceIte, Nat.reduceEqDiff, Nat.reduceAdd, Nat.reduceLT, Nat.reduceMul, Nat.reduceSub, Nat.reduceLeDiff, Int.reduceLT, Int.reduceLE, Int.reduceEq, Option.isSome_some, implies_true, false_implies, Prod.mk.injEq, ne_eq, not_false_eq_true, not_true_eq_false, ge_iff_le, gt_iff_lt, Int.toNat_natCast, Int.reduceToNat, Int.cast_ofNat_Int, Int.natCast_nonneg, h, z1]
      refine ⟨by omega, by omega, ?_⟩
      refine CallsX.args [(1, 0), (2, 0)] hC (by simp) (by simp [Mem.get, assoc]) rfl rfl ?_
      simp only [absE, absL, absF, reduceCtorEq, ↓reduceIte, Nat.reduceEqDiff, Nat.reduceAdd, Nat.reduceLT, Nat.reduceMul, Nat.reduceSub, Nat.reduceLeDiff, Int.reduceLT, Int.reduceLE, Int.reduceEq, Option.isSome_some, implies_true, false_implies, Prod.mk.injEq, ne_eq, not_false_eq_true, not_true_eq_false, ge_iff_le, gt_iff_lt, Int.toNat_natCast, Int.reduceToNat, Int.cast_ofNat_Int, Int.natCast_nonneg]
      repeat refine And.intro (by decide +kernel) ?_
      by_cases e : cmpR (rwL t x) (rwL s x) = 0
      · simp only [absE, absL, absF, reduceCtorEq, ↓reduceIte, Nat.reduceEqDiff, Nat.reduceAdd, Nat.reduceLT, Nat.reduceMul, Nat.reduceSub, Nat.reduceLeDiff, Int.reduceLT, Int.reduceLE, Int.reduceEq, Option.isSome_some, implies_true, false_implies, Prod.mk.injEq, ne_eq, not_false_eq_true, not_true_eq_false, ge_iff_le, gt_iff_lt, Int.toNat_natCast, Int.reduceToNat, Int.cast_ofNat_Int, Int.natCast_nonneg, e]
        refine LoopNext.intro (x + 1) ⟨by omega, take_row hq (cmpR_eq e)⟩ (by omega) ⟨[((1,0),(1,0)), ((2,0),(2,0))], rfl, ?_, ?_⟩
        · simp [wkEnv, lk, renV, renAt, renTo, w]
        · simp [wkMem, wkLoc, Mem.get, assoc, renBlk, renSegs, renSg, renTo, w]
      · have e2 := cmpT_row ht.len hs.len (by omega) hq e
        simp only [absE, absL, absF, reduceCtorEq, ↓reduceIte, Nat.reduceEqDiff, Nat.reduceAdd, Nat.reduceLT, Nat.reduceMul, Nat.reduceSub, Nat.reduceLeDiff, Int.reduceLT, Int.reduceLE, Int.reduceEq, Option.isSome_some, implies_true, false_implies, Prod.mk.injEq, ne_eq, not_false_eq_true, not_true_eq_false, ge_iff_le, gt_iff_lt, Int.toNat_natCast, Int.reduceToNat, Int.cast_ofNat_Int, Int.natCast_nonneg, e, Try.results84]
        exact ⟨[], by simp, by simp, by simp [renV, e2]⟩
    · obtain rfl : x = 10 := by omega
      have e : t = s := by
        have e1 : t.take (10 * 10) = t := List.take_of_length_le (by rw [ht.len]; decide)
        have e2 : s.take (10 * 10) = s := List.take_of_length_le (by rw [hs.len]; decide)
        rw [← e1, hq, e2]
      simp only [absE, absL, absF, reduceCtorEq, ↓reduceIte, Nat.reduceEqDiff, Nat.reduceAdd, Nat.reduceLT, Nat.reduceMul, Nat.reduceSub, Nat.reduceLeDiff, Int.reduceLT, Int.reduceLE, Int.reduceEq, Option.isSome_some, implies_true, false_implies, Prod.mk.injEq, ne_eq, not_false_eq_true, not_true_eq_false, ge_iff_le, gt_iff_lt, Int.toNat_natCast, Int.reduceToNat, Int.cast_ofNat_Int, Int.natCast_nonneg, h, Try.results84]
      exact ⟨[], by simp, by simp, by simp [renV, e, cmpR_self]⟩
/-- Where two lists part. -/
theorem cmpR_part {p q : List Int} {i : Nat} (hl : p.length = q.length) (hi : i < p.length) (h : p.take i = q.take i) (hne : p.getD i 0 ≠ q.getD i 0) : decide (cmpR p q < 0) = decide (p.getD i 0 < q.getD i 0) := by
  rw [cmpR_at hl h, List.drop_eq_getElem_cons hi, List.drop_eq_getElem_cons (show i < q.length by omega)]
  have e1 : p.getD i 0 = p[i] := by simp [hi]
  have e2 : q.getD i 0 = q[i] := by simp [show i < q.length by omega]
  rw [e1, e2] at hne ⊢
  refine decide_eq_decide.2 ?_
  simp only [cmpR]
  by_cases c : p[i] < q[i]
  · rw [if_pos c]; simp [c]
  · rw [if_neg c, if_pos (by omega)]; simp [c]
theorem take_cell {p q : List Int} {i : Nat} (hl : p.length = q.length) (hi : i < p.length) (h : p.take i = q.take i) (he : p.getD i 0 = q.getD i 0) : p.take (i + 1) = q.take (i + 1) := by
  rw [List.take_add_one, List.take_add_one, h, List.getElem?_eq_getElem hi, List.getElem?_eq_getElem (show i < q.length by omega)]
  have e1 : p.getD i 0 = p[i] := by simp [hi]
  have e2 : q.getD i 0 = q[i] := by simp [show i < q.length by omega]
  rw [e1, e2] at he
  rw [he]
theorem l02Less_ok (p q : List Int) (hp : Bytes 10 p) (hq : Bytes 10 q) :
    ACalls Try.prog 128 [.agg (plS p), .agg (plS q)] [] (fun v ms ns => v = .b (decide (cmpR p q < 0)) ∧ ms = [] ∧ ns = []) := by
  have hpl := hp.len
  have hql := hq.len
  refine acalls_of_body mix Try.func128 rfl fok128 (Nat.le_of_ble_eq_true rfl) ?_
  unfold abody
  simp only [absE, absL, absF, reduceCtorEq, ↓reduceIte, Nat.reduceEqDiff, Nat.reduceAdd, Nat.reduceLT, Nat.reduceMul, Nat.reduceSub, Nat.reduceLeDiff, Int.reduceLT, Int.reduceLE, Int.reduceEq, Option.isSome_some, implies_true, false_implies, Prod.mk.injEq, ne_eq, not_false_eq_true, not_true_eq_false, ge_iff_le, gt_iff_lt, Int.toNat_natCast, Int.reduceToNat, Int.cast_ofNat_Int, Int.natCast_nonneg, Try.f128]
  refine awpLoop.intro (fun x : Nat => [(2, .ref (.ptr 1 0 0 0)), (3, .ref (.ptr 2 0 0 0)), (5, .i .i64 x)]) (fun x => ⟨[], [((1, 0), .lv true (plS p)), ((2, 0), .lv true (plS q))], 10⟩) (fun x => x ≤ 10 ∧ p.take x = q.take x) (fun x => 10 - x) 0 ⟨by omega, rfl⟩ ⟨[((1,0),(1,0)), ((2,0),(2,0))], rfl, ?_, ?_⟩ ?_
  · simp [wkEnv, lk, renV, renAt, renTo]
  · simp [wkMem, wkLoc, Mem.get, assoc, renBlk, renSegs, renSg, renTo]
  · rintro x ⟨hx, hh⟩
    by_cases h : (x : Int) < 10
    · have w := wrap_i64s (show x < 2 ^ 62 by omega)
      have z1 : ∀ u : List Int, u.getD (0 + x * 1) 0 = u.getD x 0 := fun u => by rw [Nat.zero_add, Nat.mul_one]
      have v1 : 0 + x * 1 < 10 := by omega
      by_cases e : p.getD x 0 = q.getD x 0
      · simp only [absE, absL, absF, reduceCtorEq, ↓reduceIte, Nat.reduceEqDiff, Nat.reduceAdd, Nat.reduceLT, Nat.reduceMul, Nat.reduceSub, Nat.reduceLeDiff, Int.reduceLT, Int.reduceLE, Int.reduceEq, Option.isSome_some, implies_true, false_implies, Prod.mk.injEq, ne_eq, not_false_eq_true, not_true_eq_false, ge_iff_le, gt_iff_lt, Int.toNat_natCast, Int.reduceToNat, Int.cast_ofNat_Int, Int.natCast_nonneg, h, v1, z1, e]
        repeat refine And.intro (by decide +kernel) ?_
        refine LoopNext.intro (x + 1) ⟨by omega, take_cell (by omega) (by omega) hh e⟩ (by omega) ⟨[((1,0),(1,0)), ((2,0),(2,0))], rfl, ?_, ?_⟩
        · simp [wkEnv, lk, renV, renAt, renTo, w]
        · simp [wkMem, wkLoc, Mem.get, assoc, renBlk, renSegs, renSg, renTo, w]
      · have e2 := cmpR_part (by omega) (by omega) hh e
        simp only [absE, absL, absF, reduceCtorEq, ↓reduceIte, Nat.reduceEqDiff, Nat.reduceAdd, Nat.reduceLT, Nat.reduceMul, Nat.reduceSub, Nat.reduceLeDiff, Int.reduceLT, Int.reduceLE, Int.reduceEq, Option.isSome_some, implies_true, false_implies, Prod.mk.injEq, ne_eq, not_false_eq_true, not_true_eq_false, ge_iff_le, gt_iff_lt, Int.toNat_natCast, Int.reduceToNat, Int.cast_ofNat_Int, Int.natCast_nonneg, h, v1, z1, e]
        repeat refine And.intro (by decide +kernel) ?_
        simp only [absE, absL, absF, reduceCtorEq, ↓reduceIte, Nat.reduceEqDiff, Nat.reduceAdd, Nat.reduceLT, Nat.reduceMul, Nat.reduceSub, Nat.reduceLeDiff, Int.reduceLT, Int.reduceLE, Int.reduceEq, Option.isSome_some, implies_true, false_implies, Prod.mk.injEq, ne_eq, not_false_eq_true, not_true_eq_false, ge_iff_le, gt_iff_lt, Int.toNat_natCast, Int.reduceToNat, Int.cast_ofNat_Int, Int.natCast_nonneg, h, v1, z1, Try.results128]
        repeat refine And.intro (by decide +kernel) ?_
        exact ⟨[], by simp, by simp, by simp [renV, e2]⟩
    · obtain rfl : x = 10 := by omega
      have e : p = q := by
        have e1 : p.take 10 = p := List.take_of_length_le (by omega)
        have e2 : q.take 10 = q := List.take_of_length_le (by omega)
        rw [← e1, hh, e2]
      simp only [absE, absL, absF, reduceCtorEq, ↓reduceIte, Nat.reduceEqDiff, Nat.reduceAdd, Nat.reduceLT, Nat.reduceMul, Nat.reduceSub, Nat.reduceLeDiff, Int.reduceLT, Int.reduceLE, Int.reduceEq, Option.isSome_some, implies_true, false_implies, Prod.mk.injEq, ne_eq, not_false_eq_true, not_true_eq_false, ge_iff_le, gt_iff_lt, Int.toNat_natCast, Int.reduceToNat, Int.cast_ofNat_Int, Int.natCast_nonneg, h, Try.results128]
      exact ⟨[], by simp, by simp, by simp [renV, e, cmpR_self]⟩
theorem rwL_bytes {t : List Int} (h : Bytes 100 t) {x : Nat} (hx : x < 10) : Bytes 10 (rwL t x) := ⟨rwL_len h.len hx, fun i => by
  by_cases hi : i < (rwL t x).length
  · have := rwL_isB h hx ((rwL t x)[i]) (List.getElem_mem hi)
    rw [List.getD_eq_getElem?_getD, List.getElem?_eq_getElem hi]
    exact this
  · rw [List.getD_eq_getElem?_getD, List.getElem?_eq_none (by omega)]; simp⟩
theorem l02Lower_ok (t s : List Int) (ht : Bytes 100 t) (hs : Bytes 100 s) :
    ACalls Try.prog 81 [.agg (tbS t), .agg (tbS s)] [] (fun v ms ns => v = .b (decide (cmpR t s < 0)) ∧ ms = [] ∧ ns = []) := by
  refine acalls_of_body mix Try.func81 rfl fok81 (Nat.le_of_ble_eq_true rfl) ?_
  unfold abody
  simp only [absE, absL, absF, reduceCtorEq, ↓reduceIte, Nat.reduceEqDiff, Nat.reduceAdd, Nat.reduceLT, Nat.reduceMul, Nat.reduceSub, Nat.reduceLeDiff, Int.reduceLT, Int.reduceLE, Int.reduceEq, Option.isSome_some, implies_true, false_implies, Prod.mk.injEq, ne_eq, not_false_eq_true, not_true_eq_false, ge_iff_le, gt_iff_lt, Int.toNat_natCast, Int.reduceToNat, Int.cast_ofNat_Int, Int.natCast_nonneg, Try.f81]
  refine awpLoop.intro (fun x : Nat => [(2, .ref (.ptr 1 0 0 0)), (3, .ref (.ptr 2 0 0 0)), (5, .i .i64 x)]) (fun x => ⟨[], [((1, 0), .lv true (tbS t)), ((2, 0), .lv true (tbS s))], 10⟩) (fun x => x ≤ 10 ∧ t.take (x * 10) = s.take (x * 10)) (fun x => 10 - x) 0 ⟨by omega, rfl⟩ ⟨[((1,0),(1,0)), ((2,0),(2,0))], rfl, ?_, ?_⟩ ?_
  · simp [wkEnv, lk, renV, renAt, renTo]
  · simp [wkMem, wkLoc, Mem.get, assoc, renBlk, renSegs, renSg, renTo]
  · rintro x ⟨hx, hh⟩
    by_cases h : (x : Int) < 10
    · have w := wrap_i64s (show x < 2 ^ 62 by omega)
      have z1 : ∀ u : List Int, (u.drop (0 + x * 10)).take 10 = rwL u x := fun u => by rw [Nat.zero_add]; rfl
      have v1 : 0 + x * 10 + 10 ≤ 100 := by omega
      by_cases e : rwL t x = rwL s x
      · simp only [absE, absL, absF, reduceCtorEq, ↓reduceIte, Nat.reduceEqDiff, Nat.reduceAdd, Nat.reduceLT, Nat.reduceMul, Nat.reduceSub, Nat.reduceLeDiff, Int.reduceLT, Int.reduceLE, Int.reduceEq, Option.isSome_some, implies_true, false_implies, Prod.mk.injEq, ne_eq, not_false_eq_true, not_true_eq_false, ge_iff_le, gt_iff_lt, Int.toNat_natCast, Int.reduceToNat, Int.cast_ofNat_Int, Int.natCast_nonneg, h, v1, z1, e]
        repeat refine And.intro (by decide +kernel) ?_
        refine LoopNext.intro (x + 1) ⟨by omega, take_row hh e⟩ (by omega) ⟨[((1,0),(1,0)), ((2,0),(2,0))], rfl, ?_, ?_⟩
        · simp [wkEnv, lk, renV, renAt, renTo, w]
        · simp [wkMem, wkLoc, Mem.get, assoc, renBlk, renSegs, renSg, renTo, w]
      · have e2 := cmpT_row ht.len hs.len (show x < 10 by omega) hh (fun h0 => e (cmpR_eq h0))
        simp only [absE, absL, absF, reduceCtorEq, ↓reduceIte, Nat.reduceEqDiff, Nat.reduceAdd, Nat.reduceLT, Nat.reduceMul, Nat.reduceSub, Nat.reduceLeDiff, Int.reduceLT, Int.reduceLE, Int.reduceEq, Option.isSome_some, implies_true, false_implies, Prod.mk.injEq, ne_eq, not_false_eq_true, not_true_eq_false, ge_iff_le, gt_iff_lt, Int.toNat_natCast, Int.reduceToNat, Int.cast_ofNat_Int, Int.natCast_nonneg, h, v1, z1, e]
        repeat refine And.intro (by decide +kernel) ?_
        simp only [absE, absL, absF, reduceCtorEq, ↓reduceIte, Nat.reduceEqDiff, Nat.reduceAdd, Nat.reduceLT, Nat.reduceMul, Nat.reduceSub, Nat.reduceLeDiff, Int.reduceLT, Int.reduceLE, Int.reduceEq, Option.isSome_some, implies_true, false_implies, Prod.mk.injEq, ne_eq, not_false_eq_true, not_true_eq_false, ge_iff_le, gt_iff_lt, Int.toNat_natCast, Int.reduceToNat, Int.cast_ofNat_Int, Int.natCast_nonneg, h, v1, z1]
        refine CallsX.none (l02Less_ok (rwL t x) (rwL s x) (rwL_bytes ht (by omega)) (rwL_bytes hs (by omega))) ?_
        simp only [absE, absL, absF, reduceCtorEq, ↓reduceIte, Nat.reduceEqDiff, Nat.reduceAdd, Nat.reduceLT, Nat.reduceMul, Nat.reduceSub, Nat.reduceLeDiff, Int.reduceLT, Int.reduceLE, Int.reduceEq, Option.isSome_some, implies_true, false_implies, Prod.mk.injEq, ne_eq, not_false_eq_true, not_true_eq_false, ge_iff_le, gt_iff_lt, Int.toNat_natCast, Int.reduceToNat, Int.cast_ofNat_Int, Int.natCast_nonneg, Try.results81]
        repeat refine And.intro (by decide +kernel) ?_
        exact ⟨[], by simp, by simp, by simp [renV, e2]⟩
    · obtain rfl : x = 10 := by omega
      have e : t = s := by
        have e1 : t.take (10 * 10) = t := List.take_of_length_le (by rw [ht.len]; decide)
        have e2 : s.take (10 * 10) = s := List.take_of_length_le (by rw [hs.len]; decide)
        rw [← e1, hh, e2]
      simp only [absE, absL, absF, reduceCtorEq, ↓reduceIte, Nat.reduceEqDiff, Nat.reduceAdd, Nat.reduceLT, Nat.reduceMul, Nat.reduceSub, Nat.reduceLeDiff, Int.reduceLT, Int.reduceLE, Int.reduceEq, Option.isSome_some, implies_true, false_implies, Prod.mk.injEq, ne_eq, not_false_eq_true, not_true_eq_false, ge_iff_le, gt_iff_lt, Int.toNat_natCast, Int.reduceToNat, Int.cast_ofNat_Int, Int.natCast_nonneg, h, Try.results81]
      exact ⟨[], by simp, by simp, by simp [renV, e, cmpR_self]⟩

end Go.Proofs.Ytgblnnodoabdeaa
