/-
Contracts of functions of the given program, by the abstract walk.
-/
import Derived.Test.YtoccbgffekhcaaaAbsY
import Derived.Test.YtoccbgffekhcaaaPa
import Derived.Test.YtoccbgffekhcaaaDl
namespace Go.Proofs.Ytoccbgffekhcaaa
open Go Go.Abs
set_option linter.unusedVariables false
set_option linter.unusedSectionVars false
set_option linter.unusedSimpArgs false
set_option maxRecDepth 100000
/-! the values of terms: the walks -/
structure ValT (N : Nat) (t V : List Int) : Prop where
  len : V.length = 300
  prod : ∀ a b, a < N → b < N → V.getD (a * 10 + b) 0 = (cl t a b : Int)
  ldiv : ∀ a b, a < N → b < N → V.getD (100 + a * 10 + b) 0 = (ldF N t a b : Int)
  rdiv : ∀ a b, a < N → b < N → V.getD (200 + a * 10 + b) 0 = (rdF N t a b : Int)
structure ValI (N : Nat) (t V : List Int) (x y : Nat) : Prop where
  len : V.length = 300
  prod : ∀ a b, a < 10 → b < 10 → V.getD (a * 10 + b) 0 = (cl t a b : Int)
  ldiv : ∀ a b, a < N → b < N → (a < x ∨ (a = x ∧ b < y)) → V.getD (100 + a * 10 + cl t a b) 0 = (b : Int)
  rdiv : ∀ a b, a < N → b < N → (a < x ∨ (a = x ∧ b < y)) → V.getD (200 + cl t a b * 10 + b) 0 = (a : Int)
theorem ValI.next {N : Nat} {t V : List Int} {x y : Nat} (hs : SqP N t) (h : ValI N t V x y) (hx : x < N) (hy : y < N) :
    ValI N t ((V.set (100 + x * 10 + cl t x y) (y : Int)).set (200 + cl t x y * 10 + y) (x : Int)) x (y + 1) := by
  have hN := hs.le
  have hc := hs.cl_lt hx hy
  have l1 := h.len
  have g : ∀ p, ((V.set (100 + x * 10 + cl t x y) (y : Int)).set (200 + cl t x y * 10 + y) (x : Int)).getD p 0 = if 200 + cl t x y * 10 + y = p then (x : Int) else if 100 + x * 10 + cl t x y = p then (y : Int) else V.getD p 0 := fun p => by
    rw [getD_set_int (by rw [List.length_set]; omega), getD_set_int (by omega)]
  refine ⟨by simp [l1], fun a b ha hb => ?_, fun a b ha hb hab => ?_, fun a b ha hb hab => ?_⟩
  · rw [g, if_neg (by omega), if_neg (by omega)]; exact h.prod a b ha hb
  · have hcab := hs.cl_lt ha hb
    rw [g, if_neg (by omega)]
    by_cases e : 100 + x * 10 + cl t x y = 100 + a * 10 + cl t a b
    · rw [if_pos e]
      have e1 : x = a := by omega
      subst e1
      have e2 : y = b := (hs.rowP ha).inj hN hy hb (by omega)
      rw [e2]
    · rw [if_neg e]
      refine h.ldiv a b ha hb ?_
      rcases hab with h1 | ⟨h1, h2⟩
      · exact .inl h1
      · by_cases e3 : b = y
        · subst h1; subst e3; exact absurd rfl e
        · exact .inr ⟨h1, by omega⟩
  · have hcab := hs.cl_lt ha hb
    rw [g]
    by_cases e : 200 + cl t x y * 10 + y = 200 + cl t a b * 10 + b
    · rw [if_pos e]
      have e1 : y = b := by omega
      subst e1
      have e2 : x = a := (hs.colP hb).inj hN hx ha (show cl t x y = cl t a y by omega)
      rw [e2]
    · rw [if_neg e, if_neg (by omega)]
      refine h.rdiv a b ha hb ?_
      rcases hab with h1 | ⟨h1, h2⟩
      · exact .inl h1
      · by_cases e3 : b = y
        · subst h1; subst e3; exact absurd rfl e
        · exact .inr ⟨h1, by omega⟩
theorem ValI.row {N : Nat} {t V : List Int} {x : Nat} (h : ValI N t V x N) : ValI N t V (x + 1) 0 :=
  { h with ldiv := fun a b ha hb hab => h.ldiv a b ha hb (by omega), rdiv := fun a b ha hb hab => h.rdiv a b ha hb (by omega) }
theorem ValI.done {N : Nat} {t V : List Int} (hs : SqP N t) (h : ValI N t V N 0) : ValT N t V := by
  have hN := hs.le
  refine ⟨h.len, fun a b ha hb => h.prod a b (by omega) (by omega), fun a c ha hc => ?_, fun c b hc hb => ?_⟩
  · have hb := (hs.rowP ha).fnd_lt hN hc
    have e : cl t a (fnd (cl t a) c N) = c := fnd_at hb
    have := h.ldiv a _ ha hb (.inl ha)
    rw [e] at this; exact this
  · have ha := (hs.colP hb).fnd_lt hN hc
    have e : cl t (fnd (fun i => cl t i b) c N) b = c := fnd_at (f := fun i => cl t i b) ha
    have := h.rdiv _ b ha hb (.inl ha)
    rw [e] at this; exact this
theorem ValI.init {N : Nat} {t : List Int} (ht : Bytes 100 t) : ValI N t (t ++ List.replicate 200 0) 0 0 := by
  refine ⟨by simp [ht.len], fun a b ha hb => ?_, fun a b _ _ h => absurd h (by omega), fun a b _ _ h => absurd h (by omega)⟩
  rw [← ht.cell a b, List.getD_eq_getElem?_getD, List.getElem?_append_left (by rw [ht.len]; omega), ← List.getD_eq_getElem?_getD]
theorem spl_head {t : List Int} (ht : t.length = 100) : spl (List.replicate 300 0) 0 t = t ++ List.replicate 200 0 := by
  rw [spl_eq_int (by simp [ht]), ht]; simp
theorem newValues_ok (N : Nat) (t : List Int) (ht : Bytes 100 t) (hs : SqP N t) :
    ACalls Try.prog 89 [.agg (sqS N t)] [] (fun v ms ns => ∃ V, ValT N t V ∧ v = .ref (.ptr 1 0 0 0) ∧ ms = [] ∧ ns = [.lv true [(0, .ints .u8 300 V)]]) := by
  have hN := hs.le
  have hsp := spl_head ht.len
  refine acalls_of_body mix Try.func89 rfl fok89 (Nat.le_of_ble_eq_true rfl) ?_
  unfold abody
  simp only [absE, absL, absF, reduceCtorEq, ↓reduceIte, Nat.reduceEqDiff, Nat.reduceAdd, Nat.reduceLT, Nat.reduceMul, Nat.reduceSub, Nat.reduceLeDiff, Int.reduceLT, Int.reduceLE, Int.reduceEq, Option.isSome_some, implies_true, false_implies, Prod.mk.injEq, ne_eq, not_false_eq_true, not_true_eq_false, ge_iff_le, gt_iff_lt, Int.toNat_natCast, Int.reduceToNat, Int.cast_ofNat_Int, Int.natCast_nonneg, hsp, Try.f89]
  repeat first | refine And.intro (by decide +kernel) ?_ | refine And.intro (by omega) ?_
  refine CallsVia.none (elements_ok N t hN) ?_
  rintro _ _ _ ⟨rfl, rfl, rfl⟩
  simp only [absE, absL, absF, reduceCtorEq, ↓reduceIte, Nat.reduceEqDiff, Nat.reduceAdd, Nat.reduceLT, Nat.reduceMul, Nat.reduceSub, Nat.reduceLeDiff, Int.reduceLT, Int.reduceLE, Int.reduceEq, Option.isSome_some, implies_true, false_implies, Prod.mk.injEq, ne_eq, not_false_eq_true, not_true_eq_false, ge_iff_le, gt_iff_lt, Int.toNat_natCast, Int.reduceToNat, Int.cast_ofNat_Int, Int.natCast_nonneg]
  refine awpLoop.intro (fun s : Nat × List Int => [(1, .ref (.ptr 1 0 0 0)), (3, .ref (.ptr 6 0 0 0)), (14, .ref (.sl 9 0 0 0 N 1)), (15, .i .i64 N), (16, .i .i64 s.1)]) (fun s => ⟨[], [((1, 0), .lv true (sqS N t)), ((6, 0), .lv true ([(0, .ints .u8 300 s.2)])), ((9, 0), .lv true ([(0, .ints .u8 N (bytesTo N))]))], 12⟩)
    (fun s => s.1 ≤ N ∧ ValI N t s.2 s.1 0) (fun s => N - s.1) (0, t ++ List.replicate 200 0) ⟨by simp, ValI.init ht⟩ ⟨[((1,0),(1,0)), ((6,0),(6,0)), ((9,0),(9,0))], rfl, ?_, ?_⟩ ?_
  · simp [wkEnv, lk, renV, renAt, renTo]
  · simp [wkMem, wkLoc, Mem.get, assoc, renBlk, renSegs, renSg, renTo, -List.reduceReplicate]
  · rintro ⟨x, V⟩ ⟨hx, hV⟩
    simp only at hx hV
    by_cases h : (x : Int) < N
    · have w := wrap_i64s (show x < 2 ^ 62 by omega)
      have b1 : (bytesTo N).getD (0 + x * 1) 0 = (x : Int) := by rw [Nat.zero_add, Nat.mul_one]; exact bytesTo_get (by omega)
      have v1 : 0 + x * 1 < N := by omega
      simp only [absE, absL, absF, reduceCtorEq, ↓reduceIte, Nat.reduceEqDiff, Nat.reduceAdd, Nat.reduceLT, Nat.reduceMul, Nat.reduceSub, Nat.reduceLeDiff, Int.reduceLT, Int.reduceLE, Int.reduceEq, Option.isSome_some, implies_true, false_implies, Prod.mk.injEq, ne_eq, not_false_eq_true, not_true_eq_false, ge_iff_le, gt_iff_lt, Int.toNat_natCast, Int.reduceToNat, Int.cast_ofNat_Int, Int.natCast_nonneg, h, b1, v1]
      refine CallsVia.none (elements_ok N t hN) ?_
      rintro _ _ _ ⟨rfl, rfl, rfl⟩
      simp only [absE, absL, absF, reduceCtorEq, ↓reduceIte, Nat.reduceEqDiff, Nat.reduceAdd, Nat.reduceLT, Nat.reduceMul, Nat.reduceSub, Nat.reduceLeDiff, Int.reduceLT, Int.reduceLE, Int.reduceEq, Option.isSome_some, implies_true, false_implies, Prod.mk.injEq, ne_eq, not_false_eq_true, not_true_eq_false, ge_iff_le, gt_iff_lt, Int.toNat_natCast, Int.reduceToNat, Int.cast_ofNat_Int, Int.natCast_nonneg]
      refine awpLoop.intro (fun s : Nat × List Int => [(1, .ref (.ptr 1 0 0 0)), (3, .ref (.ptr 6 0 0 0)), (14, .ref (.sl 9 0 0 0 N 1)), (15, .i .i64 N), (16, .i .i64 x), (5, .i .u8 x), (21, .ref (.sl 17 0 0 0 N 1)), (22, .i .i64 N), (23, .i .i64 s.1)]) (fun s => ⟨[], [((1, 0), .lv true (sqS N t)), ((6, 0), .lv true ([(0, .ints .u8 300 s.2)])), ((9, 0), .lv true ([(0, .ints .u8 N (bytesTo N))])), ((17, 0), .lv true ([(0, .ints .u8 N (bytesTo N))]))], 20⟩)
        (fun s => s.1 ≤ N ∧ ValI N t s.2 x s.1) (fun s => N - s.1) (0, V) ⟨by simp, hV⟩ ⟨[((1,0),(1,0)), ((6,0),(6,0)), ((9,0),(9,0)), ((17,0),(17,0))], rfl, ?_, ?_⟩ ?_
      · simp [wkEnv, lk, renV, renAt, renTo]
      · simp [wkMem, wkLoc, Mem.get, assoc, renBlk, renSegs, renSg, renTo]
      · rintro ⟨y, V⟩ ⟨hy, hV⟩
        simp only at hy hV
        by_cases h' : (y : Int) < N
        · have w' := wrap_i64s (show y < 2 ^ 62 by omega)
          have b2 : (bytesTo N).getD (0 + y * 1) 0 = (y : Int) := by rw [Nat.zero_add, Nat.mul_one]; exact bytesTo_get (by omega)
          have v2 : 0 + y * 1 < N := by omega
          have i1 : (x : Int) < 10 := by omega
          have i2 : (y : Int) < 10 := by omega
          have u1 : 0 + x * 10 + y * 1 < 100 := by omega
          have k1 := sq_colget ht x y
          have hc := hs.cl_lt (show x < N by omega) (show y < N by omega)
          have i3 : (cl t x y : Int) < 10 := by omega
          have hn := hV.next hs (show x < N by omega) (show y < N by omega)
          have e1 : 0 + 100 + x * 10 + cl t x y * 1 = 100 + x * 10 + cl t x y := by omega
          have e2 : 0 + 200 + cl t x y * 10 + y * 1 = 200 + cl t x y * 10 + y := by omega
          have r1 : 100 + x * 10 + cl t x y + 1 ≤ 300 := by omega
          have r2 : 200 + cl t x y * 10 + y + 1 ≤ 300 := by omega
          simp only [absE, absL, absF, reduceCtorEq, ↓reduceIte, Nat.reduceEqDiff, Nat.reduceAdd, Nat.reduceLT, Nat.reduceMul, Nat.reduceSub, Nat.reduceLeDiff, Int.reduceLT, Int.reduceLE, Int.reduceEq, Option.isSome_some, implies_true, false_implies, Prod.mk.injEq, ne_eq, not_false_eq_true, not_true_eq_false, ge_iff_le, gt_iff_lt, Int.toNat_natCast, Int.reduceToNat, Int.cast_ofNat_Int, Int.natCast_nonneg, h', b2, v2, i1, i2, i3, u1, k1, e1, e2, r1, r2]
          repeat first | refine And.intro (by decide +kernel) ?_ | refine And.intro (by omega) ?_
          refine LoopNext.intro (y + 1, _) ⟨by simp only; omega, hn⟩ (by simp only; omega) ⟨[((1,0),(1,0)), ((6,0),(6,0)), ((9,0),(9,0)), ((17,0),(17,0))], rfl, ?_, ?_⟩
          · simp [wkEnv, lk, renV, renAt, renTo, w']
          · simp [wkMem, wkLoc, Mem.get, assoc, renBlk, renSegs, renSg, renTo, w']
        · obtain rfl : y = N := by omega
          simp only [absE, absL, absF, reduceCtorEq, ↓reduceIte, Nat.reduceEqDiff, Nat.reduceAdd, Nat.reduceLT, Nat.reduceMul, Nat.reduceSub, Nat.reduceLeDiff, Int.reduceLT, Int.reduceLE, Int.reduceEq, Option.isSome_some, implies_true, false_implies, Prod.mk.injEq, ne_eq, not_false_eq_true, not_true_eq_false, ge_iff_le, gt_iff_lt, Int.toNat_natCast, Int.reduceToNat, Int.cast_ofNat_Int, Int.natCast_nonneg, h', w]
          refine LoopNext.intro (x + 1, V) ⟨by simp only; omega, hV.row⟩ (by simp only; omega) ⟨[((1,0),(1,0)), ((6,0),(6,0)), ((9,0),(9,0))], rfl, ?_, ?_⟩
          · simp [wkEnv, lk, renV, renAt, renTo]
          · simp [wkMem, wkLoc, Mem.get, assoc, renBlk, renSegs, renSg, renTo]
    · obtain rfl : x = N := by omega
      simp only [absE, absL, absF, reduceCtorEq, ↓reduceIte, Nat.reduceEqDiff, Nat.reduceAdd, Nat.reduceLT, Nat.reduceMul, Nat.reduceSub, Nat.reduceLeDiff, Int.reduceLT, Int.reduceLE, Int.reduceEq, Option.isSome_some, implies_true, false_implies, Prod.mk.injEq, ne_eq, not_false_eq_true, not_true_eq_false, ge_iff_le, gt_iff_lt, Int.toNat_natCast, Int.reduceToNat, Int.cast_ofNat_Int, Int.natCast_nonneg, h, Try.results89]
      exact ⟨[(6, 0)], by simp, by simp, V, hV.done hs, by simp [renV, renAt, renFin, idx], by simp, by simp [renBlk, renSegs, renSg, Mem.get, assoc]⟩
theorem apB_apply {N : Nat} {t : List Int} {b : Int} {a c : Nat} : applyN N t b a c = apB N t b a c := by
  unfold applyN apB ldF rdF; rfl
def sI (S : List Nat) : List Int := S.map (fun v : Nat => (v : Int))
theorem sI_get {S : List Nat} {j : Nat} : (sI S).getD j 0 = ((S.getD j 0 : Nat) : Int) := by
  unfold sI
  by_cases h : j < S.length
  · simp [h]
  · simp [show S.length ≤ j by omega]
theorem sI_len {S : List Nat} : (sI S).length = S.length := by simp [sI]
theorem ta_get {S : List Nat} {m j v : Nat} (hm : m ≤ S.length) : (S.take m ++ [v]).getD j 0 = if j < m then S.getD j 0 else if j = m then v else 0 := by
  have hl : (S.take m).length = m := by simp; omega
  rw [List.getD_eq_getElem?_getD, List.getElem?_append]
  by_cases h : j < m
  · rw [if_pos (by omega), if_pos h, List.getElem?_take, if_pos h, List.getD_eq_getElem?_getD]
  · rw [if_neg (by omega), if_neg h, hl]
    by_cases e : j = m
    · subst e; simp
    · rw [if_neg e, List.getElem?_eq_none (by simp; omega)]; rfl
theorem sn_get {S : List Nat} {j v : Nat} : (S ++ [v]).getD j 0 = if j < S.length then S.getD j 0 else if j = S.length then v else 0 := by
  have := ta_get (S := S) (m := S.length) (j := j) (v := v) (Nat.le_refl _)
  rwa [List.take_length] at this
theorem trmB_iff {xs : List Int} {k : Nat} : trmB xs k = true ↔ dpt xs k = some 1 ∧ k ≤ 40 := by unfold trmB; rw [Bool.and_eq_true, decide_eq_true_iff, decide_eq_true_iff]
theorem isOp_iff {b : Int} : isOp b = true ↔ b = 42 ∨ b = 92 ∨ b = 47 := by unfold isOp; rw [decide_eq_true_iff]
theorem stk_leaf {N : Nat} {t : List Int} {x y z : Nat} {xs : List Int} {i : Nat} (h : isLf (xs.getD i 0) = true) : stk N t x y z xs (i + 1) = stk N t x y z xs i ++ [symV x y z (xs.getD i 0)] := by rw [stk, if_pos h]
theorem stk_op {N : Nat} {t : List Int} {x y z : Nat} {xs : List Int} {i : Nat} (h : isLf (xs.getD i 0) = false) : stk N t x y z xs (i + 1) = (stk N t x y z xs i).take ((stk N t x y z xs i).length - 2) ++ [apB N t (xs.getD i 0) ((stk N t x y z xs i).getD ((stk N t x y z xs i).length - 2) 0) ((stk N t x y z xs i).getD ((stk N t x y z xs i).length - 1) 0)] := by
  rw [stk, if_neg (by rw [h]; simp)]
theorem of_ok (N : Nat) (t V : List Int) (x y z : Nat) (xs : List Int) (k : Nat) (hs : SqP N t) (hV : ValT N t V) (hx : x < N) (hy : y < N) (hz : z < N) (hT : trmB xs k = true) :
    ACalls Try.prog 90 [.ref (.ptr 0 0 0 0), .ref (.sl 0 1 0 0 k 1), .agg [(0, .ints .u8 3 [(x : Int), (y : Int), (z : Int)])]] [.lv true [(0, .ints .u8 300 V)], .lv true [(0, .ints .u8 k xs)]]
      (fun v ms ns => v = .i .u8 (trmV N t x y z xs k) ∧ ms = [.lv true [(0, .ints .u8 300 V)], .lv true [(0, .ints .u8 k xs)]] ∧ ns = []) := by
  have hN := hs.le
  obtain ⟨hd1, hk⟩ := trmB_iff.1 hT
  refine acalls_of_body mix Try.func90 rfl fok90 (Nat.le_of_ble_eq_true rfl) ?_
  unfold abody
  simp only [absE, absL, absF, reduceCtorEq, ↓reduceIte, Nat.reduceEqDiff, Nat.reduceAdd, Nat.reduceLT, Nat.reduceMul, Nat.reduceSub, Nat.reduceLeDiff, Int.reduceLT, Int.reduceLE, Int.reduceEq, Option.isSome_some, implies_true, false_implies, Prod.mk.injEq, ne_eq, not_false_eq_true, not_true_eq_false, ge_iff_le, gt_iff_lt, Int.toNat_natCast, Int.reduceToNat, Int.cast_ofNat_Int, Int.natCast_nonneg, Try.f90]
  repeat first | refine And.intro (by decide +kernel) ?_ | refine And.intro (by omega) ?_
  refine awpLoop.intro (fun s : Nat × Nat × List Int => [(0, .ref (.ptr 0 0 0 0)), (5, .ref (.ptr 1 0 0 0)), (7, .ref (.ptr 4 0 0 0)), (8, .i .i64 ((s.2.1 : Int) - 1)), (13, .ref (.sl 0 1 0 0 k 1)), (14, .i .i64 k), (15, .i .i64 s.1)]) (fun s => ⟨[.lv true [(0, .ints .u8 300 V)], .lv true [(0, .ints .u8 k xs)]], [((1, 0), .lv true ([(0, .ints .u8 3 [(x : Int), (y : Int), (z : Int)])])), ((4, 0), .lv true ([(0, .ints .u8 40 s.2.2)]))], 10⟩)
    (fun s => s.1 ≤ k ∧ dpt xs s.1 = some s.2.1 ∧ s.2.2.length = 40 ∧ ∀ j, j < s.2.1 → s.2.2.getD j 0 = (((stk N t x y z xs s.1).getD j 0 : Nat) : Int)) (fun s => k - s.1) (0, 0, List.replicate 40 0) ⟨by simp, rfl, by simp, fun j hj => absurd hj (by simp)⟩ ⟨[((1,0),(1,0)), ((4,0),(4,0))], rfl, ?_, ?_⟩ ?_
  · simp [wkEnv, lk, renV, renAt, renTo]
  · simp [wkMem, wkLoc, Mem.get, assoc, renBlk, renSegs, renSg, renTo]
  · rintro ⟨i, d, W⟩ ⟨hi, hd, hW, hS⟩
    simp only at hi hd hW hS
    have hdi := dpt_le hd
    have hSl := stk_len (N := N) (t := t) (x := x) (y := y) (z := z) hd
    have hSlt := fun j => stk_lt (xs := xs) (i := i) hs hx hy hz (v := (stk N t x y z xs i).getD j 0)
    by_cases h : (i : Int) < k
    · have w := wrap_i64s (show i < 2 ^ 62 by omega)
      have v1 : 0 + i * 1 < k := by omega
      have e1 : xs.getD (0 + i * 1) 0 = xs.getD i 0 := by rw [Nat.zero_add, Nat.mul_one]
      have hst := dpt_step hd
      have hlf := stk_leaf (N := N) (t := t) (x := x) (y := y) (z := z) (xs := xs) (i := i)
      have hop := stk_op (N := N) (t := t) (x := x) (y := y) (z := z) (xs := xs) (i := i)
      generalize stk N t x y z xs i = S at hS hSl hSlt hlf hop
      generalize hb : xs.getD i 0 = b at e1 hst hlf hop
      rcases hst with ⟨h1, h2⟩ | ⟨h1, h2, h3, h4⟩ | ⟨h1, h2, h3⟩
      · have wt : IntKind.i64.wrap ((d : Int) - 1 + 1) = (d : Nat) := by rw [wrap_i64 (by omega) (by omega)]; omega
        have di : (d : Int) < 40 := by omega
        have dv : 0 + d * 1 + 1 ≤ 40 := by omega
        have ds : ((d + 1 : Nat) : Int) - 1 = (d : Int) := by omega
        have hinv : ∀ v : Nat, symV x y z b = v → ∀ j, j < d + 1 → (W.set (0 + d * 1) (v : Int)).getD j 0 = (((stk N t x y z xs (i + 1)).getD j 0 : Nat) : Int) := fun v hv j hj => by
          rw [hlf h1, sn_get, hSl, Nat.zero_add, Nat.mul_one, getD_set_int (by omega), hv]
          by_cases e : j < d
          · rw [if_neg (by omega), if_pos e]; exact hS j e
          · rw [if_pos (by omega), if_neg e, if_pos (by omega)]
        rcases isLf_iff.1 h1 with rfl | rfl | rfl | rfl
        · have u0 : IntKind.u8.wrap 0 = 0 := by decide
          simp only [absE, absL, absF, reduceCtorEq, ↓reduceIte, Nat.reduceEqDiff, Nat.reduceAdd, Nat.reduceLT, Nat.reduceMul, Nat.reduceSub, Nat.reduceLeDiff, Int.reduceLT, Int.reduceLE, Int.reduceEq, Option.isSome_some, implies_true, false_implies, Prod.mk.injEq, ne_eq, not_false_eq_true, not_true_eq_false, ge_iff_le, gt_iff_lt, Int.toNat_natCast, Int.reduceToNat, Int.cast_ofNat_Int, Int.natCast_nonneg, h, v1, e1, wt, di, dv, u0, Int.reduceSub, List.getD_cons_zero, List.getD_cons_succ]
          repeat first | refine And.intro (by decide +kernel) ?_ | refine And.intro (by omega) ?_
          refine LoopNext.intro (i + 1, d + 1, W.set (0 + d * 1) (x : Int)) ⟨by simp only; omega, h2, by simp [hW], hinv x (by simp [symV])⟩ (by simp only; omega) ⟨[((1,0),(1,0)), ((4,0),(4,0))], rfl, ?_, ?_⟩
          · simp [wkEnv, lk, renV, renAt, renTo, w, ds]
          · simp [wkMem, wkLoc, Mem.get, assoc, renBlk, renSegs, renSg, renTo, w, ds]
        · have u0 : IntKind.u8.wrap 1 = 1 := by decide
          simp only [absE, absL, absF, reduceCtorEq, ↓reduceIte, Nat.reduceEqDiff, Nat.reduceAdd, Nat.reduceLT, Nat.reduceMul, Nat.reduceSub, Nat.reduceLeDiff, Int.reduceLT, Int.reduceLE, Int.reduceEq, Option.isSome_some, implies_true, false_implies, Prod.mk.injEq, ne_eq, not_false_eq_true, not_true_eq_false, ge_iff_le, gt_iff_lt, Int.toNat_natCast, Int.reduceToNat, Int.cast_ofNat_Int, Int.natCast_nonneg, h, v1, e1, wt, di, dv, u0, Int.reduceSub, List.getD_cons_zero, List.getD_cons_succ]
          repeat first | refine And.intro (by decide +kernel) ?_ | refine And.intro (by omega) ?_
          refine LoopNext.intro (i + 1, d + 1, W.set (0 + d * 1) (y : Int)) ⟨by simp only; omega, h2, by simp [hW], hinv y (by simp [symV])⟩ (by simp only; omega) ⟨[((1,0),(1,0)), ((4,0),(4,0))], rfl, ?_, ?_⟩
          · simp [wkEnv, lk, renV, renAt, renTo, w, ds]
          · simp [wkMem, wkLoc, Mem.get, assoc, renBlk, renSegs, renSg, renTo, w, ds]
        · have u0 : IntKind.u8.wrap 2 = 2 := by decide
          simp only [absE, absL, absF, reduceCtorEq, ↓reduceIte, Nat.reduceEqDiff, Nat.reduceAdd, Nat.reduceLT, Nat.reduceMul, Nat.reduceSub, Nat.reduceLeDiff, Int.reduceLT, Int.reduceLE, Int.reduceEq, Option.isSome_some, implies_true, false_implies, Prod.mk.injEq, ne_eq, not_false_eq_true, not_true_eq_false, ge_iff_le, gt_iff_lt, Int.toNat_natCast, Int.reduceToNat, Int.cast_ofNat_Int, Int.natCast_nonneg, h, v1, e1, wt, di, dv, u0, Int.reduceSub, List.getD_cons_zero, List.getD_cons_succ]
          repeat first | refine And.intro (by decide +kernel) ?_ | refine And.intro (by omega) ?_
          refine LoopNext.intro (i + 1, d + 1, W.set (0 + d * 1) (z : Int)) ⟨by simp only; omega, h2, by simp [hW], hinv z (by simp [symV])⟩ (by simp only; omega) ⟨[((1,0),(1,0)), ((4,0),(4,0))], rfl, ?_, ?_⟩
          · simp [wkEnv, lk, renV, renAt, renTo, w, ds]
          · simp [wkMem, wkLoc, Mem.get, assoc, renBlk, renSegs, renSg, renTo, w, ds]
        · simp only [absE, absL, absF, reduceCtorEq, ↓reduceIte, Nat.reduceEqDiff, Nat.reduceAdd, Nat.reduceLT, Nat.reduceMul, Nat.reduceSub, Nat.reduceLeDiff, Int.reduceLT, Int.reduceLE, Int.reduceEq, Option.isSome_some, implies_true, false_implies, Prod.mk.injEq, ne_eq, not_false_eq_true, not_true_eq_false, ge_iff_le, gt_iff_lt, Int.toNat_natCast, Int.reduceToNat, Int.cast_ofNat_Int, Int.natCast_nonneg, h, v1, e1, wt, di, dv]
          repeat first | refine And.intro (by decide +kernel) ?_ | refine And.intro (by omega) ?_
          refine LoopNext.intro (i + 1, d + 1, W.set (0 + d * 1) (0 : Int)) ⟨by simp only; omega, h2, by simp [hW], hinv 0 (by simp [symV])⟩ (by simp only; omega) ⟨[((1,0),(1,0)), ((4,0),(4,0))], rfl, ?_, ?_⟩
          · simp [wkEnv, lk, renV, renAt, renTo, w, ds]
          · simp [wkMem, wkLoc, Mem.get, assoc, renBlk, renSegs, renSg, renTo, w, ds]
      · have wt : IntKind.i64.wrap ((d : Int) - 1 - 1) = ((d - 2 : Nat) : Int) := by rw [wrap_i64 (by omega) (by omega)]; omega
        have wu : IntKind.i64.wrap (((d - 2 : Nat) : Int) + 1) = ((d - 1 : Nat) : Int) := by rw [wrap_i64 (by omega) (by omega)]; omega
        have di : ((d - 2 : Nat) : Int) < 40 := by omega
        have di2 : ((d - 1 : Nat) : Int) < 40 := by omega
        have z1 : (0 : Int) ≤ ((d - 2 : Nat) : Int) := by omega
        have z2 : (0 : Int) ≤ ((d - 1 : Nat) : Int) := by omega
        have dv : 0 + (d - 2) * 1 + 1 ≤ 40 := by omega
        have dv1 : 0 + (d - 2) * 1 < 40 := by omega
        have dv2 : 0 + (d - 1) * 1 < 40 := by omega
        have ds : ((d - 1 : Nat) : Int) - 1 = ((d - 2 : Nat) : Int) := by omega
        have g1 : W.getD (0 + (d - 2) * 1) 0 = ((S.getD (d - 2) 0 : Nat) : Int) := by rw [Nat.zero_add, Nat.mul_one]; exact hS _ (by omega)
        have g2 : W.getD (0 + (d - 1) * 1) 0 = ((S.getD (d - 1) 0 : Nat) : Int) := by rw [Nat.zero_add, Nat.mul_one]; exact hS _ (by omega)
        have hmem : ∀ j, j < d → S.getD j 0 ∈ S := fun j hj => by
          have e : S.getD j 0 = S[j]'(by omega) := by simp [show j < S.length by omega]
          rw [e]; exact List.getElem_mem _
        have la : S.getD (d - 2) 0 < N := hSlt _ (hmem _ (by omega))
        have lc : S.getD (d - 1) 0 < N := hSlt _ (hmem _ (by omega))
        have hst' := hop h1
        rw [hSl] at hst'
        generalize S.getD (d - 2) 0 = a at g1 la hst'
        generalize S.getD (d - 1) 0 = c at g2 lc hst'
        have ai : (a : Int) < 10 := by omega
        have ci : (c : Int) < 10 := by omega
        have hinv : ∀ j, j < d - 1 → (W.set (0 + (d - 2) * 1) (apB N t b a c : Int)).getD j 0 = (((stk N t x y z xs (i + 1)).getD j 0 : Nat) : Int) := fun j hj => by
          rw [hst', ta_get (by omega), Nat.zero_add, Nat.mul_one, getD_set_int (by omega)]
          by_cases e : j < d - 2
          · rw [if_neg (by omega), if_pos e]; exact hS j (by omega)
          · rw [if_pos (by omega), if_neg e, if_pos (by omega)]
        rcases isOp_iff.1 h2 with rfl | rfl | rfl
        · have ev : V.getD (0 + 0 + a * 10 + c * 1) 0 = ((cl t a c : Nat) : Int) := by rw [show 0 + 0 + a * 10 + c * 1 = 0 + a * 10 + c by omega]; first | exact hV.prod a c la lc | (rw [Nat.zero_add]; exact hV.prod a c la lc)
          have rv : 0 + 0 + a * 10 + c * 1 < 300 := by omega
          have hap : apB N t 42 a c = cl t a c := by simp [apB]
          rw [hap] at hinv
          simp only [absE, absL, absF, reduceCtorEq, ↓reduceIte, Nat.reduceEqDiff, Nat.reduceAdd, Nat.reduceLT, Nat.reduceMul, Nat.reduceSub, Nat.reduceLeDiff, Int.reduceLT, Int.reduceLE, Int.reduceEq, Option.isSome_some, implies_true, false_implies, Prod.mk.injEq, ne_eq, not_false_eq_true, not_true_eq_false, ge_iff_le, gt_iff_lt, Int.toNat_natCast, Int.reduceToNat, Int.cast_ofNat_Int, Int.natCast_nonneg, h, v1, e1, wt, wu, di, di2, z1, z2, dv, dv1, dv2, g1, g2, ai, ci, rv, ev]
          repeat first | refine And.intro (by decide +kernel) ?_ | refine And.intro (by omega) ?_
          refine LoopNext.intro (i + 1, d - 1, W.set (0 + (d - 2) * 1) ((cl t a c : Nat) : Int)) ⟨by simp only; omega, h4, by simp [hW], hinv⟩ (by simp only; omega) ⟨[((1,0),(1,0)), ((4,0),(4,0))], rfl, ?_, ?_⟩
          · simp [wkEnv, lk, renV, renAt, renTo, w, ds]
          · simp [wkMem, wkLoc, Mem.get, assoc, renBlk, renSegs, renSg, renTo, w, ds]
        · have ev : V.getD (0 + 100 + a * 10 + c * 1) 0 = ((ldF N t a c : Nat) : Int) := by rw [show 0 + 100 + a * 10 + c * 1 = 100 + a * 10 + c by omega]; first | exact hV.ldiv a c la lc | (rw [Nat.zero_add]; exact hV.ldiv a c la lc)
          have rv : 0 + 100 + a * 10 + c * 1 < 300 := by omega
          have hap : apB N t 92 a c = ldF N t a c := by simp [apB]
          rw [hap] at hinv
          simp only [absE, absL, absF, reduceCtorEq, ↓reduceIte, Nat.reduceEqDiff, Nat.reduceAdd, Nat.reduceLT, Nat.reduceMul, Nat.reduceSub, Nat.reduceLeDiff, Int.reduceLT, Int.reduceLE, Int.reduceEq, Option.isSome_some, implies_true, false_implies, Prod.mk.injEq, ne_eq, not_false_eq_true, not_true_eq_false, ge_iff_le, gt_iff_lt, Int.toNat_natCast, Int.reduceToNat, Int.cast_ofNat_Int, Int.natCast_nonneg, h, v1, e1, wt, wu, di, di2, z1, z2, dv, dv1, dv2, g1, g2, ai, ci, rv, ev]
          repeat first | refine And.intro (by decide +kernel) ?_ | refine And.intro (by omega) ?_
          refine LoopNext.intro (i + 1, d - 1, W.set (0 + (d - 2) * 1) ((ldF N t a c : Nat) : Int)) ⟨by simp only; omega, h4, by simp [hW], hinv⟩ (by simp only; omega) ⟨[((1,0),(1,0)), ((4,0),(4,0))], rfl, ?_, ?_⟩
          · simp [wkEnv, lk, renV, renAt, renTo, w, ds]
          · simp [wkMem, wkLoc, Mem.get, assoc, renBlk, renSegs, renSg, renTo, w, ds]
        · have ev : V.getD (0 + 200 + a * 10 + c * 1) 0 = ((rdF N t a c : Nat) : Int) := by rw [show 0 + 200 + a * 10 + c * 1 = 200 + a * 10 + c by omega]; first | exact hV.rdiv a c la lc | (rw [Nat.zero_add]; exact hV.rdiv a c la lc)
          have rv : 0 + 200 + a * 10 + c * 1 < 300 := by omega
          have hap : apB N t 47 a c = rdF N t a c := by simp [apB]
          rw [hap] at hinv
          simp only [absE, absL, absF, reduceCtorEq, ↓reduceIte, Nat.reduceEqDiff, Nat.reduceAdd, Nat.reduceLT, Nat.reduceMul, Nat.reduceSub, Nat.reduceLeDiff, Int.reduceLT, Int.reduceLE, Int.reduceEq, Option.isSome_some, implies_true, false_implies, Prod.mk.injEq, ne_eq, not_false_eq_true, not_true_eq_false, ge_iff_le, gt_iff_lt, Int.toNat_natCast, Int.reduceToNat, Int.cast_ofNat_Int, Int.natCast_nonneg, h, v1, e1, wt, wu, di, di2, z1, z2, dv, dv1, dv2, g1, g2, ai, ci, rv, ev]
          repeat first | refine And.intro (by decide +kernel) ?_ | refine And.intro (by omega) ?_
          refine LoopNext.intro (i + 1, d - 1, W.set (0 + (d - 2) * 1) ((rdF N t a c : Nat) : Int)) ⟨by simp only; omega, h4, by simp [hW], hinv⟩ (by simp only; omega) ⟨[((1,0),(1,0)), ((4,0),(4,0))], rfl, ?_, ?_⟩
          · simp [wkEnv, lk, renV, renAt, renTo, w, ds]
          · simp [wkMem, wkLoc, Mem.get, assoc, renBlk, renSegs, renSg, renTo, w, ds]
      · obtain ⟨e, he⟩ := dpt_some hd1 (show i + 1 ≤ k by omega)
        rw [h3] at he; cases he
    · have hik : i = k := by omega
      subst hik
      rw [hd1] at hd
      have hd' : d = 1 := by simpa using hd.symm
      subst hd'
      have ef : W.getD 0 0 = (trmV N t x y z xs i : Int) := hS 0 (by omega)
      simp only [absE, absL, absF, reduceCtorEq, ↓reduceIte, Nat.reduceEqDiff, Nat.reduceAdd, Nat.reduceLT, Nat.reduceMul, Nat.reduceSub, Nat.reduceLeDiff, Int.reduceLT, Int.reduceLE, Int.reduceEq, Option.isSome_some, implies_true, false_implies, Prod.mk.injEq, ne_eq, not_false_eq_true, not_true_eq_false, ge_iff_le, gt_iff_lt, Int.toNat_natCast, Int.reduceToNat, Int.cast_ofNat_Int, Int.natCast_nonneg, h, ef, Try.results90]
      exact ⟨[], by simp, by simp, by simp [renV, renVs, renSegs, renSg, renBlk]⟩
theorem l03Value_ok (N : Nat) (t : List Int) (x y z : Nat) (xs : List Int) (k : Nat) (ht : Bytes 100 t) (hs : SqP N t) (hx : x < N) (hy : y < N) (hz : z < N) (hT : trmB xs k = true) :
    ACalls Try.prog 86 [.agg (sqS N t), .ref (.sl 0 0 0 0 k 1), .i .u8 x, .i .u8 y, .i .u8 z] [.lv true [(0, .ints .u8 k xs)]]
      (fun v ms ns => v = .i .u8 (trmV N t x y z xs k) ∧ ms = [.lv true [(0, .ints .u8 k xs)]] ∧ ns = []) := by
  have hN := hs.le
  obtain ⟨hd1, hk⟩ := trmB_iff.1 hT
  refine acalls_of_body mix Try.func86 rfl fok86 (Nat.le_of_ble_eq_true rfl) ?_
  unfold abody
  simp only [absE, absL, absF, reduceCtorEq, ↓reduceIte, Nat.reduceEqDiff, Nat.reduceAdd, Nat.reduceLT, Nat.reduceMul, Nat.reduceSub, Nat.reduceLeDiff, Int.reduceLT, Int.reduceLE, Int.reduceEq, Option.isSome_some, implies_true, false_implies, Prod.mk.injEq, ne_eq, not_false_eq_true, not_true_eq_false, ge_iff_le, gt_iff_lt, Int.toNat_natCast, Int.reduceToNat, Int.cast_ofNat_Int, Int.natCast_nonneg, Try.f86]
  refine awpLoop.intro (fun s : Nat × Nat => [(1, .ref (.sl 0 0 0 0 k 1)), (2, .i .u8 x), (3, .i .u8 y), (4, .i .u8 z), (5, .ref (.ptr 1 0 0 0)), (11, .ref (.sl 3 0 0 0 (stk N t x y z xs s.1).length 1)), (12, .i .i64 s.1)]) (fun s => ⟨[.lv true [(0, .ints .u8 k xs)]], [((1, 0), .lv true (sqS N t)), ((3, 0), .lv true ([(0, .ints .u8 (stk N t x y z xs s.1).length (sI (stk N t x y z xs s.1)))]))], 6⟩)
    (fun s => s.1 ≤ k ∧ dpt xs s.1 = some s.2) (fun s => k - s.1) (0, 0) ⟨by simp, rfl⟩ ⟨[((1,0),(1,0)), ((3,0),(3,0))], rfl, ?_, ?_⟩ ?_
  · simp [wkEnv, lk, renV, renAt, renTo, stk, sI, zeroArr]
  · simp [wkMem, wkLoc, Mem.get, assoc, renBlk, renSegs, renSg, renTo, stk, sI, zeroArr]
  · rintro ⟨i, d⟩ ⟨hi, hd⟩
    simp only at hi hd
    have hdi := dpt_le hd
    have hSl := stk_len (N := N) (t := t) (x := x) (y := y) (z := z) hd
    have hSlt := fun j => stk_lt (xs := xs) (i := i) hs hx hy hz (v := (stk N t x y z xs i).getD j 0)
    by_cases h : (i : Int) < k
    · have w := wrap_i64s (show i < 2 ^ 62 by omega)
      have v1 : 0 + i * 1 < k := by omega
      have e1 : xs.getD (0 + i * 1) 0 = xs.getD i 0 := by rw [Nat.zero_add, Nat.mul_one]
      have hst := dpt_step hd
      have hlf := stk_leaf (N := N) (t := t) (x := x) (y := y) (z := z) (xs := xs) (i := i)
      have hop := stk_op (N := N) (t := t) (x := x) (y := y) (z := z) (xs := xs) (i := i)
      generalize stk N t x y z xs i = S at hSl hSlt hlf hop ⊢
      generalize hb : xs.getD i 0 = b at e1 hst hlf hop
      have md : d * 1 = d := Nat.mul_one d
      rcases hst with ⟨h1, h2⟩ | ⟨h1, h2, h3, h4⟩ | ⟨h1, h2, h3⟩
      · have hlf := hlf h1
        rcases isLf_iff.1 h1 with rfl | rfl | rfl | rfl
        · have hS' : stk N t x y z xs (i + 1) = S ++ [x] := hlf
          simp only [absE, absL, absF, reduceCtorEq, ↓reduceIte, Nat.reduceEqDiff, Nat.reduceAdd, Nat.reduceLT, Nat.reduceMul, Nat.reduceSub, Nat.reduceLeDiff, Int.reduceLT, Int.reduceLE, Int.reduceEq, Option.isSome_some, implies_true, false_implies, Prod.mk.injEq, ne_eq, not_false_eq_true, not_true_eq_false, ge_iff_le, gt_iff_lt, Int.toNat_natCast, Int.reduceToNat, Int.cast_ofNat_Int, Int.natCast_nonneg, hSl, h, v1, e1, md]
          repeat first | refine And.intro (by decide +kernel) ?_ | refine And.intro (by omega) ?_
          refine LoopNext.intro (i + 1, d + 1) ⟨by simp only; omega, h2⟩ (by simp only; omega) ⟨[((1,0),(1,0)), ((22,0),(3,0))], rfl, ?_, ?_⟩
          · simp [wkEnv, lk, renV, renAt, renTo, w, hS', hSl]
          · simp [wkMem, wkLoc, Mem.get, assoc, renBlk, renSegs, renSg, renTo, hS', hSl, sI]
        · have hS' : stk N t x y z xs (i + 1) = S ++ [y] := hlf
          simp only [absE, absL, absF, reduceCtorEq, ↓reduceIte, Nat.reduceEqDiff, Nat.reduceAdd, Nat.reduceLT, Nat.reduceMul, Nat.reduceSub, Nat.reduceLeDiff, Int.reduceLT, Int.reduceLE, Int.reduceEq, Option.isSome_some, implies_true, false_implies, Prod.mk.injEq, ne_eq, not_false_eq_true, not_true_eq_false, ge_iff_le, gt_iff_lt, Int.toNat_natCast, Int.reduceToNat, Int.cast_ofNat_Int, Int.natCast_nonneg, hSl, h, v1, e1, md]
          repeat first | refine And.intro (by decide +kernel) ?_ | refine And.intro (by omega) ?_
          refine LoopNext.intro (i + 1, d + 1) ⟨by simp only; omega, h2⟩ (by simp only; omega) ⟨[((1,0),(1,0)), ((24,0),(3,0))], rfl, ?_, ?_⟩
          · simp [wkEnv, lk, renV, renAt, renTo, w, hS', hSl]
          · simp [wkMem, wkLoc, Mem.get, assoc, renBlk, renSegs, renSg, renTo, hS', hSl, sI]
        · have hS' : stk N t x y z xs (i + 1) = S ++ [z] := hlf
          simp only [absE, absL, absF, reduceCtorEq, ↓reduceIte, Nat.reduceEqDiff, Nat.reduceAdd, Nat.reduceLT, Nat.reduceMul, Nat.reduceSub, Nat.reduceLeDiff, Int.reduceLT, Int.reduceLE, Int.reduceEq, Option.isSome_some, implies_true, false_implies, Prod.mk.injEq, ne_eq, not_false_eq_true, not_true_eq_false, ge_iff_le, gt_iff_lt, Int.toNat_natCast, Int.reduceToNat, Int.cast_ofNat_Int, Int.natCast_nonneg, hSl, h, v1, e1, md]
          repeat first | refine And.intro (by decide +kernel) ?_ | refine And.intro (by omega) ?_
          refine LoopNext.intro (i + 1, d + 1) ⟨by simp only; omega, h2⟩ (by simp only; omega) ⟨[((1,0),(1,0)), ((26,0),(3,0))], rfl, ?_, ?_⟩
          · simp [wkEnv, lk, renV, renAt, renTo, w, hS', hSl]
          · simp [wkMem, wkLoc, Mem.get, assoc, renBlk, renSegs, renSg, renTo, hS', hSl, sI]
        · have hS' : stk N t x y z xs (i + 1) = S ++ [0] := hlf
          simp only [absE, absL, absF, reduceCtorEq, ↓reduceIte, Nat.reduceEqDiff, Nat.reduceAdd, Nat.reduceLT, Nat.reduceMul, Nat.reduceSub, Nat.reduceLeDiff, Int.reduceLT, Int.reduceLE, Int.reduceEq, Option.isSome_some, implies_true, false_implies, Prod.mk.injEq, ne_eq, not_false_eq_true, not_true_eq_false, ge_iff_le, gt_iff_lt, Int.toNat_natCast, Int.reduceToNat, Int.cast_ofNat_Int, Int.natCast_nonneg, hSl, h, v1, e1, md]
          repeat first | refine And.intro (by decide +kernel) ?_ | refine And.intro (by omega) ?_
          refine LoopNext.intro (i + 1, d + 1) ⟨by simp only; omega, h2⟩ (by simp only; omega) ⟨[((1,0),(1,0)), ((27,0),(3,0))], rfl, ?_, ?_⟩
          · simp [wkEnv, lk, renV, renAt, renTo, w, hS', hSl]
          · simp [wkMem, wkLoc, Mem.get, assoc, renBlk, renSegs, renSg, renTo, hS', hSl, sI]
      · have wt : IntKind.i64.wrap ((d : Int) - 2) = ((d - 2 : Nat) : Int) := by rw [wrap_i64 (by omega) (by omega)]; omega
        have wu : IntKind.i64.wrap ((d : Int) - 1) = ((d - 1 : Nat) : Int) := by rw [wrap_i64 (by omega) (by omega)]; omega
        have di : ((d - 2 : Nat) : Int) < d := by omega
        have di2 : ((d - 1 : Nat) : Int) < d := by omega
        have di3 : ((d - 2 : Nat) : Int) ≤ d := by omega
        have z1 : (0 : Int) ≤ ((d - 2 : Nat) : Int) := by omega
        have z2 : (0 : Int) ≤ ((d - 1 : Nat) : Int) := by omega
        have dv1 : 0 + (d - 2) * 1 < d := by omega
        have dv2 : 0 + (d - 1) * 1 < d := by omega
        have m2 : (d - 2) * 1 = d - 2 := Nat.mul_one _
        have nd : ¬ d - 2 = d := by omega
        have le2 : 0 + (d - 2) ≤ d := by omega
        have n1 : ¬ b = 120 := fun e => by rw [isLf_iff.2 (.inl e)] at h1; cases h1
        have n2 : ¬ b = 121 := fun e => by rw [isLf_iff.2 (.inr (.inl e))] at h1; cases h1
        have n3 : ¬ b = 122 := fun e => by rw [isLf_iff.2 (.inr (.inr (.inl e)))] at h1; cases h1
        have n4 : ¬ b = 101 := fun e => by rw [isLf_iff.2 (.inr (.inr (.inr e)))] at h1; cases h1
        have hmem : ∀ j, j < d → S.getD j 0 ∈ S := fun j hj => by
          have e : S.getD j 0 = S[j]'(by omega) := by simp [show j < S.length by omega]
          rw [e]; exact List.getElem_mem _
        have la : S.getD (d - 2) 0 < N := hSlt _ (hmem _ (by omega))
        have lc : S.getD (d - 1) 0 < N := hSlt _ (hmem _ (by omega))
        have g1 : (sI S).getD (0 + (d - 2) * 1) 0 = ((S.getD (d - 2) 0 : Nat) : Int) := by rw [Nat.zero_add, Nat.mul_one]; exact sI_get
        have g2 : (sI S).getD (0 + (d - 1) * 1) 0 = ((S.getD (d - 1) 0 : Nat) : Int) := by rw [Nat.zero_add, Nat.mul_one]; exact sI_get
        have hst' := hop h1
        rw [hSl] at hst'
        generalize S.getD (d - 2) 0 = a at g1 la hst'
        generalize S.getD (d - 1) 0 = c at g2 lc hst'
        have hS1 : (stk N t x y z xs (i + 1)).length = d - 2 + 1 := by rw [hst', List.length_append, List.length_take, hSl]; simp
        have hS2 : sI (stk N t x y z xs (i + 1)) = ((sI S).drop 0).take (d - 2) ++ [(apB N t b a c : Int)] := by rw [hst']; simp [sI, List.map_take]
        have hap := l03Apply_ok N t b a c ht hs la lc
        rw [apB_apply] at hap
        simp only [absE, absL, absF, reduceCtorEq, ↓reduceIte, Nat.reduceEqDiff, Nat.reduceAdd, Nat.reduceLT, Nat.reduceMul, Nat.reduceSub, Nat.reduceLeDiff, Int.reduceLT, Int.reduceLE, Int.reduceEq, Option.isSome_some, implies_true, false_implies, Prod.mk.injEq, ne_eq, not_false_eq_true, not_true_eq_false, ge_iff_le, gt_iff_lt, Int.toNat_natCast, Int.reduceToNat, Int.cast_ofNat_Int, Int.natCast_nonneg, hSl, h, v1, e1, n1, n2, n3, n4, decide_false, wt, wu, di, di2, z1, z2, dv1, dv2, g1, g2]
        repeat first | refine And.intro (by decide +kernel) ?_ | refine And.intro (by omega) ?_
        refine CallsX.none hap ?_
        simp only [absE, absL, absF, reduceCtorEq, ↓reduceIte, Nat.reduceEqDiff, Nat.reduceAdd, Nat.reduceLT, Nat.reduceMul, Nat.reduceSub, Nat.reduceLeDiff, Int.reduceLT, Int.reduceLE, Int.reduceEq, Option.isSome_some, implies_true, false_implies, Prod.mk.injEq, ne_eq, not_false_eq_true, not_true_eq_false, ge_iff_le, gt_iff_lt, Int.toNat_natCast, Int.reduceToNat, Int.cast_ofNat_Int, Int.natCast_nonneg, wt, di3, z1, Nat.sub_zero, m2, nd, le2]
        repeat first | refine And.intro (by decide +kernel) ?_ | refine And.intro (by omega) ?_
        simp only [absE, absL, absF, reduceCtorEq, ↓reduceIte, Nat.reduceEqDiff, Nat.reduceAdd, Nat.reduceLT, Nat.reduceMul, Nat.reduceSub, Nat.reduceLeDiff, Int.reduceLT, Int.reduceLE, Int.reduceEq, Option.isSome_some, implies_true, false_implies, Prod.mk.injEq, ne_eq, not_false_eq_true, not_true_eq_false, ge_iff_le, gt_iff_lt, Int.toNat_natCast, Int.reduceToNat, Int.cast_ofNat_Int, Int.natCast_nonneg, hSl, m2, nd, and_false]
        repeat first | refine And.intro (by decide +kernel) ?_ | refine And.intro (by omega) ?_
        refine LoopNext.intro (i + 1, d - 1) ⟨by simp only; omega, h4⟩ (by simp only; omega) ⟨[((1,0),(1,0)), ((48,0),(3,0))], rfl, ?_, ?_⟩
        · simp [wkEnv, lk, renV, renAt, renTo, w, hS1]
        · simp only [hS2, hS1]; simp [wkMem, wkLoc, Mem.get, assoc, renBlk, renSegs, renSg, renTo]
      · obtain ⟨e, he⟩ := dpt_some hd1 (show i + 1 ≤ k by omega)
        rw [h3] at he; cases he
    · have hik : i = k := by omega
      subst hik
      rw [hd1] at hd
      have hd' : d = 1 := by simpa using hd.symm
      subst hd'
      have ef : (sI (stk N t x y z xs i)).getD 0 0 = (trmV N t x y z xs i : Int) := sI_get
      simp only [absE, absL, absF, reduceCtorEq, ↓reduceIte, Nat.reduceEqDiff, Nat.reduceAdd, Nat.reduceLT, Nat.reduceMul, Nat.reduceSub, Nat.reduceLeDiff, Int.reduceLT, Int.reduceLE, Int.reduceEq, Option.isSome_some, implies_true, false_implies, Prod.mk.injEq, ne_eq, not_false_eq_true, not_true_eq_false, ge_iff_le, gt_iff_lt, Int.toNat_natCast, Int.reduceToNat, Int.cast_ofNat_Int, Int.natCast_nonneg, h, hSl, ef, Try.results86]
      exact ⟨[], by simp, by simp, by simp [renV, renVs, renSegs, renSg, renBlk]⟩

end Go.Proofs.Ytoccbgffekhcaaa
