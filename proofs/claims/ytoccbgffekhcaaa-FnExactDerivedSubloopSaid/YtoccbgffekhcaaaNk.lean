/-
Contracts of functions of the given program, by the abstract walk.
-/
import Derived.Test.YtoccbgffekhcaaaAbsY
import Derived.Test.YtoccbgffekhcaaaNj
import Derived.Test.YtoccbgffekhcaaaJe
namespace Go.Proofs.Ytoccbgffekhcaaa
open Go Go.Abs
set_option linter.unusedVariables false
set_option linter.unusedSectionVars false
set_option linter.unusedSimpArgs false
set_option maxRecDepth 100000
/-! associators and commutators, and what they close to -/
def orZ (g : Nat → Nat) (s : Nat) : Nat → Nat
  | 0 => s
  | z + 1 => orZ g s z ||| 2 ^ g z
def orY (g : Nat → Nat → Nat) (N s : Nat) : Nat → Nat
  | 0 => s
  | y + 1 => orZ (g y) (orY g N s y) N
def orX (g : Nat → Nat → Nat → Nat) (N s : Nat) : Nat → Nat
  | 0 => s
  | x + 1 => orY (g x) N (orX g N s x) N
theorem orZ_bit {g : Nat → Nat} {s w : Nat} : ∀ {n}, (orZ g s n).testBit w = true ↔ s.testBit w = true ∨ ∃ z, z < n ∧ g z = w
  | 0 => by simp [orZ]
  | n + 1 => by
    rw [orZ, Nat.testBit_or, Bool.or_eq_true, orZ_bit (n := n), Nat.testBit_two_pow, decide_eq_true_iff]
    constructor
    · rintro ((h | ⟨z, a, b⟩) | h)
      · exact .inl h
      · exact .inr ⟨z, by omega, b⟩
      · exact .inr ⟨n, by omega, h⟩
    · rintro (h | ⟨z, a, b⟩)
      · exact .inl (.inl h)
      · by_cases e : z = n
        · subst e; exact .inr b
        · exact .inl (.inr ⟨z, by omega, b⟩)
theorem orY_bit {g : Nat → Nat → Nat} {N s w : Nat} : ∀ {n}, (orY g N s n).testBit w = true ↔ s.testBit w = true ∨ ∃ y z, y < n ∧ z < N ∧ g y z = w
  | 0 => by simp [orY]
  | n + 1 => by
    rw [orY, orZ_bit, orY_bit (n := n)]
    constructor
    · rintro ((h | ⟨y, z, a, b, c⟩) | ⟨z, b, c⟩)
      · exact .inl h
      · exact .inr ⟨y, z, by omega, b, c⟩
      · exact .inr ⟨n, z, by omega, b, c⟩
    · rintro (h | ⟨y, z, a, b, c⟩)
      · exact .inl (.inl h)
      · by_cases e : y = n
        · subst e; exact .inr ⟨z, b, c⟩
        · exact .inl (.inr ⟨y, z, by omega, b, c⟩)
theorem orX_bit {g : Nat → Nat → Nat → Nat} {N s w : Nat} : ∀ {n}, (orX g N s n).testBit w = true ↔ s.testBit w = true ∨ ∃ x y z, x < n ∧ y < N ∧ z < N ∧ g x y z = w
  | 0 => by simp [orX]
  | n + 1 => by
    rw [orX, orY_bit, orX_bit (n := n)]
    constructor
    · rintro ((h | ⟨x, y, z, a, b, c, d⟩) | ⟨y, z, b, c, d⟩)
      · exact .inl h
      · exact .inr ⟨x, y, z, by omega, b, c, d⟩
      · exact .inr ⟨n, y, z, by omega, b, c, d⟩
    · rintro (h | ⟨x, y, z, a, b, c, d⟩)
      · exact .inl (.inl h)
      · by_cases e : x = n
        · subst e; exact .inr ⟨y, z, b, c, d⟩
        · exact .inl (.inr ⟨x, y, z, by omega, b, c, d⟩)
theorem orZ_lt {g : Nat → Nat} {N s : Nat} (hs : s < 2 ^ N) : ∀ {n}, (∀ z, z < n → g z < N) → orZ g s n < 2 ^ N
  | 0, _ => hs
  | n + 1, h => Nat.or_lt_two_pow (orZ_lt hs fun z hz => h z (by omega)) (Nat.pow_lt_pow_right (by decide) (h n (by omega)))
theorem orY_lt {g : Nat → Nat → Nat} {N s : Nat} (hs : s < 2 ^ N) : ∀ {n}, (∀ y z, y < n → z < N → g y z < N) → orY g N s n < 2 ^ N
  | 0, _ => hs
  | n + 1, h => orZ_lt (orY_lt hs fun y z hy => h y z (by omega)) fun z hz => h n z (by omega) hz
theorem orX_lt {g : Nat → Nat → Nat → Nat} {N s : Nat} (hs : s < 2 ^ N) : ∀ {n}, (∀ x y z, x < n → y < N → z < N → g x y z < N) → orX g N s n < 2 ^ N
  | 0, _ => hs
  | n + 1, h => orY_lt (orX_lt hs fun x y z hx => h x y z (by omega)) fun y z hy hz => h n y z (by omega) hy hz
def acB (s : Nat) : Blk := .lv true [(0, .ints .i64 1 [(s : Int)])]
theorem asc1_ok (N : Nat) (t : List Int) (s x y z : Nat) (ht : Bytes 100 t) (hs : SqP N t) (h : s < 2 ^ N) (hx : x < N) (hy : y < N) (hz : z < N) :
    ACalls Try.prog 121 [.agg [(0, .ints .u8 3 [(x : Int), (y : Int), (z : Int)])], .ref (.ptr 0 0 0 0), .ref (.ptr 0 1 0 0)] [acB s, .lv true (sqS N t)] (fun v ms ns => v = .b false ∧ ms = [acB (s ||| 2 ^ ascN N t x y z), .lv true (sqS N t)] ∧ ns = []) := by
  have hN := hs.le
  have hN2 : (2 : Nat) ^ N ≤ 2 ^ 10 := Nat.pow_le_pow_right (by decide) hN
  have hl := ascN_lt hs hx hy hz
  have q2 : (2 : Nat) ^ ascN N t x y z < 2 ^ 10 := Nat.pow_lt_pow_right (by decide) (by omega)
  have t1 := wrap_shl (c := ascN N t x y z) (by omega)
  have o1 := wrap_or (a := s) (b := 2 ^ ascN N t x y z) (by omega) (by omega)
  unfold acB
  refine acalls_of_body mix Try.func121 rfl fok121 (Nat.le_of_ble_eq_true rfl) ?_
  unfold abody
  simp only [absE, absL, absF, reduceCtorEq, ↓reduceIte, Nat.reduceEqDiff, Nat.reduceAdd, Nat.reduceLT, Nat.reduceMul, Nat.reduceSub, Nat.reduceLeDiff, Int.reduceLT, Int.reduceLE, Int.reduceEq, Option.isSome_some, implies_true, false_implies, Prod.mk.injEq, ne_eq, not_false_eq_true, not_true_eq_false, ge_iff_le, gt_iff_lt, Int.toNat_natCast, Int.reduceToNat, Int.cast_ofNat_Int, Int.natCast_nonneg, List.getD_cons_zero, List.getD_cons_succ, Try.f121]
  repeat refine And.intro (by decide +kernel) ?_
  refine CallsX.none (implAsc_ok N t x y z ht hs hx hy hz) ?_
  simp only [absE, absL, absF, reduceCtorEq, ↓reduceIte, Nat.reduceEqDiff, Nat.reduceAdd, Nat.reduceLT, Nat.reduceMul, Nat.reduceSub, Nat.reduceLeDiff, Int.reduceLT, Int.reduceLE, Int.reduceEq, Option.isSome_some, implies_true, false_implies, Prod.mk.injEq, ne_eq, not_false_eq_true, not_true_eq_false, ge_iff_le, gt_iff_lt, Int.toNat_natCast, Int.reduceToNat, Int.cast_ofNat_Int, Int.natCast_nonneg, t1, o1, List.getD_cons_zero, Try.results121]
  repeat first | refine And.intro (by decide +kernel) ?_ | refine And.intro (by omega) ?_
  exact ⟨[], by simp, by simp, by simp [renV, renBlk, renSegs, renSg]⟩
theorem com1_ok (N : Nat) (t : List Int) (s x y : Nat) (ht : Bytes 100 t) (hs : SqP N t) (h : s < 2 ^ N) (hx : x < N) (hy : y < N) :
    ACalls Try.prog 124 [.i .u8 x, .i .u8 y, .ref (.ptr 0 0 0 0), .ref (.ptr 0 1 0 0)] [acB s, .lv true (sqS N t)] (fun v ms ns => v = .b true ∧ ms = [acB (s ||| 2 ^ comN N t x y), .lv true (sqS N t)] ∧ ns = []) := by
  have hN := hs.le
  have hN2 : (2 : Nat) ^ N ≤ 2 ^ 10 := Nat.pow_le_pow_right (by decide) hN
  have hl := comN_lt hs hx hy
  have q2 : (2 : Nat) ^ comN N t x y < 2 ^ 10 := Nat.pow_lt_pow_right (by decide) (by omega)
  have t1 := wrap_shl (c := comN N t x y) (by omega)
  have o1 := wrap_or (a := s) (b := 2 ^ comN N t x y) (by omega) (by omega)
  unfold acB
  refine acalls_of_body mix Try.func124 rfl fok124 (Nat.le_of_ble_eq_true rfl) ?_
  unfold abody
  simp only [absE, absL, absF, reduceCtorEq, ↓reduceIte, Nat.reduceEqDiff, Nat.reduceAdd, Nat.reduceLT, Nat.reduceMul, Nat.reduceSub, Nat.reduceLeDiff, Int.reduceLT, Int.reduceLE, Int.reduceEq, Option.isSome_some, implies_true, false_implies, Prod.mk.injEq, ne_eq, not_false_eq_true, not_true_eq_false, ge_iff_le, gt_iff_lt, Int.toNat_natCast, Int.reduceToNat, Int.cast_ofNat_Int, Int.natCast_nonneg, List.getD_cons_zero, Try.f124]
  repeat refine And.intro (by decide +kernel) ?_
  refine CallsX.none (implCom_ok N t x y ht hs hx hy) ?_
  simp only [absE, absL, absF, reduceCtorEq, ↓reduceIte, Nat.reduceEqDiff, Nat.reduceAdd, Nat.reduceLT, Nat.reduceMul, Nat.reduceSub, Nat.reduceLeDiff, Int.reduceLT, Int.reduceLE, Int.reduceEq, Option.isSome_some, implies_true, false_implies, Prod.mk.injEq, ne_eq, not_false_eq_true, not_true_eq_false, ge_iff_le, gt_iff_lt, Int.toNat_natCast, Int.reduceToNat, Int.cast_ofNat_Int, Int.natCast_nonneg, t1, o1, List.getD_cons_zero, Try.results124]
  repeat first | refine And.intro (by decide +kernel) ?_ | refine And.intro (by omega) ?_
  exact ⟨[], by simp, by simp, by simp [renV, renBlk, renSegs, renSg]⟩
theorem placesAsc_ok (N : Nat) (t : List Int) (ht : Bytes 100 t) (hs : SqP N t) :
    ACalls Try.prog 94 [.agg (sqS N t), .ref (.fn 121 [(0, 0, 0, 0), (0, 1, 0, 0)])] [acB 0, .lv true (sqS N t)] (fun v ms ns => v = .b false ∧ ms = [acB (orX (ascN N t) N 0 N), .lv true (sqS N t)] ∧ ns = []) := by
  have hN := hs.le
  have h2 : 0 < 2 ^ N := Nat.two_pow_pos N
  unfold acB
  refine acalls_of_body mix Try.func94 rfl fok94 (Nat.le_of_ble_eq_true rfl) ?_
  unfold abody
  simp only [absE, absL, absF, reduceCtorEq, ↓reduceIte, Nat.reduceEqDiff, Nat.reduceAdd, Nat.reduceLT, Nat.reduceMul, Nat.reduceSub, Nat.reduceLeDiff, Int.reduceLT, Int.reduceLE, Int.reduceEq, Option.isSome_some, implies_true, false_implies, Prod.mk.injEq, ne_eq, not_false_eq_true, not_true_eq_false, ge_iff_le, gt_iff_lt, Int.toNat_natCast, Int.reduceToNat, Int.cast_ofNat_Int, Int.natCast_nonneg, Try.f94]
  refine CallsVia.none (elements_ok N t hN) ?_
  rintro _ _ _ ⟨rfl, rfl, rfl⟩
  simp only [absE, absL, absF, reduceCtorEq, ↓reduceIte, Nat.reduceEqDiff, Nat.reduceAdd, Nat.reduceLT, Nat.reduceMul, Nat.reduceSub, Nat.reduceLeDiff, Int.reduceLT, Int.reduceLE, Int.reduceEq, Option.isSome_some, implies_true, false_implies, Prod.mk.injEq, ne_eq, not_false_eq_true, not_true_eq_false, ge_iff_le, gt_iff_lt, Int.toNat_natCast, Int.reduceToNat, Int.cast_ofNat_Int, Int.natCast_nonneg]
  refine awpLoop.intro (fun x : Nat => [(1, .ref (.fn 121 [(0, 0, 0, 0), (0, 1, 0, 0)])), (2, .ref (.ptr 1 0 0 0)), (12, .ref (.sl 4 0 0 0 N 1)), (13, .i .i64 N), (14, .i .i64 x)]) (fun x => ⟨[.lv true [(0, .ints .i64 1 [(orX (ascN N t) N 0 x : Int)])], .lv true (sqS N t)], [((1, 0), .lv true (sqS N t)), ((4, 0), .lv true ([(0, .ints .u8 N (bytesTo N))]))], 7⟩)
    (fun x => x ≤ N) (fun x => N - x) 0 (by omega) ⟨[((1,0),(1,0)), ((4,0),(4,0))], rfl, ?_, ?_⟩ ?_
  · simp [wkEnv, lk, renV, renAt, renTo, orX, renCaps]
  · simp [wkMem, wkLoc, Mem.get, assoc, renBlk, renSegs, renSg, renTo, orX, renCaps]
  · intro x hx
    by_cases h : (x : Int) < N
    · have w := wrap_i64s (show x < 2 ^ 62 by omega)
      have b1 : (bytesTo N).getD (0 + x * 1) 0 = (x : Int) := by rw [Nat.zero_add, Nat.mul_one]; exact bytesTo_get (by omega)
      have v1 : 0 + x * 1 < N := by omega
      have hX := orX_lt (N := N) (s := 0) h2 (n := x) fun a b c ha hb hc => ascN_lt hs (show a < N by omega) hb hc
      simp only [absE, absL, absF, reduceCtorEq, ↓reduceIte, Nat.reduceEqDiff, Nat.reduceAdd, Nat.reduceLT, Nat.reduceMul, Nat.reduceSub, Nat.reduceLeDiff, Int.reduceLT, Int.reduceLE, Int.reduceEq, Option.isSome_some, implies_true, false_implies, Prod.mk.injEq, ne_eq, not_false_eq_true, not_true_eq_false, ge_iff_le, gt_iff_lt, Int.toNat_natCast, Int.reduceToNat, Int.cast_ofNat_Int, Int.natCast_nonneg, h, b1, v1]
      refine CallsVia.none (elements_ok N t hN) ?_
      rintro _ _ _ ⟨rfl, rfl, rfl⟩
      simp only [absE, absL, absF, reduceCtorEq, ↓reduceIte, Nat.reduceEqDiff, Nat.reduceAdd, Nat.reduceLT, Nat.reduceMul, Nat.reduceSub, Nat.reduceLeDiff, Int.reduceLT, Int.reduceLE, Int.reduceEq, Option.isSome_some, implies_true, false_implies, Prod.mk.injEq, ne_eq, not_false_eq_true, not_true_eq_false, ge_iff_le, gt_iff_lt, Int.toNat_natCast, Int.reduceToNat, Int.cast_ofNat_Int, Int.natCast_nonneg]
      have hXs : orX (ascN N t) N 0 (x + 1) = orY (ascN N t x) N (orX (ascN N t) N 0 x) N := rfl
      generalize orX (ascN N t) N 0 x = sx at hX hXs ⊢
      refine awpLoop.intro (fun y : Nat => [(1, .ref (.fn 121 [(0, 0, 0, 0), (0, 1, 0, 0)])), (2, .ref (.ptr 1 0 0 0)), (12, .ref (.sl 4 0 0 0 N 1)), (13, .i .i64 N), (14, .i .i64 x), (6, .i .u8 x), (19, .ref (.sl 12 0 0 0 N 1)), (20, .i .i64 N), (21, .i .i64 y)]) (fun y => ⟨[.lv true [(0, .ints .i64 1 [(orY (ascN N t x) N sx y : Int)])], .lv true (sqS N t)], [((1, 0), .lv true (sqS N t)), ((4, 0), .lv true ([(0, .ints .u8 N (bytesTo N))])), ((12, 0), .lv true ([(0, .ints .u8 N (bytesTo N))]))], 15⟩)
        (fun y => y ≤ N) (fun y => N - y) 0 (by omega) ⟨[((1,0),(1,0)), ((4,0),(4,0)), ((12,0),(12,0))], rfl, ?_, ?_⟩ ?_
      · simp [wkEnv, lk, renV, renAt, renTo, orY, renCaps]
      · simp [wkMem, wkLoc, Mem.get, assoc, renBlk, renSegs, renSg, renTo, orY, renCaps]
      · intro y hy
        by_cases h' : (y : Int) < N
        · have w' := wrap_i64s (show y < 2 ^ 62 by omega)
          have b2 : (bytesTo N).getD (0 + y * 1) 0 = (y : Int) := by rw [Nat.zero_add, Nat.mul_one]; exact bytesTo_get (by omega)
          have v2 : 0 + y * 1 < N := by omega
          have hY := orY_lt (N := N) hX (n := y) fun b c hb hc => ascN_lt hs (show x < N by omega) (show b < N by omega) hc
          simp only [absE, absL, absF, reduceCtorEq, ↓reduceIte, Nat.reduceEqDiff, Nat.reduceAdd, Nat.reduceLT, Nat.reduceMul, Nat.reduceSub, Nat.reduceLeDiff, Int.reduceLT, Int.reduceLE, Int.reduceEq, Option.isSome_some, implies_true, false_implies, Prod.mk.injEq, ne_eq, not_false_eq_true, not_true_eq_false, ge_iff_le, gt_iff_lt, Int.toNat_natCast, Int.reduceToNat, Int.cast_ofNat_Int, Int.natCast_nonneg, h', b2, v2]
          refine CallsVia.none (elements_ok N t hN) ?_
          rintro _ _ _ ⟨rfl, rfl, rfl⟩
          simp only [absE, absL, absF, reduceCtorEq, ↓reduceIte, Nat.reduceEqDiff, Nat.reduceAdd, Nat.reduceLT, Nat.reduceMul, Nat.reduceSub, Nat.reduceLeDiff, Int.reduceLT, Int.reduceLE, Int.reduceEq, Option.isSome_some, implies_true, false_implies, Prod.mk.injEq, ne_eq, not_false_eq_true, not_true_eq_false, ge_iff_le, gt_iff_lt, Int.toNat_natCast, Int.reduceToNat, Int.cast_ofNat_Int, Int.natCast_nonneg]
          have hYs : orY (ascN N t x) N sx (y + 1) = orZ (ascN N t x y) (orY (ascN N t x) N sx y) N := rfl
          generalize orY (ascN N t x) N sx y = sy at hY hYs ⊢
          refine awpLoop.intro (fun z : Nat => [(1, .ref (.fn 121 [(0, 0, 0, 0), (0, 1, 0, 0)])), (2, .ref (.ptr 1 0 0 0)), (12, .ref (.sl 4 0 0 0 N 1)), (13, .i .i64 N), (14, .i .i64 x), (6, .i .u8 x), (19, .ref (.sl 12 0 0 0 N 1)), (20, .i .i64 N), (21, .i .i64 y), (8, .i .u8 y), (26, .ref (.sl 20 0 0 0 N 1)), (27, .i .i64 N), (28, .i .i64 z)]) (fun z => ⟨[.lv true [(0, .ints .i64 1 [(orZ (ascN N t x y) sy z : Int)])], .lv true (sqS N t)], [((1, 0), .lv true (sqS N t)), ((4, 0), .lv true ([(0, .ints .u8 N (bytesTo N))])), ((12, 0), .lv true ([(0, .ints .u8 N (bytesTo N))])), ((20, 0), .lv true ([(0, .ints .u8 N (bytesTo N))]))], 23⟩)
            (fun z => z ≤ N) (fun z => N - z) 0 (by omega) ⟨[((1,0),(1,0)), ((4,0),(4,0)), ((12,0),(12,0)), ((20,0),(20,0))], rfl, ?_, ?_⟩ ?_
          · simp [wkEnv, lk, renV, renAt, renTo, orZ, renCaps]
          · simp [wkMem, wkLoc, Mem.get, assoc, renBlk, renSegs, renSg, renTo, orZ, renCaps]
          · intro z hz
            by_cases h3 : (z : Int) < N
            · have w3 := wrap_i64s (show z < 2 ^ 62 by omega)
              have b3 : (bytesTo N).getD (0 + z * 1) 0 = (z : Int) := by rw [Nat.zero_add, Nat.mul_one]; exact bytesTo_get (by omega)
              have v3 : 0 + z * 1 < N := by omega
              have hZ := orZ_lt (N := N) hY (n := z) fun c hc => ascN_lt hs (show x < N by omega) (show y < N by omega) (show c < N by omega)
              simp only [absE, absL, absF, reduceCtorEq, ↓reduceIte, Nat.reduceEqDiff, Nat.reduceAdd, Nat.reduceLT, Nat.reduceMul, Nat.reduceSub, Nat.reduceLeDiff, Int.reduceLT, Int.reduceLE, Int.reduceEq, Option.isSome_some, implies_true, false_implies, Prod.mk.injEq, ne_eq, not_false_eq_true, not_true_eq_false, ge_iff_le, gt_iff_lt, Int.toNat_natCast, Int.reduceToNat, Int.cast_ofNat_Int, Int.natCast_nonneg, h3, b3, v3]
              refine CallsVia.args [(0, 0), (0, 1)] (asc1_ok N t (orZ (ascN N t x y) sy z) x y z ht hs hZ (by omega) (by omega) (by omega)) (by simp) (by simp [Mem.get]) rfl rfl ?_
              rintro _ _ _ ⟨rfl, rfl, rfl⟩
              simp only [absE, absL, absF, reduceCtorEq, ↓reduceIte, Nat.reduceEqDiff, Nat.reduceAdd, Nat.reduceLT, Nat.reduceMul, Nat.reduceSub, Nat.reduceLeDiff, Int.reduceLT, Int.reduceLE, Int.reduceEq, Option.isSome_some, implies_true, false_implies, Prod.mk.injEq, ne_eq, not_false_eq_true, not_true_eq_false, ge_iff_le, gt_iff_lt, Int.toNat_natCast, Int.reduceToNat, Int.cast_ofNat_Int, Int.natCast_nonneg, acB]
              refine LoopNext.intro (z + 1) (by omega) (by omega) ⟨[((1,0),(1,0)), ((4,0),(4,0)), ((12,0),(12,0)), ((20,0),(20,0))], rfl, ?_, ?_⟩
              · simp [wkEnv, lk, renV, renAt, renTo, w3, orZ, renCaps]
              · simp [wkMem, wkLoc, Mem.get, assoc, renBlk, renSegs, renSg, renTo, w3, orZ, renCaps]
            · have hzN : z = N := by omega
              subst hzN
              simp only [absE, absL, absF, reduceCtorEq, ↓reduceIte, Nat.reduceEqDiff, Nat.reduceAdd, Nat.reduceLT, Nat.reduceMul, Nat.reduceSub, Nat.reduceLeDiff, Int.reduceLT, Int.reduceLE, Int.reduceEq, Option.isSome_some, implies_true, false_implies, Prod.mk.injEq, ne_eq, not_false_eq_true, not_true_eq_false, ge_iff_le, gt_iff_lt, Int.toNat_natCast, Int.reduceToNat, Int.cast_ofNat_Int, Int.natCast_nonneg, h3, w']
              refine LoopNext.intro (y + 1) (by omega) (by omega) ⟨[((1,0),(1,0)), ((4,0),(4,0)), ((12,0),(12,0))], rfl, ?_, ?_⟩
              · simp [wkEnv, lk, renV, renAt, renTo, hYs, renCaps]
              · simp [wkMem, wkLoc, Mem.get, assoc, renBlk, renSegs, renSg, renTo, hYs, renCaps]
        · have hyN : y = N := by omega
          subst hyN
          simp only [absE, absL, absF, reduceCtorEq, ↓reduceIte, Nat.reduceEqDiff, Nat.reduceAdd, Nat.reduceLT, Nat.reduceMul, Nat.reduceSub, Nat.reduceLeDiff, Int.reduceLT, Int.reduceLE, Int.reduceEq, Option.isSome_some, implies_true, false_implies, Prod.mk.injEq, ne_eq, not_false_eq_true, not_true_eq_false, ge_iff_le, gt_iff_lt, Int.toNat_natCast, Int.reduceToNat, Int.cast_ofNat_Int, Int.natCast_nonneg, h', w]
          refine LoopNext.intro (x + 1) (by omega) (by omega) ⟨[((1,0),(1,0)), ((4,0),(4,0))], rfl, ?_, ?_⟩
          · simp [wkEnv, lk, renV, renAt, renTo, hXs, renCaps]
          · simp [wkMem, wkLoc, Mem.get, assoc, renBlk, renSegs, renSg, renTo, hXs, renCaps]
    · have hxN : x = N := by omega
      subst hxN
      simp only [absE, absL, absF, reduceCtorEq, ↓reduceIte, Nat.reduceEqDiff, Nat.reduceAdd, Nat.reduceLT, Nat.reduceMul, Nat.reduceSub, Nat.reduceLeDiff, Int.reduceLT, Int.reduceLE, Int.reduceEq, Option.isSome_some, implies_true, false_implies, Prod.mk.injEq, ne_eq, not_false_eq_true, not_true_eq_false, ge_iff_le, gt_iff_lt, Int.toNat_natCast, Int.reduceToNat, Int.cast_ofNat_Int, Int.natCast_nonneg, h, Try.results94]
      exact ⟨[], by simp, by simp, by simp [renV, renBlk, renSegs, renSg]⟩
theorem pairsCom_ok (N : Nat) (t : List Int) (ht : Bytes 100 t) (hs : SqP N t) :
    ACalls Try.prog 123 [.agg (sqS N t), .ref (.fn 124 [(0, 0, 0, 0), (0, 1, 0, 0)])] [acB 0, .lv true (sqS N t)] (fun v ms ns => v = .b true ∧ ms = [acB (orY (comN N t) N 0 N), .lv true (sqS N t)] ∧ ns = []) := by
  have hN := hs.le
  have h2 : 0 < 2 ^ N := Nat.two_pow_pos N
  unfold acB
  refine acalls_of_body mix Try.func123 rfl fok123 (Nat.le_of_ble_eq_true rfl) ?_
  unfold abody
  simp only [absE, absL, absF, reduceCtorEq, ↓reduceIte, Nat.reduceEqDiff, Nat.reduceAdd, Nat.reduceLT, Nat.reduceMul, Nat.reduceSub, Nat.reduceLeDiff, Int.reduceLT, Int.reduceLE, Int.reduceEq, Option.isSome_some, implies_true, false_implies, Prod.mk.injEq, ne_eq, not_false_eq_true, not_true_eq_false, ge_iff_le, gt_iff_lt, Int.toNat_natCast, Int.reduceToNat, Int.cast_ofNat_Int, Int.natCast_nonneg, Try.f123]
  refine CallsVia.none (elements_ok N t hN) ?_
  rintro _ _ _ ⟨rfl, rfl, rfl⟩
  simp only [absE, absL, absF, reduceCtorEq, ↓reduceIte, Nat.reduceEqDiff, Nat.reduceAdd, Nat.reduceLT, Nat.reduceMul, Nat.reduceSub, Nat.reduceLeDiff, Int.reduceLT, Int.reduceLE, Int.reduceEq, Option.isSome_some, implies_true, false_implies, Prod.mk.injEq, ne_eq, not_false_eq_true, not_true_eq_false, ge_iff_le, gt_iff_lt, Int.toNat_natCast, Int.reduceToNat, Int.cast_ofNat_Int, Int.natCast_nonneg]
  refine awpLoop.intro (fun x : Nat => [(1, .ref (.fn 124 [(0, 0, 0, 0), (0, 1, 0, 0)])), (2, .ref (.ptr 1 0 0 0)), (10, .ref (.sl 4 0 0 0 N 1)), (11, .i .i64 N), (12, .i .i64 x)]) (fun x => ⟨[.lv true [(0, .ints .i64 1 [(orY (comN N t) N 0 x : Int)])], .lv true (sqS N t)], [((1, 0), .lv true (sqS N t)), ((4, 0), .lv true ([(0, .ints .u8 N (bytesTo N))]))], 7⟩)
    (fun x => x ≤ N) (fun x => N - x) 0 (by omega) ⟨[((1,0),(1,0)), ((4,0),(4,0))], rfl, ?_, ?_⟩ ?_
  · simp [wkEnv, lk, renV, renAt, renTo, orY, renCaps]
  · simp [wkMem, wkLoc, Mem.get, assoc, renBlk, renSegs, renSg, renTo, orY, renCaps]
  · intro x hx
    by_cases h : (x : Int) < N
    · have w := wrap_i64s (show x < 2 ^ 62 by omega)
      have b1 : (bytesTo N).getD (0 + x * 1) 0 = (x : Int) := by rw [Nat.zero_add, Nat.mul_one]; exact bytesTo_get (by omega)
      have v1 : 0 + x * 1 < N := by omega
      have hX := orY_lt (N := N) (s := 0) h2 (n := x) fun a b ha hb => comN_lt hs (show a < N by omega) hb
      simp only [absE, absL, absF, reduceCtorEq, ↓reduceIte, Nat.reduceEqDiff, Nat.reduceAdd, Nat.reduceLT, Nat.reduceMul, Nat.reduceSub, Nat.reduceLeDiff, Int.reduceLT, Int.reduceLE, Int.reduceEq, Option.isSome_some, implies_true, false_implies, Prod.mk.injEq, ne_eq, not_false_eq_true, not_true_eq_false, ge_iff_le, gt_iff_lt, Int.toNat_natCast, Int.reduceToNat, Int.cast_ofNat_Int, Int.natCast_nonneg, h, b1, v1]
      refine CallsVia.none (elements_ok N t hN) ?_
      rintro _ _ _ ⟨rfl, rfl, rfl⟩
      simp only [absE, absL, absF, reduceCtorEq, ↓reduceIte, Nat.reduceEqDiff, Nat.reduceAdd, Nat.reduceLT, Nat.reduceMul, Nat.reduceSub, Nat.reduceLeDiff, Int.reduceLT, Int.reduceLE, Int.reduceEq, Option.isSome_some, implies_true, false_implies, Prod.mk.injEq, ne_eq, not_false_eq_true, not_true_eq_false, ge_iff_le, gt_iff_lt, Int.toNat_natCast, Int.reduceToNat, Int.cast_ofNat_Int, Int.natCast_nonneg]
      have hXs : orY (comN N t) N 0 (x + 1) = orZ (comN N t x) (orY (comN N t) N 0 x) N := rfl
      generalize orY (comN N t) N 0 x = sx at hX hXs ⊢
      refine awpLoop.intro (fun y : Nat => [(1, .ref (.fn 124 [(0, 0, 0, 0), (0, 1, 0, 0)])), (2, .ref (.ptr 1 0 0 0)), (10, .ref (.sl 4 0 0 0 N 1)), (11, .i .i64 N), (12, .i .i64 x), (6, .i .u8 x), (17, .ref (.sl 12 0 0 0 N 1)), (18, .i .i64 N), (19, .i .i64 y)]) (fun y => ⟨[.lv true [(0, .ints .i64 1 [(orZ (comN N t x) sx y : Int)])], .lv true (sqS N t)], [((1, 0), .lv true (sqS N t)), ((4, 0), .lv true ([(0, .ints .u8 N (bytesTo N))])), ((12, 0), .lv true ([(0, .ints .u8 N (bytesTo N))]))], 15⟩)
        (fun y => y ≤ N) (fun y => N - y) 0 (by omega) ⟨[((1,0),(1,0)), ((4,0),(4,0)), ((12,0),(12,0))], rfl, ?_, ?_⟩ ?_
      · simp [wkEnv, lk, renV, renAt, renTo, orZ, renCaps]
      · simp [wkMem, wkLoc, Mem.get, assoc, renBlk, renSegs, renSg, renTo, orZ, renCaps]
      · intro y hy
        by_cases h' : (y : Int) < N
        · have w' := wrap_i64s (show y < 2 ^ 62 by omega)
          have b2 : (bytesTo N).getD (0 + y * 1) 0 = (y : Int) := by rw [Nat.zero_add, Nat.mul_one]; exact bytesTo_get (by omega)
          have v2 : 0 + y * 1 < N := by omega
          have hY := orZ_lt (N := N) hX (n := y) fun b hb => comN_lt hs (show x < N by omega) (show b < N by omega)
          simp only [absE, absL, absF, reduceCtorEq, ↓reduceIte, Nat.reduceEqDiff, Nat.reduceAdd, Nat.reduceLT, Nat.reduceMul, Nat.reduceSub, Nat.reduceLeDiff, Int.reduceLT, Int.reduceLE, Int.reduceEq, Option.isSome_some, implies_true, false_implies, Prod.mk.injEq, ne_eq, not_false_eq_true, not_true_eq_false, ge_iff_le, gt_iff_lt, Int.toNat_natCast, Int.reduceToNat, Int.cast_ofNat_Int, Int.natCast_nonneg, h', b2, v2]
          refine CallsVia.args [(0, 0), (0, 1)] (com1_ok N t (orZ (comN N t x) sx y) x y ht hs hY (by omega) (by omega)) (by simp) (by simp [Mem.get]) rfl rfl ?_
          rintro _ _ _ ⟨rfl, rfl, rfl⟩
          simp only [absE, absL, absF, reduceCtorEq, ↓reduceIte, Nat.reduceEqDiff, Nat.reduceAdd, Nat.reduceLT, Nat.reduceMul, Nat.reduceSub, Nat.reduceLeDiff, Int.reduceLT, Int.reduceLE, Int.reduceEq, Option.isSome_some, implies_true, false_implies, Prod.mk.injEq, ne_eq, not_false_eq_true, not_true_eq_false, ge_iff_le, gt_iff_lt, Int.toNat_natCast, Int.reduceToNat, Int.cast_ofNat_Int, Int.natCast_nonneg, acB]
          refine LoopNext.intro (y + 1) (by omega) (by omega) ⟨[((1,0),(1,0)), ((4,0),(4,0)), ((12,0),(12,0))], rfl, ?_, ?_⟩
          · simp [wkEnv, lk, renV, renAt, renTo, w', orZ, renCaps]
          · simp [wkMem, wkLoc, Mem.get, assoc, renBlk, renSegs, renSg, renTo, w', orZ, renCaps]
        · have hyN : y = N := by omega
          subst hyN
          simp only [absE, absL, absF, reduceCtorEq, ↓reduceIte, Nat.reduceEqDiff, Nat.reduceAdd, Nat.reduceLT, Nat.reduceMul, Nat.reduceSub, Nat.reduceLeDiff, Int.reduceLT, Int.reduceLE, Int.reduceEq, Option.isSome_some, implies_true, false_implies, Prod.mk.injEq, ne_eq, not_false_eq_true, not_true_eq_false, ge_iff_le, gt_iff_lt, Int.toNat_natCast, Int.reduceToNat, Int.cast_ofNat_Int, Int.natCast_nonneg, h', w]
          refine LoopNext.intro (x + 1) (by omega) (by omega) ⟨[((1,0),(1,0)), ((4,0),(4,0))], rfl, ?_, ?_⟩
          · simp [wkEnv, lk, renV, renAt, renTo, hXs, renCaps]
          · simp [wkMem, wkLoc, Mem.get, assoc, renBlk, renSegs, renSg, renTo, hXs, renCaps]
    · have hxN : x = N := by omega
      subst hxN
      simp only [absE, absL, absF, reduceCtorEq, ↓reduceIte, Nat.reduceEqDiff, Nat.reduceAdd, Nat.reduceLT, Nat.reduceMul, Nat.reduceSub, Nat.reduceLeDiff, Int.reduceLT, Int.reduceLE, Int.reduceEq, Option.isSome_some, implies_true, false_implies, Prod.mk.injEq, ne_eq, not_false_eq_true, not_true_eq_false, ge_iff_le, gt_iff_lt, Int.toNat_natCast, Int.reduceToNat, Int.cast_ofNat_Int, Int.natCast_nonneg, h, Try.results123]
      exact ⟨[], by simp, by simp, by simp [renV, renBlk, renSegs, renSg]⟩
theorem associators_ok (N : Nat) (t : List Int) (ht : Bytes 100 t) (hs : SqP N t) : ACalls Try.prog 69 [.agg (sqS N t)] [] (fun v ms ns => v = .i .i64 (orX (ascN N t) N 0 N : Nat) ∧ ms = [] ∧ ns = []) := by
  refine acalls_of_body mix Try.func69 rfl fok69 (Nat.le_of_ble_eq_true rfl) ?_
  unfold abody
  simp only [absE, absL, absF, reduceCtorEq, ↓reduceIte, Nat.reduceEqDiff, Nat.reduceAdd, Nat.reduceLT, Nat.reduceMul, Nat.reduceSub, Nat.reduceLeDiff, Int.reduceLT, Int.reduceLE, Int.reduceEq, Option.isSome_some, implies_true, false_implies, Prod.mk.injEq, ne_eq, not_false_eq_true, not_true_eq_false, ge_iff_le, gt_iff_lt, Int.toNat_natCast, Int.reduceToNat, Int.cast_ofNat_Int, Int.natCast_nonneg, Try.f69]
  refine CallsVia.args [(3, 0), (1, 0)] (placesAsc_ok N t ht hs) (by simp) (by simp [Mem.get, assoc]) rfl rfl ?_
  rintro _ _ _ ⟨rfl, rfl, rfl⟩
  simp only [absE, absL, absF, reduceCtorEq, ↓reduceIte, Nat.reduceEqDiff, Nat.reduceAdd, Nat.reduceLT, Nat.reduceMul, Nat.reduceSub, Nat.reduceLeDiff, Int.reduceLT, Int.reduceLE, Int.reduceEq, Option.isSome_some, implies_true, false_implies, Prod.mk.injEq, ne_eq, not_false_eq_true, not_true_eq_false, ge_iff_le, gt_iff_lt, Int.toNat_natCast, Int.reduceToNat, Int.cast_ofNat_Int, Int.natCast_nonneg, acB, List.getD_cons_zero, Try.results69]
  exact ⟨[], by simp, by simp, by simp [renV, renVs, renSegs, renSg]⟩
theorem commutators_ok (N : Nat) (t : List Int) (ht : Bytes 100 t) (hs : SqP N t) : ACalls Try.prog 71 [.agg (sqS N t)] [] (fun v ms ns => v = .i .i64 (orY (comN N t) N 0 N : Nat) ∧ ms = [] ∧ ns = []) := by
  refine acalls_of_body mix Try.func71 rfl fok71 (Nat.le_of_ble_eq_true rfl) ?_
  unfold abody
  simp only [absE, absL, absF, reduceCtorEq, ↓reduceIte, Nat.reduceEqDiff, Nat.reduceAdd, Nat.reduceLT, Nat.reduceMul, Nat.reduceSub, Nat.reduceLeDiff, Int.reduceLT, Int.reduceLE, Int.reduceEq, Option.isSome_some, implies_true, false_implies, Prod.mk.injEq, ne_eq, not_false_eq_true, not_true_eq_false, ge_iff_le, gt_iff_lt, Int.toNat_natCast, Int.reduceToNat, Int.cast_ofNat_Int, Int.natCast_nonneg, Try.f71]
  refine CallsVia.args [(3, 0), (1, 0)] (pairsCom_ok N t ht hs) (by simp) (by simp [Mem.get, assoc]) rfl rfl ?_
  rintro _ _ _ ⟨rfl, rfl, rfl⟩
  simp only [absE, absL, absF, reduceCtorEq, ↓reduceIte, Nat.reduceEqDiff, Nat.reduceAdd, Nat.reduceLT, Nat.reduceMul, Nat.reduceSub, Nat.reduceLeDiff, Int.reduceLT, Int.reduceLE, Int.reduceEq, Option.isSome_some, implies_true, false_implies, Prod.mk.injEq, ne_eq, not_false_eq_true, not_true_eq_false, ge_iff_le, gt_iff_lt, Int.toNat_natCast, Int.reduceToNat, Int.cast_ofNat_Int, Int.natCast_nonneg, acB, List.getD_cons_zero, Try.results71]
  exact ⟨[], by simp, by simp, by simp [renV, renVs, renSegs, renSg]⟩
def dS (both : Bool) (N : Nat) (t : List Int) (w : Nat) : Prop := (both = true ∧ ∃ x y, x < N ∧ y < N ∧ comN N t x y = w) ∨ ∃ x y z, x < N ∧ y < N ∧ z < N ∧ ascN N t x y z = w
theorem dS_lt {both : Bool} {N : Nat} {t : List Int} {w : Nat} (hs : SqP N t) (h : dS both N t w) : w < N := by
  rcases h with ⟨_, x, y, hx, hy, rfl⟩ | ⟨x, y, z, hx, hy, hz, rfl⟩
  · exact comN_lt hs hx hy
  · exact ascN_lt hs hx hy hz
theorem asc_dS {N : Nat} {t : List Int} {w : Nat} : (orX (ascN N t) N 0 N).testBit w = true ↔ dS false N t w := by
  rw [orX_bit]; simp [dS]
theorem both_dS {N : Nat} {t : List Int} {w : Nat} : (orY (comN N t) N 0 N ||| orX (ascN N t) N 0 N).testBit w = true ↔ dS true N t w := by
  rw [Nat.testBit_or, Bool.or_eq_true, orX_bit, orY_bit]; simp [dS]
theorem ascSub1_ok (N : Nat) (t : List Int) (ht : Bytes 100 t) (hs : SqP N t) (hu : UnitP N t 0) :
    ACalls Try.prog 68 [.agg (sqS N t)] [] (fun v ms ns => v = .i .i64 (setM (nclB N t (dS false N t)) N : Nat) ∧ ms = [] ∧ ns = []) := by
  refine acalls_of_body mix Try.func68 rfl fok68 (Nat.le_of_ble_eq_true rfl) ?_
  unfold abody
  simp only [absE, absL, absF, reduceCtorEq, ↓reduceIte, Nat.reduceEqDiff, Nat.reduceAdd, Nat.reduceLT, Nat.reduceMul, Nat.reduceSub, Nat.reduceLeDiff, Int.reduceLT, Int.reduceLE, Int.reduceEq, Option.isSome_some, implies_true, false_implies, Prod.mk.injEq, ne_eq, not_false_eq_true, not_true_eq_false, ge_iff_le, gt_iff_lt, Int.toNat_natCast, Int.reduceToNat, Int.cast_ofNat_Int, Int.natCast_nonneg, Try.f68]
  repeat refine And.intro (by decide +kernel) ?_
  refine CallsX.none (associators_ok N t ht hs) ?_
  simp only [absE, absL, absF, reduceCtorEq, ↓reduceIte, Nat.reduceEqDiff, Nat.reduceAdd, Nat.reduceLT, Nat.reduceMul, Nat.reduceSub, Nat.reduceLeDiff, Int.reduceLT, Int.reduceLE, Int.reduceEq, Option.isSome_some, implies_true, false_implies, Prod.mk.injEq, ne_eq, not_false_eq_true, not_true_eq_false, ge_iff_le, gt_iff_lt, Int.toNat_natCast, Int.reduceToNat, Int.cast_ofNat_Int, Int.natCast_nonneg]
  repeat refine And.intro (by decide +kernel) ?_
  refine CallsX.none (closure_ok N t _ (dS false N t) ht hs hu (orX_lt (Nat.two_pow_pos N) fun a b c ha hb hc => ascN_lt hs ha hb hc) fun z => asc_dS) ?_
  simp only [absE, absL, absF, reduceCtorEq, ↓reduceIte, Nat.reduceEqDiff, Nat.reduceAdd, Nat.reduceLT, Nat.reduceMul, Nat.reduceSub, Nat.reduceLeDiff, Int.reduceLT, Int.reduceLE, Int.reduceEq, Option.isSome_some, implies_true, false_implies, Prod.mk.injEq, ne_eq, not_false_eq_true, not_true_eq_false, ge_iff_le, gt_iff_lt, Int.toNat_natCast, Int.reduceToNat, Int.cast_ofNat_Int, Int.natCast_nonneg, Try.results68]
  repeat refine And.intro (by decide +kernel) ?_
  exact ⟨[], by simp, by simp, by simp [renV, renVs, renSegs, renSg]⟩
theorem drvSub1_ok (N : Nat) (t : List Int) (ht : Bytes 100 t) (hs : SqP N t) (hu : UnitP N t 0) :
    ACalls Try.prog 70 [.agg (sqS N t)] [] (fun v ms ns => v = .i .i64 (setM (nclB N t (dS true N t)) N : Nat) ∧ ms = [] ∧ ns = []) := by
  have hN := hs.le
  have hN2 : (2 : Nat) ^ N ≤ 2 ^ 10 := Nat.pow_le_pow_right (by decide) hN
  have hA : orX (ascN N t) N 0 N < 2 ^ N := orX_lt (Nat.two_pow_pos N) fun a b c ha hb hc => ascN_lt hs ha hb hc
  have hC : orY (comN N t) N 0 N < 2 ^ N := orY_lt (Nat.two_pow_pos N) fun a b ha hb => comN_lt hs ha hb
  have o1 := wrap_or (a := orY (comN N t) N 0 N) (b := orX (ascN N t) N 0 N) (by omega) (by omega)
  refine acalls_of_body mix Try.func70 rfl fok70 (Nat.le_of_ble_eq_true rfl) ?_
  unfold abody
  simp only [absE, absL, absF, reduceCtorEq, ↓reduceIte, Nat.reduceEqDiff, Nat.reduceAdd, Nat.reduceLT, Nat.reduceMul, Nat.reduceSub, Nat.reduceLeDiff, Int.reduceLT, Int.reduceLE, Int.reduceEq, Option.isSome_some, implies_true, false_implies, Prod.mk.injEq, ne_eq, not_false_eq_true, not_true_eq_false, ge_iff_le, gt_iff_lt, Int.toNat_natCast, Int.reduceToNat, Int.cast_ofNat_Int, Int.natCast_nonneg, Try.f70]
  repeat refine And.intro (by decide +kernel) ?_
  refine CallsX.none (commutators_ok N t ht hs) ?_
  simp only [absE, absL, absF, reduceCtorEq, ↓reduceIte, Nat.reduceEqDiff, Nat.reduceAdd, Nat.reduceLT, Nat.reduceMul, Nat.reduceSub, Nat.reduceLeDiff, Int.reduceLT, Int.reduceLE, Int.reduceEq, Option.isSome_some, implies_true, false_implies, Prod.mk.injEq, ne_eq, not_false_eq_true, not_true_eq_false, ge_iff_le, gt_iff_lt, Int.toNat_natCast, Int.reduceToNat, Int.cast_ofNat_Int, Int.natCast_nonneg]
  repeat refine And.intro (by decide +kernel) ?_
  refine CallsX.none (associators_ok N t ht hs) ?_
  simp only [absE, absL, absF, reduceCtorEq, ↓reduceIte, Nat.reduceEqDiff, Nat.reduceAdd, Nat.reduceLT, Nat.reduceMul, Nat.reduceSub, Nat.reduceLeDiff, Int.reduceLT, Int.reduceLE, Int.reduceEq, Option.isSome_some, implies_true, false_implies, Prod.mk.injEq, ne_eq, not_false_eq_true, not_true_eq_false, ge_iff_le, gt_iff_lt, Int.toNat_natCast, Int.reduceToNat, Int.cast_ofNat_Int, Int.natCast_nonneg, o1]
  repeat refine And.intro (by decide +kernel) ?_
  refine CallsX.none (closure_ok N t _ (dS true N t) ht hs hu (Nat.or_lt_two_pow hC hA) fun z => both_dS) ?_
  simp only [absE, absL, absF, reduceCtorEq, ↓reduceIte, Nat.reduceEqDiff, Nat.reduceAdd, Nat.reduceLT, Nat.reduceMul, Nat.reduceSub, Nat.reduceLeDiff, Int.reduceLT, Int.reduceLE, Int.reduceEq, Option.isSome_some, implies_true, false_implies, Prod.mk.injEq, ne_eq, not_false_eq_true, not_true_eq_false, ge_iff_le, gt_iff_lt, Int.toNat_natCast, Int.reduceToNat, Int.cast_ofNat_Int, Int.natCast_nonneg, Try.results70]
  repeat refine And.intro (by decide +kernel) ?_
  exact ⟨[], by simp, by simp, by simp [renV, renVs, renSegs, renSg]⟩

end Go.Proofs.Ytoccbgffekhcaaa
