/-
Contracts of functions of the given program, by the abstract walk.
-/
import Derived.Test.YtoccbgffekhcaaaAbsY
import Derived.Test.YtoccbgffekhcaaaDe
import Derived.Test.YtoccbgffekhcaaaDc
import Derived.Test.YtoccbgffekhcaaaEc
import Derived.Test.YtoccbgffekhcaaaDj
namespace Go.Proofs.Ytoccbgffekhcaaa
open Go Go.Abs
set_option linter.unusedVariables false
set_option linter.unusedSectionVars false
set_option linter.unusedSimpArgs false
set_option maxRecDepth 100000
/-! lists of maps -/
def Maps (Ls : List (List Int)) : Prop := ∀ p ∈ Ls, p.length = 10
theorem Maps.app {A B : List (List Int)} (h : Maps A) (h' : Maps B) : Maps (A ++ B) := fun p hp => by
  rcases List.mem_append.1 hp with h1 | h1
  · exact h p h1
  · exact h' p h1
theorem flat_len : ∀ {Ls : List (List Int)}, Maps Ls → Ls.flatten.length = Ls.length * 10
  | [], _ => rfl
  | p :: Ls, h => by
    rw [List.flatten_cons, List.length_append, h p (by simp), flat_len fun q hq => h q (by simp [hq]), List.length_cons]; omega
theorem flat_get : ∀ {Ls : List (List Int)} {i : Nat}, Maps Ls → i < Ls.length → (Ls.flatten.drop (i * 10)).take 10 = Ls.getD i []
  | [], i, _, hi => absurd hi (by simp)
  | p :: Ls, 0, h, _ => by
    have := h p (by simp)
    rw [List.flatten_cons, Nat.zero_mul, List.drop_zero, List.take_append_of_le_length (by omega), List.take_of_length_le (by omega)]; rfl
  | p :: Ls, i + 1, h, hi => by
    have h1 := h p (by simp)
    have h2 := flat_get (Ls := Ls) (i := i) (fun q hq => h q (by simp [hq])) (by simpa using hi)
    rw [List.flatten_cons, List.drop_append, h1, List.drop_eq_nil_of_le (by omega), List.nil_append, show (i + 1) * 10 - 10 = i * 10 by omega, h2]; rfl
theorem flat_cell {Ls : List (List Int)} {i x : Nat} (h : Maps Ls) (hi : i < Ls.length) (hx : x < 10) : Ls.flatten.getD (i * 10 + x) 0 = (Ls.getD i []).getD x 0 := by
  rw [← flat_get h hi, getD_sub, if_pos hx]
theorem getD_mem {Ls : List (List Int)} {i : Nat} (hi : i < Ls.length) : Ls.getD i [] ∈ Ls := by simp [hi]

/-! without elements: an empty list of them -/
theorem has_nil (n : Int) (t : List Int) : ACalls Try.prog 88 [.agg (sqS n t), .ref .nils] [] (fun v ms ns => v = .b true ∧ ms = [] ∧ ns = []) := by
  refine acalls_of_body mix Try.func88 rfl fok88 (Nat.le_of_ble_eq_true rfl) ?_
  unfold abody
  simp only [absE, absL, absF, reduceCtorEq, ↓reduceIte, Nat.reduceEqDiff, Nat.reduceAdd, Nat.reduceLT, Nat.reduceMul, Nat.reduceSub, Nat.reduceLeDiff, Int.reduceLT, Int.reduceLE, Int.reduceEq, Option.isSome_some, implies_true, false_implies, Prod.mk.injEq, ne_eq, not_false_eq_true, not_true_eq_false, ge_iff_le, gt_iff_lt, Int.toNat_natCast, Int.reduceToNat, Int.cast_ofNat_Int, Int.natCast_nonneg, Try.f88]
  refine awpLoop.intro (fun i : Nat => [(2, .ref (.ptr 1 0 0 0)), (7, .ref .nils), (8, .i .i64 0), (9, .i .i64 0)]) (fun i => ⟨[], [((1, 0), .lv true (sqS n t))], 6⟩) (fun i => i = 0) (fun i => 0) 0 rfl ⟨[((1,0),(1,0))], rfl, ?_, ?_⟩ ?_
  · simp [wkEnv, lk, renV, renAt, renTo]
  · simp [wkMem, wkLoc, Mem.get, assoc, renBlk, renSegs, renSg, renTo]
  · rintro i rfl
    simp only [absE, absL, absF, reduceCtorEq, ↓reduceIte, Nat.reduceEqDiff, Nat.reduceAdd, Nat.reduceLT, Nat.reduceMul, Nat.reduceSub, Nat.reduceLeDiff, Int.reduceLT, Int.reduceLE, Int.reduceEq, Option.isSome_some, implies_true, false_implies, Prod.mk.injEq, ne_eq, not_false_eq_true, not_true_eq_false, ge_iff_le, gt_iff_lt, Int.toNat_natCast, Int.reduceToNat, Int.cast_ofNat_Int, Int.natCast_nonneg, Int.lt_irrefl, Try.results88]
    exact fin_true rfl
noncomputable def ncode (n : Int) (t : List Int) : Int := if sqB n t then (if unitB n.toNat t 0 then 0 else 5) else 1
theorem ncode_zero {n : Int} {t : List Int} (h : ncode n t = 0) : SqP n t := by
  unfold ncode at h
  split at h
  · rename_i h1; exact sqB_iff.1 h1
  · omega
theorem checked_nil (n : Int) (t : List Int) (ht : Bytes 100 t) : ACalls Try.prog 75 [.agg (sqS n t), .ref .nils] [] (fun v ms ns => v = .i .i64 (if sqB n t then 0 else 1) ∧ ms = [] ∧ ns = []) := by
  refine acalls_of_body mix Try.func75 rfl fok75 (Nat.le_of_ble_eq_true rfl) ?_
  unfold abody
  simp only [absE, absL, absF, reduceCtorEq, ↓reduceIte, Nat.reduceEqDiff, Nat.reduceAdd, Nat.reduceLT, Nat.reduceMul, Nat.reduceSub, Nat.reduceLeDiff, Int.reduceLT, Int.reduceLE, Int.reduceEq, Option.isSome_some, implies_true, false_implies, Prod.mk.injEq, ne_eq, not_false_eq_true, not_true_eq_false, ge_iff_le, gt_iff_lt, Int.toNat_natCast, Int.reduceToNat, Int.cast_ofNat_Int, Int.natCast_nonneg, Try.f75]
  refine CallsVia.none (isSquare_ok n t ht) ?_
  rintro _ _ _ ⟨rfl, rfl, rfl⟩
  cases h1 : sqB n t
  · simp only [absE, absL, absF, reduceCtorEq, ↓reduceIte, Nat.reduceEqDiff, Nat.reduceAdd, Nat.reduceLT, Nat.reduceMul, Nat.reduceSub, Nat.reduceLeDiff, Int.reduceLT, Int.reduceLE, Int.reduceEq, Option.isSome_some, implies_true, false_implies, Prod.mk.injEq, ne_eq, not_false_eq_true, not_true_eq_false, ge_iff_le, gt_iff_lt, Int.toNat_natCast, Int.reduceToNat, Int.cast_ofNat_Int, Int.natCast_nonneg, Try.results75]
    exact ⟨[], by simp, by simp, by simp [renV, renVs, renSegs, renSg, h1]⟩
  · simp only [absE, absL, absF, reduceCtorEq, ↓reduceIte, Nat.reduceEqDiff, Nat.reduceAdd, Nat.reduceLT, Nat.reduceMul, Nat.reduceSub, Nat.reduceLeDiff, Int.reduceLT, Int.reduceLE, Int.reduceEq, Option.isSome_some, implies_true, false_implies, Prod.mk.injEq, ne_eq, not_false_eq_true, not_true_eq_false, ge_iff_le, gt_iff_lt, Int.toNat_natCast, Int.reduceToNat, Int.cast_ofNat_Int, Int.natCast_nonneg]
    refine CallsVia.none (has_nil n t) ?_
    rintro _ _ _ ⟨rfl, rfl, rfl⟩
    simp only [absE, absL, absF, reduceCtorEq, ↓reduceIte, Nat.reduceEqDiff, Nat.reduceAdd, Nat.reduceLT, Nat.reduceMul, Nat.reduceSub, Nat.reduceLeDiff, Int.reduceLT, Int.reduceLE, Int.reduceEq, Option.isSome_some, implies_true, false_implies, Prod.mk.injEq, ne_eq, not_false_eq_true, not_true_eq_false, ge_iff_le, gt_iff_lt, Int.toNat_natCast, Int.reduceToNat, Int.cast_ofNat_Int, Int.natCast_nonneg, Try.results75]
    exact ⟨[], by simp, by simp, by simp [renV, renVs, renSegs, renSg, h1]⟩
def inIn (N : Nat) (t : List Int) (x : Nat) (Ls : List (List Int)) : Nat → List (List Int)
  | 0 => Ls ++ [turnL N t x]
  | y + 1 => inIn N t x Ls y ++ [leftL N t x y, rightL N t x y]
def inT (N : Nat) (t : List Int) : Nat → List (List Int)
  | 0 => []
  | x + 1 => inIn N t x (inT N t x) N
theorem inIn_maps {N : Nat} {t : List Int} {x : Nat} {Ls : List (List Int)} (h : Maps Ls) : ∀ {y}, Maps (inIn N t x Ls y)
  | 0 => h.app fun p hp => by simp at hp; subst hp; exact mapL_len
  | y + 1 => (inIn_maps h).app fun p hp => by
      simp at hp
      rcases hp with rfl | rfl <;> exact mapL_len
theorem inT_maps {N : Nat} {t : List Int} : ∀ {x}, Maps (inT N t x)
  | 0 => fun p hp => by cases hp
  | x + 1 => inIn_maps inT_maps
theorem inIn_len {N : Nat} {t : List Int} {x : Nat} {Ls : List (List Int)} : ∀ {y}, (inIn N t x Ls y).length = Ls.length + 1 + 2 * y
  | 0 => by simp [inIn]
  | y + 1 => by rw [inIn, List.length_append, inIn_len]; simp; omega
theorem inT_len {N : Nat} {t : List Int} (hN : N ≤ 10) : ∀ {x}, (inT N t x).length ≤ 21 * x
  | 0 => by simp [inT]
  | x + 1 => by rw [inT, inIn_len]; have := inT_len (t := t) hN (x := x); omega
theorem spl_two {p q : List Int} (hp : p.length = 10) (hq : q.length = 10) : spl (spl (List.replicate 20 0) 0 p) 10 q = p ++ q := by
  refine ext_getD ?_ fun i hi => ?_
  · rw [spl_length (by rw [spl_length (by simp [hp]), hq]; simp), spl_length (by simp [hp])]; simp [hp, hq]
  · rw [spl_length (by rw [spl_length (by simp [hp]), hq]; simp), spl_length (by simp [hp])] at hi
    simp at hi
    rw [getD_spl (by rw [spl_length (by simp [hp]), hq]; simp), getD_spl (by simp [hp])]
    by_cases h : i < 10
    · rw [if_neg (by omega), if_pos (by omega)]
      simp [List.getElem?_append_left (show i < p.length by omega)]
    · rw [if_pos (by omega)]
      simp [List.getElem?_append_right (show p.length ≤ i by omega), hp]
theorem inner_ok (N : Nat) (t : List Int) (ht : Bytes 100 t) (hs : SqP N t) :
    ACalls Try.prog 116 [.agg (sqS N t)] [] (fun v ms ns => v = .ref (.sl 1 0 0 0 (inT N t N).length 10) ∧ ms = [] ∧ ns = [.lv true [(0, .ints .u8 ((inT N t N).length * 10) (inT N t N).flatten)]]) := by
  have hN := hs.le
  refine acalls_of_body mix Try.func116 rfl fok116 (Nat.le_of_ble_eq_true rfl) ?_
  unfold abody
  simp only [absE, absL, absF, reduceCtorEq, ↓reduceIte, Nat.reduceEqDiff, Nat.reduceAdd, Nat.reduceLT, Nat.reduceMul, Nat.reduceSub, Nat.reduceLeDiff, Int.reduceLT, Int.reduceLE, Int.reduceEq, Option.isSome_some, implies_true, false_implies, Prod.mk.injEq, ne_eq, not_false_eq_true, not_true_eq_false, ge_iff_le, gt_iff_lt, Int.toNat_natCast, Int.reduceToNat, Int.cast_ofNat_Int, Int.natCast_nonneg, Try.f116]
  refine CallsVia.none (elements_ok N t hN) ?_
  rintro _ _ _ ⟨rfl, rfl, rfl⟩
  simp only [absE, absL, absF, reduceCtorEq, ↓reduceIte, Nat.reduceEqDiff, Nat.reduceAdd, Nat.reduceLT, Nat.reduceMul, Nat.reduceSub, Nat.reduceLeDiff, Int.reduceLT, Int.reduceLE, Int.reduceEq, Option.isSome_some, implies_true, false_implies, Prod.mk.injEq, ne_eq, not_false_eq_true, not_true_eq_false, ge_iff_le, gt_iff_lt, Int.toNat_natCast, Int.reduceToNat, Int.cast_ofNat_Int, Int.natCast_nonneg]
  refine awpLoop.intro (fun x : Nat => [(1, .ref (.ptr 1 0 0 0)), (3, .ref (.sl 3 0 0 0 (inT N t x).length 10)), (10, .ref (.sl 6 0 0 0 N 1)), (11, .i .i64 N), (12, .i .i64 x)]) (fun x => ⟨[], [((1, 0), .lv true (sqS N t)), ((3, 0), .lv true ([(0, .ints .u8 ((inT N t x).length * 10) (inT N t x).flatten)])), ((6, 0), .lv true ([(0, .ints .u8 N (bytesTo N))]))], 9⟩)
    (fun x => x ≤ N) (fun x => N - x) 0 (by omega) ⟨[((1,0),(1,0)), ((3,0),(3,0)), ((6,0),(6,0))], rfl, ?_, ?_⟩ ?_
  · simp [wkEnv, lk, renV, renAt, renTo, inT]
  · simp [wkMem, wkLoc, Mem.get, assoc, renBlk, renSegs, renSg, renTo, inT]
  · intro x hx
    by_cases h : (x : Int) < N
    · have w := wrap_i64s (show x < 2 ^ 62 by omega)
      have b1 : (bytesTo N).getD (0 + x * 1) 0 = (x : Int) := by rw [Nat.zero_add, Nat.mul_one]; exact bytesTo_get (by omega)
      have v1 : 0 + x * 1 < N := by omega
      have hl := inT_len (t := t) hN (x := x)
      simp only [absE, absL, absF, reduceCtorEq, ↓reduceIte, Nat.reduceEqDiff, Nat.reduceAdd, Nat.reduceLT, Nat.reduceMul, Nat.reduceSub, Nat.reduceLeDiff, Int.reduceLT, Int.reduceLE, Int.reduceEq, Option.isSome_some, implies_true, false_implies, Prod.mk.injEq, ne_eq, not_false_eq_true, not_true_eq_false, ge_iff_le, gt_iff_lt, Int.toNat_natCast, Int.reduceToNat, Int.cast_ofNat_Int, Int.natCast_nonneg, h, b1, v1]
      refine CallsVia.none (implTurn_ok N t x ht hs (by omega)) ?_
      rintro _ _ _ ⟨rfl, rfl, rfl⟩
      simp only [absE, absL, absF, reduceCtorEq, ↓reduceIte, Nat.reduceEqDiff, Nat.reduceAdd, Nat.reduceLT, Nat.reduceMul, Nat.reduceSub, Nat.reduceLeDiff, Int.reduceLT, Int.reduceLE, Int.reduceEq, Option.isSome_some, implies_true, false_implies, Prod.mk.injEq, ne_eq, not_false_eq_true, not_true_eq_false, ge_iff_le, gt_iff_lt, Int.toNat_natCast, Int.reduceToNat, Int.cast_ofNat_Int, Int.natCast_nonneg]
      repeat refine And.intro (by omega) ?_
      refine CallsVia.none (elements_ok N t hN) ?_
      rintro _ _ _ ⟨rfl, rfl, rfl⟩
      simp only [absE, absL, absF, reduceCtorEq, ↓reduceIte, Nat.reduceEqDiff, Nat.reduceAdd, Nat.reduceLT, Nat.reduceMul, Nat.reduceSub, Nat.reduceLeDiff, Int.reduceLT, Int.reduceLE, Int.reduceEq, Option.isSome_some, implies_true, false_implies, Prod.mk.injEq, ne_eq, not_false_eq_true, not_true_eq_false, ge_iff_le, gt_iff_lt, Int.toNat_natCast, Int.reduceToNat, Int.cast_ofNat_Int, Int.natCast_nonneg]
      refine awpLoop.intro (fun y : Nat => [(1, .ref (.ptr 1 0 0 0)), (3, .ref (.sl 18 0 0 0 (inIn N t x (inT N t x) y).length 10)), (10, .ref (.sl 6 0 0 0 N 1)), (11, .i .i64 N), (12, .i .i64 x), (5, .i .u8 x), (23, .ref (.sl 21 0 0 0 N 1)), (24, .i .i64 N), (25, .i .i64 y)]) (fun y => ⟨[], [((1, 0), .lv true (sqS N t)), ((18, 0), .lv true ([(0, .ints .u8 ((inIn N t x (inT N t x) y).length * 10) (inIn N t x (inT N t x) y).flatten)])), ((6, 0), .lv true ([(0, .ints .u8 N (bytesTo N))])), ((21, 0), .lv true ([(0, .ints .u8 N (bytesTo N))]))], 24⟩)
        (fun y => y ≤ N) (fun y => N - y) 0 (by omega) ⟨[((1,0),(1,0)), ((18,0),(18,0)), ((6,0),(6,0)), ((21,0),(21,0))], rfl, ?_, ?_⟩ ?_
      · simp [wkEnv, lk, renV, renAt, renTo, inIn, Nat.add_mul]
      · simp [wkMem, wkLoc, Mem.get, assoc, renBlk, renSegs, renSg, renTo, inIn, Nat.add_mul]
      · intro y hy
        by_cases h' : (y : Int) < N
        · have w' := wrap_i64s (show y < 2 ^ 62 by omega)
          have b2 : (bytesTo N).getD (0 + y * 1) 0 = (y : Int) := by rw [Nat.zero_add, Nat.mul_one]; exact bytesTo_get (by omega)
          have v2 : 0 + y * 1 < N := by omega
          have hl2 := inIn_len (N := N) (t := t) (x := x) (Ls := inT N t x) (y := y)
          simp only [absE, absL, absF, reduceCtorEq, ↓reduceIte, Nat.reduceEqDiff, Nat.reduceAdd, Nat.reduceLT, Nat.reduceMul, Nat.reduceSub, Nat.reduceLeDiff, Int.reduceLT, Int.reduceLE, Int.reduceEq, Option.isSome_some, implies_true, false_implies, Prod.mk.injEq, ne_eq, not_false_eq_true, not_true_eq_false, ge_iff_le, gt_iff_lt, Int.toNat_natCast, Int.reduceToNat, Int.cast_ofNat_Int, Int.natCast_nonneg, h', b2, v2]
          refine CallsX.none (implLeftInner_ok N t x y ht hs (by omega) (by omega)) ?_
          simp only [absE, absL, absF, reduceCtorEq, ↓reduceIte, Nat.reduceEqDiff, Nat.reduceAdd, Nat.reduceLT, Nat.reduceMul, Nat.reduceSub, Nat.reduceLeDiff, Int.reduceLT, Int.reduceLE, Int.reduceEq, Option.isSome_some, implies_true, false_implies, Prod.mk.injEq, ne_eq, not_false_eq_true, not_true_eq_false, ge_iff_le, gt_iff_lt, Int.toNat_natCast, Int.reduceToNat, Int.cast_ofNat_Int, Int.natCast_nonneg]
          refine CallsX.none (implRightInner_ok N t x y ht hs (by omega) (by omega)) ?_
          have hsp := spl_two (p := leftL N t x y) (q := rightL N t x y) mapL_len mapL_len
          simp only [absE, absL, absF, reduceCtorEq, ↓reduceIte, Nat.reduceEqDiff, Nat.reduceAdd, Nat.reduceLT, Nat.reduceMul, Nat.reduceSub, Nat.reduceLeDiff, Int.reduceLT, Int.reduceLE, Int.reduceEq, Option.isSome_some, implies_true, false_implies, Prod.mk.injEq, ne_eq, not_false_eq_true, not_true_eq_false, ge_iff_le, gt_iff_lt, Int.toNat_natCast, Int.reduceToNat, Int.cast_ofNat_Int, Int.natCast_nonneg, hsp]
          repeat refine And.intro (by omega) ?_
          repeat refine And.intro (by decide +kernel) ?_
          refine LoopNext.intro (y + 1) (by omega) (by omega) ⟨[((1,0),(1,0)), ((38,0),(18,0)), ((6,0),(6,0)), ((21,0),(21,0))], rfl, ?_, ?_⟩
          · simp [wkEnv, lk, renV, renAt, renTo, inIn, Nat.add_mul, w']
          · simp [wkMem, wkLoc, Mem.get, assoc, renBlk, renSegs, renSg, renTo, inIn, Nat.add_mul, w']
        · have hyN : y = N := by omega
          subst hyN
          simp only [absE, absL, absF, reduceCtorEq, ↓reduceIte, Nat.reduceEqDiff, Nat.reduceAdd, Nat.reduceLT, Nat.reduceMul, Nat.reduceSub, Nat.reduceLeDiff, Int.reduceLT, Int.reduceLE, Int.reduceEq, Option.isSome_some, implies_true, false_implies, Prod.mk.injEq, ne_eq, not_false_eq_true, not_true_eq_false, ge_iff_le, gt_iff_lt, Int.toNat_natCast, Int.reduceToNat, Int.cast_ofNat_Int, Int.natCast_nonneg, h', w]
          refine LoopNext.intro (x + 1) (by omega) (by omega) ⟨[((1,0),(1,0)), ((18,0),(3,0)), ((6,0),(6,0))], rfl, ?_, ?_⟩
          · simp [wkEnv, lk, renV, renAt, renTo, inT]
          · simp [wkMem, wkLoc, Mem.get, assoc, renBlk, renSegs, renSg, renTo, inT]
    · have hxN : x = N := by omega
      subst hxN
      simp only [absE, absL, absF, reduceCtorEq, ↓reduceIte, Nat.reduceEqDiff, Nat.reduceAdd, Nat.reduceLT, Nat.reduceMul, Nat.reduceSub, Nat.reduceLeDiff, Int.reduceLT, Int.reduceLE, Int.reduceEq, Option.isSome_some, implies_true, false_implies, Prod.mk.injEq, ne_eq, not_false_eq_true, not_true_eq_false, ge_iff_le, gt_iff_lt, Int.toNat_natCast, Int.reduceToNat, Int.cast_ofNat_Int, Int.natCast_nonneg, h, Try.results116]
      exact ⟨[(3, 0)], by simp, by simp, by simp [renV, renAt, renFin, idx], by simp, by simp [renBlk, renSegs, renSg, Mem.get, assoc]⟩
theorem turnL_perm {N : Nat} {t : List Int} (hs : SqP N t) {x : Nat} (hx : x < N) : PermP N (turnL N t x) :=
  PermP_of hs.pos hs.le (permF_mapL hs.le (fun i hi => PermF.fnd_lt (hs.colP hx) hs.le (hs.cl_lt hx hi)) fun i j hi hj e => by
    have h1 := PermF.fnd_at (hs.colP hx) hs.le (hs.cl_lt hx hi)
    have h2 := PermF.fnd_at (hs.colP hx) hs.le (hs.cl_lt hx hj)
    rw [e, h2] at h1
    exact PermF.inj (hs.rowP hx) hs.le hi hj h1.symm)
theorem leftL_perm {N : Nat} {t : List Int} (hs : SqP N t) {x y : Nat} (hx : x < N) (hy : y < N) : PermP N (leftL N t x y) :=
  PermP_of hs.pos hs.le (permF_mapL hs.le (fun i hi => PermF.fnd_lt (hs.rowP (hs.cl_lt hy hx)) hs.le (hs.cl_lt hy (hs.cl_lt hx hi))) fun i j hi hj e => by
    have h1 := PermF.fnd_at (hs.rowP (hs.cl_lt hy hx)) hs.le (hs.cl_lt hy (hs.cl_lt hx hi))
    have h2 := PermF.fnd_at (hs.rowP (hs.cl_lt hy hx)) hs.le (hs.cl_lt hy (hs.cl_lt hx hj))
    rw [e, h2] at h1
    exact PermF.inj (hs.rowP hx) hs.le hi hj (PermF.inj (hs.rowP hy) hs.le (hs.cl_lt hx hi) (hs.cl_lt hx hj) h1.symm))
theorem rightL_perm {N : Nat} {t : List Int} (hs : SqP N t) {x y : Nat} (hx : x < N) (hy : y < N) : PermP N (rightL N t x y) :=
  PermP_of hs.pos hs.le (permF_mapL hs.le (fun i hi => PermF.fnd_lt (hs.colP (hs.cl_lt hx hy)) hs.le (hs.cl_lt (hs.cl_lt hi hx) hy)) fun i j hi hj e => by
    have h1 := PermF.fnd_at (hs.colP (hs.cl_lt hx hy)) hs.le (hs.cl_lt (hs.cl_lt hi hx) hy)
    have h2 := PermF.fnd_at (hs.colP (hs.cl_lt hx hy)) hs.le (hs.cl_lt (hs.cl_lt hj hx) hy)
    rw [e, h2] at h1
    exact PermF.inj (hs.colP hx) hs.le hi hj (PermF.inj (hs.colP hy) hs.le (hs.cl_lt hi hx) (hs.cl_lt hj hx) h1.symm))
theorem inIn_all {N : Nat} {t : List Int} (hs : SqP N t) {x : Nat} {Ls : List (List Int)} (hx : x < N) (h : ∀ p ∈ Ls, PermP N p ∧ Bytes 10 p) : ∀ {y}, y ≤ N → ∀ p ∈ inIn N t x Ls y, PermP N p ∧ Bytes 10 p
  | 0, _, p, hp => by
    rcases List.mem_append.1 hp with h1 | h1
    · exact h p h1
    · simp at h1; subst h1
      exact ⟨turnL_perm hs hx, mapL_bytes hs.le fun i hi => by have := PermF.fnd_lt (hs.colP hx) hs.le (hs.cl_lt hx hi); have := hs.le; omega⟩
  | y + 1, hy, p, hp => by
    rcases List.mem_append.1 hp with h1 | h1
    · exact inIn_all hs hx h (show y ≤ N by omega) p h1
    · simp at h1
      rcases h1 with rfl | rfl
      · exact ⟨leftL_perm hs hx (by omega), mapL_bytes hs.le fun i hi => by have := PermF.fnd_lt (hs.rowP (hs.cl_lt (show y < N by omega) hx)) hs.le (hs.cl_lt (show y < N by omega) (hs.cl_lt hx hi)); have := hs.le; omega⟩
      · exact ⟨rightL_perm hs hx (by omega), mapL_bytes hs.le fun i hi => by have := PermF.fnd_lt (hs.colP (hs.cl_lt hx (show y < N by omega))) hs.le (hs.cl_lt (hs.cl_lt hi hx) (show y < N by omega)); have := hs.le; omega⟩
theorem inT_all {N : Nat} {t : List Int} (hs : SqP N t) : ∀ {x}, x ≤ N → ∀ p ∈ inT N t x, PermP N p ∧ Bytes 10 p
  | 0, _, p, hp => by cases hp
  | x + 1, hx, p, hp => inIn_all hs (show x < N by omega) (fun q hq => inT_all hs (show x ≤ N by omega) q hq) (Nat.le_refl N) p hp

end Go.Proofs.Ytoccbgffekhcaaa
