/-
Contracts of functions of the given program, by the abstract walk.
-/
import Derived.Test.YtgblnnodoabdeaaAbsY
import Derived.Test.YtgblnnodoabdeaaTc
namespace Go.Proofs.Ytgblnnodoabdeaa
open Go Go.Abs
set_option linter.unusedVariables false
set_option linter.unusedSectionVars false
set_option linter.unusedSimpArgs false
set_option maxRecDepth 100000
/-! a sum times itself; whether two lists are the same -/
theorem timesS_ok (N : Nat) (t : List Int) (p : Int) (a : List Int) (ht : Bytes 100 t) (hs : SqP N t) (hp : PrP p) (ha : RngP p a) (la : a.length = N) :
    ACalls Try.prog 62 [.agg (sqS N t), .i .i64 p, .ref (.sl 0 0 0 0 N 1), .ref (.sl 0 0 0 0 N 1)] [.lv true [(0, .ints .i64 N a)]]
      (fun v ms ns => v = .ref (.sl 1 0 0 0 N 1) ∧ ms = [.lv true [(0, .ints .i64 N a)]] ∧ ns = [.lv true [(0, .ints .i64 N (tmT N t p a a N))]]) := by
  have hN := hs.le
  have hp2 := hp.le
  have p0 : ¬ p = 0 := by omega
  have hk8 : (N : Int) * 8 ≤ 140737488355328 := by omega
  have m1 : N * 1 = N := Nat.mul_one N
  refine acalls_of_body mix Try.func62 rfl fok62 (Nat.le_of_ble_eq_true rfl) ?_
  unfold abody
  simp only [absE, absL, absF, reduceCtorEq, ↓reduceIte, Nat.reduceEqDiff, Nat.reduceAdd, Nat.reduceLT, Nat.reduceMul, Nat.reduceSub, Nat.reduceLeDiff, Int.reduceLT, Int.reduceLE, Int.reduceEq, Option.isSome_some, implies_true, false_implies, Prod.mk.injEq, ne_eq, not_false_eq_true, not_true_eq_false, ge_iff_le, gt_iff_lt, Int.toNat_natCast, Int.reduceToNat, Int.cast_ofNat_Int, Int.natCast_nonneg, hk8, m1, Try.f62]
  refine awpLoop.intro (fun x : Nat => [(1, .i .i64 p), (3, .ref (.sl 0 0 0 0 N 1)), (4, .ref (.ptr 1 0 0 0)), (9, .ref (.sl 5 0 0 0 N 1)), (18, .ref (.sl 0 0 0 0 N 1)), (19, .i .i64 N), (20, .i .i64 x)]) (fun x => ⟨[.lv true [(0, .ints .i64 N a)]], [((1, 0), .lv true (sqS N t)), ((5, 0), .lv true ([(0, .ints .i64 N (tmT N t p a a x))]))], 10⟩)
    (fun x => x ≤ N) (fun x => N - x) 0 (by omega) ⟨[((1,0),(1,0)), ((5,0),(5,0))], rfl, ?_, ?_⟩ ?_
  · simp [wkEnv, lk, renV, renAt, renTo, tmT, zeroArr]
  · simp [wkMem, wkLoc, Mem.get, assoc, renBlk, renSegs, renSg, renTo, tmT, zeroArr]
  · intro x hx
    by_cases h : (x : Int) < N
    · have w := wrap_i64s (show x < 2 ^ 62 by omega)
      have v1 : 0 + x * 1 < N := by omega
      have e0 : a.getD (0 + x * 1) 0 = a.getD x 0 := by rw [Nat.zero_add, Nat.mul_one]
      by_cases hz : a.getD x 0 = 0
      · first
          | exact False.elim hz
          | (simp only [absE, absL, absF, reduceCtorEq, ↓reduceIte, Nat.reduceEqDiff, Nat.reduceAdd, Nat.reduceLT, Nat.reduceMul, Nat.reduceSub, Nat.reduceLeDiff, Int.reduceLT, Int.reduceLE, Int.reduceEq, Option.isSome_some, implies_true, false_implies, Prod.mk.injEq, ne_eq, not_false_eq_true, not_true_eq_false, ge_iff_le, gt_iff_lt, Int.toNat_natCast, Int.reduceToNat, Int.cast_ofNat_Int, Int.natCast_nonneg, h, v1, e0, hz, w]
             refine LoopNext.intro (x + 1) (by omega) (by omega) ⟨[((1,0),(1,0)), ((5,0),(5,0))], rfl, ?_, ?_⟩
             · simp [wkEnv, lk, renV, renAt, renTo, w]
             · have e := tmIn_skip (t := t) (b := a) hp hz (tmT_rng (N := N) (t := t) hp ha ha (x := x)) (y := N)
               simp only [tmT, e]; simp [wkMem, wkLoc, Mem.get, assoc, renBlk, renSegs, renSg, renTo])
      · simp only [absE, absL, absF, reduceCtorEq, ↓reduceIte, Nat.reduceEqDiff, Nat.reduceAdd, Nat.reduceLT, Nat.reduceMul, Nat.reduceSub, Nat.reduceLeDiff, Int.reduceLT, Int.reduceLE, Int.reduceEq, Option.isSome_some, implies_true, false_implies, Prod.mk.injEq, ne_eq, not_false_eq_true, not_true_eq_false, ge_iff_le, gt_iff_lt, Int.toNat_natCast, Int.reduceToNat, Int.cast_ofNat_Int, Int.natCast_nonneg, h, v1, e0, hz]
        refine awpLoop.intro (fun y : Nat => [(1, .i .i64 p), (3, .ref (.sl 0 0 0 0 N 1)), (4, .ref (.ptr 1 0 0 0)), (9, .ref (.sl 5 0 0 0 N 1)), (18, .ref (.sl 0 0 0 0 N 1)), (19, .i .i64 N), (20, .i .i64 x), (10, .i .i64 x), (11, .i .i64 (a.getD x 0)), (27, .ref (.sl 0 0 0 0 N 1)), (28, .i .i64 N), (29, .i .i64 y)]) (fun y => ⟨[.lv true [(0, .ints .i64 N a)]], [((1, 0), .lv true (sqS N t)), ((5, 0), .lv true ([(0, .ints .i64 N (tmIn t p a a x (tmT N t p a a x) y))]))], 21⟩)
          (fun y => y ≤ N) (fun y => N - y) 0 (by omega) ⟨[((1,0),(1,0)), ((5,0),(5,0))], rfl, ?_, ?_⟩ ?_
        · simp [wkEnv, lk, renV, renAt, renTo, tmIn]
        · simp [wkMem, wkLoc, Mem.get, assoc, renBlk, renSegs, renSg, renTo, tmIn]
        · intro y hy
          by_cases h' : (y : Int) < N
          · have w' := wrap_i64s (show y < 2 ^ 62 by omega)
            have v2 : 0 + y * 1 < N := by omega
            have e1 : a.getD (0 + y * 1) 0 = a.getD y 0 := by rw [Nat.zero_add, Nat.mul_one]
            have jz := hs.cl_lt (show x < N by omega) (show y < N by omega)
            have i1 : (x : Int) < 10 := by omega
            have i2 : (y : Int) < 10 := by omega
            have i3 : (cl t x y : Int) < N := by omega
            have u1 : 0 + x * 10 + y * 1 < 100 := by omega
            have u2 : 0 + cl t x y * 1 < N := by omega
            have u3 : 0 + cl t x y * 1 + 1 ≤ N := by omega
            have k1 := sq_colget ht x y
            have hr := tmIn_rng (t := t) (x := x) hp ha ha (tmT_rng (N := N) (t := t) hp ha ha (x := x)) (y := y)
            have hl : (tmIn t p a a x (tmT N t p a a x) y).length = N := by rw [tmIn_len, tmT_len]
            have c0 := hr (cl t x y)
            have m0 := prod_le hp (ha x) (ha y)
            have e2 : (tmIn t p a a x (tmT N t p a a x) y).getD (0 + cl t x y * 1) 0 = (tmIn t p a a x (tmT N t p a a x) y).getD (cl t x y) 0 := by rw [Nat.zero_add, Nat.mul_one]
            have wm : IntKind.i64.wrap (a.getD x 0 * a.getD y 0) = a.getD x 0 * a.getD y 0 := wrap_i64 (by omega) (by omega)
            have wa : IntKind.i64.wrap ((tmIn t p a a x (tmT N t p a a x) y).getD (cl t x y) 0 + a.getD x 0 * a.getD y 0) = (tmIn t p a a x (tmT N t p a a x) y).getD (cl t x y) 0 + a.getD x 0 * a.getD y 0 := wrap_i64 (by omega) (by omega)
            have e3 : (tmIn t p a a x (tmT N t p a a x) y).set (0 + cl t x y * 1) (((tmIn t p a a x (tmT N t p a a x) y).getD (cl t x y) 0 + a.getD x 0 * a.getD y 0).tmod p) = tmIn t p a a x (tmT N t p a a x) (y + 1) := by rw [Nat.zero_add, Nat.mul_one]; rfl
            by_cases h1 : 1 = N
            · have e4 : [((tmIn t p a a x (tmT N t p a a x) y).getD (cl t x y) 0 + a.getD x 0 * a.getD y 0).tmod p] = tmIn t p a a x (tmT N t p a a x) (y + 1) := set_one (by omega) (by omega)
              have h1t : (1 = N) = True := eq_true h1
              simp only [absE, absL, absF, reduceCtorEq, ↓reduceIte, Nat.reduceEqDiff, Nat.reduceAdd, Nat.reduceLT, Nat.reduceMul, Nat.reduceSub, Nat.reduceLeDiff, Int.reduceLT, Int.reduceLE, Int.reduceEq, Option.isSome_some, implies_true, false_implies, Prod.mk.injEq, ne_eq, not_false_eq_true, not_true_eq_false, ge_iff_le, gt_iff_lt, Int.toNat_natCast, Int.reduceToNat, Int.cast_ofNat_Int, Int.natCast_nonneg, h', v1, v2, e0, e1, i1, i2, i3, u1, u2, u3, k1, e2, wm, wa, p0, h1t, e4]
              repeat refine And.intro (by first | omega | decide +kernel) ?_
              refine LoopNext.intro (y + 1) (by omega) (by omega) ⟨[((1,0),(1,0)), ((5,0),(5,0))], rfl, ?_, ?_⟩
              · simp [wkEnv, lk, renV, renAt, renTo, w']
              · simp [wkMem, wkLoc, Mem.get, assoc, renBlk, renSegs, renSg, renTo, w']
            · simp only [absE, absL, absF, reduceCtorEq, ↓reduceIte, Nat.reduceEqDiff, Nat.reduceAdd, Nat.reduceLT, Nat.reduceMul, Nat.reduceSub, Nat.reduceLeDiff, Int.reduceLT, Int.reduceLE, Int.reduceEq, Option.isSome_some, implies_true, false_implies, Prod.mk.injEq, ne_eq, not_false_eq_true, not_true_eq_false, ge_iff_le, gt_iff_lt, Int.toNat_natCast, Int.reduceToNat, Int.cast_ofNat_Int, Int.natCast_nonneg, h', v1, v2, e0, e1, i1, i2, i3, u1, u2, u3, k1, e2, wm, wa, p0, h1, e3]
              repeat refine And.intro (by first | omega | decide +kernel) ?_
              refine LoopNext.intro (y + 1) (by omega) (by omega) ⟨[((1,0),(1,0)), ((5,0),(5,0))], rfl, ?_, ?_⟩
              · simp [wkEnv, lk, renV, renAt, renTo, w']
              · simp [wkMem, wkLoc, Mem.get, assoc, renBlk, renSegs, renSg, renTo, w']
          · have hyN : y = N := by omega
            subst hyN
            simp only [absE, absL, absF, reduceCtorEq, ↓reduceIte, Nat.reduceEqDiff, Nat.reduceAdd, Nat.reduceLT, Nat.reduceMul, Nat.reduceSub, Nat.reduceLeDiff, Int.reduceLT, Int.reduceLE, Int.reduceEq, Option.isSome_some, implies_true, false_implies, Prod.mk.injEq, ne_eq, not_false_eq_true, not_true_eq_false, ge_iff_le, gt_iff_lt, Int.toNat_natCast, Int.reduceToNat, Int.cast_ofNat_Int, Int.natCast_nonneg, h', w]
            refine LoopNext.intro (x + 1) (by omega) (by omega) ⟨[((1,0),(1,0)), ((5,0),(5,0))], rfl, ?_, ?_⟩
            · simp [wkEnv, lk, renV, renAt, renTo, tmT]
            · simp [wkMem, wkLoc, Mem.get, assoc, renBlk, renSegs, renSg, renTo, tmT]
    · have hxN : x = N := by omega
      subst hxN
      simp only [absE, absL, absF, reduceCtorEq, ↓reduceIte, Nat.reduceEqDiff, Nat.reduceAdd, Nat.reduceLT, Nat.reduceMul, Nat.reduceSub, Nat.reduceLeDiff, Int.reduceLT, Int.reduceLE, Int.reduceEq, Option.isSome_some, implies_true, false_implies, Prod.mk.injEq, ne_eq, not_false_eq_true, not_true_eq_false, ge_iff_le, gt_iff_lt, Int.toNat_natCast, Int.reduceToNat, Int.cast_ofNat_Int, Int.natCast_nonneg, h, Try.results62]
      exact ⟨[(5, 0)], by simp, by simp, by simp [renV, renAt, renFin, idx], by simp [renBlk, renSegs, renSg], by simp [renBlk, renSegs, renSg, Mem.get, assoc]⟩
theorem l10TimesS_ok (N : Nat) (t : List Int) (p : Int) (a : List Int) (ht : Bytes 100 t) (hs : SqP N t) (hp : PrP p) (ha : RngP p a) (la : a.length = N) :
    ACalls Try.prog 55 [.agg (sqS N t), .i .i64 p, .ref (.sl 0 0 0 0 N 1), .ref (.sl 0 0 0 0 N 1)] [.lv true [(0, .ints .i64 N a)]]
      (fun v ms ns => v = .ref (.sl 1 0 0 0 N 1) ∧ ms = [.lv true [(0, .ints .i64 N a)]] ∧ ns = [.lv true [(0, .ints .i64 N (tmT N t p a a N))]]) := by
  have hN := hs.le
  have hp2 := hp.le
  have p0 : ¬ p = 0 := by omega
  have hk8 : (N : Int) * 8 ≤ 140737488355328 := by omega
  have m1 : N * 1 = N := Nat.mul_one N
  refine acalls_of_body mix Try.func55 rfl fok55 (Nat.le_of_ble_eq_true rfl) ?_
  unfold abody
  simp only [absE, absL, absF, reduceCtorEq, ↓reduceIte, Nat.reduceEqDiff, Nat.reduceAdd, Nat.reduceLT, Nat.reduceMul, Nat.reduceSub, Nat.reduceLeDiff, Int.reduceLT, Int.reduceLE, Int.reduceEq, Option.isSome_some, implies_true, false_implies, Prod.mk.injEq, ne_eq, not_false_eq_true, not_true_eq_false, ge_iff_le, gt_iff_lt, Int.toNat_natCast, Int.reduceToNat, Int.cast_ofNat_Int, Int.natCast_nonneg, hk8, m1, Try.f55]
  refine awpLoop.intro (fun x : Nat => [(1, .i .i64 p), (2, .ref (.sl 0 0 0 0 N 1)), (3, .ref (.sl 0 0 0 0 N 1)), (4, .ref (.ptr 1 0 0 0)), (9, .ref (.sl 5 0 0 0 N 1)), (10, .i .i64 x)]) (fun x => ⟨[.lv true [(0, .ints .i64 N a)]], [((1, 0), .lv true (sqS N t)), ((5, 0), .lv true ([(0, .ints .i64 N (tmT N t p a a x))]))], 8⟩)
    (fun x => x ≤ N) (fun x => N - x) 0 (by omega) ⟨[((1,0),(1,0)), ((5,0),(5,0))], rfl, ?_, ?_⟩ ?_
  · simp [wkEnv, lk, renV, renAt, renTo, tmT, zeroArr]
  · simp [wkMem, wkLoc, Mem.get, assoc, renBlk, renSegs, renSg, renTo, tmT, zeroArr]
  · intro x hx
    by_cases h : (x : Int) < N
    · have w := wrap_i64s (show x < 2 ^ 62 by omega)
      have v1 : 0 + x * 1 < N := by omega
      have e0 : a.getD (0 + x * 1) 0 = a.getD x 0 := by rw [Nat.zero_add, Nat.mul_one]
      by_cases hz : False
      · first
          | exact False.elim hz
          | (simp only [absE, absL, absF, reduceCtorEq, ↓reduceIte, Nat.reduceEqDiff, Nat.reduceAdd, Nat.reduceLT, Nat.reduceMul, Nat.reduceSub, Nat.reduceLeDiff, Int.reduceLT, Int.reduceLE, Int.reduceEq, Option.isSome_some, implies_true, false_implies, Prod.mk.injEq, ne_eq, not_false_eq_true, not_true_eq_false, ge_iff_le, gt_iff_lt, Int.toNat_natCast, Int.reduceToNat, Int.cast_ofNat_Int, Int.natCast_nonneg, h, v1, e0, hz, w]
             refine LoopNext.intro (x + 1) (by omega) (by omega) ⟨[((1,0),(1,0)), ((5,0),(5,0))], rfl, ?_, ?_⟩
             · simp [wkEnv, lk, renV, renAt, renTo, w]
             · have e := tmIn_skip (t := t) (b := a) hp hz (tmT_rng (N := N) (t := t) hp ha ha (x := x)) (y := N)
               simp only [tmT, e]; simp [wkMem, wkLoc, Mem.get, assoc, renBlk, renSegs, renSg, renTo])
      · simp only [absE, absL, absF, reduceCtorEq, ↓reduceIte, Nat.reduceEqDiff, Nat.reduceAdd, Nat.reduceLT, Nat.reduceMul, Nat.reduceSub, Nat.reduceLeDiff, Int.reduceLT, Int.reduceLE, Int.reduceEq, Option.isSome_some, implies_true, false_implies, Prod.mk.injEq, ne_eq, not_false_eq_true, not_true_eq_false, ge_iff_le, gt_iff_lt, Int.toNat_natCast, Int.reduceToNat, Int.cast_ofNat_Int, Int.natCast_nonneg, h, v1, e0, hz]
        refine awpLoop.intro (fun y : Nat => [(1, .i .i64 p), (2, .ref (.sl 0 0 0 0 N 1)), (3, .ref (.sl 0 0 0 0 N 1)), (4, .ref (.ptr 1 0 0 0)), (9, .ref (.sl 5 0 0 0 N 1)), (10, .i .i64 x), (11, .i .i64 y)]) (fun y => ⟨[.lv true [(0, .ints .i64 N a)]], [((1, 0), .lv true (sqS N t)), ((5, 0), .lv true ([(0, .ints .i64 N (tmIn t p a a x (tmT N t p a a x) y))]))], 13⟩)
          (fun y => y ≤ N) (fun y => N - y) 0 (by omega) ⟨[((1,0),(1,0)), ((5,0),(5,0))], rfl, ?_, ?_⟩ ?_
        · simp [wkEnv, lk, renV, renAt, renTo, tmIn]
        · simp [wkMem, wkLoc, Mem.get, assoc, renBlk, renSegs, renSg, renTo, tmIn]
        · intro y hy
          by_cases h' : (y : Int) < N
          · have w' := wrap_i64s (show y < 2 ^ 62 by omega)
            have v2 : 0 + y * 1 < N := by omega
            have e1 : a.getD (0 + y * 1) 0 = a.getD y 0 := by rw [Nat.zero_add, Nat.mul_one]
            have jz := hs.cl_lt (show x < N by omega) (show y < N by omega)
            have i1 : (x : Int) < 10 := by omega
            have i2 : (y : Int) < 10 := by omega
            have i3 : (cl t x y : Int) < N := by omega
            have u1 : 0 + x * 10 + y * 1 < 100 := by omega
            have u2 : 0 + cl t x y * 1 < N := by omega
            have u3 : 0 + cl t x y * 1 + 1 ≤ N := by omega
            have k1 := sq_colget ht x y
            have hr := tmIn_rng (t := t) (x := x) hp ha ha (tmT_rng (N := N) (t := t) hp ha ha (x := x)) (y := y)
            have hl : (tmIn t p a a x (tmT N t p a a x) y).length = N := by rw [tmIn_len, tmT_len]
            have c0 := hr (cl t x y)
            have m0 := prod_le hp (ha x) (ha y)
            have e2 : (tmIn t p a a x (tmT N t p a a x) y).getD (0 + cl t x y * 1) 0 = (tmIn t p a a x (tmT N t p a a x) y).getD (cl t x y) 0 := by rw [Nat.zero_add, Nat.mul_one]
            have wm : IntKind.i64.wrap (a.getD x 0 * a.getD y 0) = a.getD x 0 * a.getD y 0 := wrap_i64 (by omega) (by omega)
            have wa : IntKind.i64.wrap ((tmIn t p a a x (tmT N t p a a x) y).getD (cl t x y) 0 + a.getD x 0 * a.getD y 0) = (tmIn t p a a x (tmT N t p a a x) y).getD (cl t x y) 0 + a.getD x 0 * a.getD y 0 := wrap_i64 (by omega) (by omega)
            have e3 : (tmIn t p a a x (tmT N t p a a x) y).set (0 + cl t x y * 1) (((tmIn t p a a x (tmT N t p a a x) y).getD (cl t x y) 0 + a.getD x 0 * a.getD y 0).tmod p) = tmIn t p a a x (tmT N t p a a x) (y + 1) := by rw [Nat.zero_add, Nat.mul_one]; rfl
            by_cases h1 : 1 = N
            · have e4 : [((tmIn t p a a x (tmT N t p a a x) y).getD (cl t x y) 0 + a.getD x 0 * a.getD y 0).tmod p] = tmIn t p a a x (tmT N t p a a x) (y + 1) := set_one (by omega) (by omega)
              have h1t : (1 = N) = True := eq_true h1
              simp only [absE, absL, absF, reduceCtorEq, ↓reduceIte, Nat.reduceEqDiff, Nat.reduceAdd, Nat.reduceLT, Nat.reduceMul, Nat.reduceSub, Nat.reduceLeDiff, Int.reduceLT, Int.reduceLE, Int.reduceEq, Option.isSome_some, implies_true, false_implies, Prod.mk.injEq, ne_eq, not_false_eq_true, not_true_eq_false, ge_iff_le, gt_iff_lt, Int.toNat_natCast, Int.reduceToNat, Int.cast_ofNat_Int, Int.natCast_nonneg, h', v1, v2, e0, e1, i1, i2, i3, u1, u2, u3, k1, e2, wm, wa, p0, h1t, e4]
              repeat refine And.intro (by first | omega | decide +kernel) ?_
              refine LoopNext.intro (y + 1) (by omega) (by omega) ⟨[((1,0),(1,0)), ((5,0),(5,0))], rfl, ?_, ?_⟩
              · simp [wkEnv, lk, renV, renAt, renTo, w']
              · simp [wkMem, wkLoc, Mem.get, assoc, renBlk, renSegs, renSg, renTo, w']
            · simp only [absE, absL, absF, reduceCtorEq, ↓reduceIte, Nat.reduceEqDiff, Nat.reduceAdd, Nat.reduceLT, Nat.reduceMul, Nat.reduceSub, Nat.reduceLeDiff, Int.reduceLT, Int.reduceLE, Int.reduceEq, Option.isSome_some, implies_true, false_implies, Prod.mk.injEq, ne_eq, not_false_eq_true, not_true_eq_false, ge_iff_le, gt_iff_lt, Int.toNat_natCast, Int.reduceToNat, Int.cast_ofNat_Int, Int.natCast_nonneg, h', v1, v2, e0, e1, i1, i2, i3, u1, u2, u3, k1, e2, wm, wa, p0, h1, e3]
              repeat refine And.intro (by first | omega | decide +kernel) ?_
              refine LoopNext.intro (y + 1) (by omega) (by omega) ⟨[((1,0),(1,0)), ((5,0),(5,0))], rfl, ?_, ?_⟩
              · simp [wkEnv, lk, renV, renAt, renTo, w']
              · simp [wkMem, wkLoc, Mem.get, assoc, renBlk, renSegs, renSg, renTo, w']
          · have hyN : y = N := by omega
            subst hyN
            simp only [absE, absL, absF, reduceCtorEq, ↓reduceIte, Nat.reduceEqDiff, Nat.reduceAdd, Nat.reduceLT, Nat.reduceMul, Nat.reduceSub, Nat.reduceLeDiff, Int.reduceLT, Int.reduceLE, Int.reduceEq, Option.isSome_some, implies_true, false_implies, Prod.mk.injEq, ne_eq, not_false_eq_true, not_true_eq_false, ge_iff_le, gt_iff_lt, Int.toNat_natCast, Int.reduceToNat, Int.cast_ofNat_Int, Int.natCast_nonneg, h', w]
            refine LoopNext.intro (x + 1) (by omega) (by omega) ⟨[((1,0),(1,0)), ((5,0),(5,0))], rfl, ?_, ?_⟩
            · simp [wkEnv, lk, renV, renAt, renTo, tmT]
            · simp [wkMem, wkLoc, Mem.get, assoc, renBlk, renSegs, renSg, renTo, tmT]
    · have hxN : x = N := by omega
      subst hxN
      simp only [absE, absL, absF, reduceCtorEq, ↓reduceIte, Nat.reduceEqDiff, Nat.reduceAdd, Nat.reduceLT, Nat.reduceMul, Nat.reduceSub, Nat.reduceLeDiff, Int.reduceLT, Int.reduceLE, Int.reduceEq, Option.isSome_some, implies_true, false_implies, Prod.mk.injEq, ne_eq, not_false_eq_true, not_true_eq_false, ge_iff_le, gt_iff_lt, Int.toNat_natCast, Int.reduceToNat, Int.cast_ofNat_Int, Int.natCast_nonneg, h, Try.results55]
      exact ⟨[(5, 0)], by simp, by simp, by simp [renV, renAt, renFin, idx], by simp [renBlk, renSegs, renSg], by simp [renBlk, renSegs, renSg, Mem.get, assoc]⟩
theorem sameL_ok (A B : List Int) (ha : A.length < 2 ^ 40) (hb : B.length < 2 ^ 40) :
    ACalls Try.prog 54 [.ref (.sl 0 0 0 0 A.length 1), .ref (.sl 0 1 0 0 B.length 1)] [.lv true [(0, .ints .i64 A.length A)], .lv true [(0, .ints .i64 B.length B)]] (fun v ms ns => v = .b (decide (A = B)) ∧ ms = [.lv true [(0, .ints .i64 A.length A)], .lv true [(0, .ints .i64 B.length B)]] ∧ ns = []) := by
  refine acalls_of_body mix Try.func54 rfl fok54 (Nat.le_of_ble_eq_true rfl) ?_
  unfold abody
  simp only [absE, absL, absF, reduceCtorEq, ↓reduceIte, Nat.reduceEqDiff, Nat.reduceAdd, Nat.reduceLT, Nat.reduceMul, Nat.reduceSub, Nat.reduceLeDiff, Int.reduceLT, Int.reduceLE, Int.reduceEq, Option.isSome_some, implies_true, false_implies, Prod.mk.injEq, ne_eq, not_false_eq_true, not_true_eq_false, ge_iff_le, gt_iff_lt, Int.toNat_natCast, Int.reduceToNat, Int.cast_ofNat_Int, Int.natCast_nonneg, Try.f54]
  by_cases hl : A.length = B.length
  · have hl' : ((A.length : Nat) : Int) = (B.length : Nat) := by omega
    simp only [absE, absL, absF, reduceCtorEq, ↓reduceIte, Nat.reduceEqDiff, Nat.reduceAdd, Nat.reduceLT, Nat.reduceMul, Nat.reduceSub, Nat.reduceLeDiff, Int.reduceLT, Int.reduceLE, Int.reduceEq, Option.isSome_some, implies_true, false_implies, Prod.mk.injEq, ne_eq, not_false_eq_true, not_true_eq_false, ge_iff_le, gt_iff_lt, Int.toNat_natCast, Int.reduceToNat, Int.cast_ofNat_Int, Int.natCast_nonneg, hl']
    refine awpLoop.intro (fun i : Nat => [(0, .ref (.sl 0 0 0 0 A.length 1)), (1, .ref (.sl 0 1 0 0 B.length 1)), (5, .i .i64 i)]) (fun i => ⟨[.lv true [(0, .ints .i64 A.length A)], .lv true [(0, .ints .i64 B.length B)]], [], 8⟩)
      (fun i => i ≤ A.length ∧ ∀ j, j < i → A.getD j 0 = B.getD j 0) (fun i => A.length - i) 0 ⟨by omega, fun j hj => absurd hj (by omega)⟩ ⟨[], rfl, ?_, ?_⟩ ?_
    · simp [wkEnv, lk, renV, renAt, renTo]
    · simp [wkMem, wkLoc, Mem.get, assoc, renBlk, renSegs, renSg, renTo]
    · rintro i ⟨hi, hp⟩
      by_cases h : (i : Int) < A.length
      · have w := wrap_i64s (show i < 2 ^ 62 by omega)
        have v1 : 0 + i * 1 < A.length := by omega
        have v2 : 0 + i * 1 < B.length := by omega
        have h2 : (i : Int) < B.length := by omega
        have e1 : A.getD (0 + i * 1) 0 = A.getD i 0 := by rw [Nat.zero_add, Nat.mul_one]
        have e2 : B.getD (0 + i * 1) 0 = B.getD i 0 := by rw [Nat.zero_add, Nat.mul_one]
        by_cases e : A.getD i 0 = B.getD i 0
        · simp only [absE, absL, absF, reduceCtorEq, ↓reduceIte, Nat.reduceEqDiff, Nat.reduceAdd, Nat.reduceLT, Nat.reduceMul, Nat.reduceSub, Nat.reduceLeDiff, Int.reduceLT, Int.reduceLE, Int.reduceEq, Option.isSome_some, implies_true, false_implies, Prod.mk.injEq, ne_eq, not_false_eq_true, not_true_eq_false, ge_iff_le, gt_iff_lt, Int.toNat_natCast, Int.reduceToNat, Int.cast_ofNat_Int, Int.natCast_nonneg, h, h2, v1, v2, e1, e2, e]
          repeat first | refine And.intro (by decide +kernel) ?_ | refine And.intro (by omega) ?_
          refine LoopNext.intro (i + 1) ⟨by omega, fun j hj => ?_⟩ (by omega) ⟨[], rfl, ?_, ?_⟩
          · by_cases ej : j = i
            · subst ej; exact e
            · exact hp j (by omega)
          · simp [wkEnv, lk, renV, renAt, renTo, w]
          · simp [wkMem, wkLoc, Mem.get, assoc, renBlk, renSegs, renSg, renTo, w]
        · simp only [absE, absL, absF, reduceCtorEq, ↓reduceIte, Nat.reduceEqDiff, Nat.reduceAdd, Nat.reduceLT, Nat.reduceMul, Nat.reduceSub, Nat.reduceLeDiff, Int.reduceLT, Int.reduceLE, Int.reduceEq, Option.isSome_some, implies_true, false_implies, Prod.mk.injEq, ne_eq, not_false_eq_true, not_true_eq_false, ge_iff_le, gt_iff_lt, Int.toNat_natCast, Int.reduceToNat, Int.cast_ofNat_Int, Int.natCast_nonneg, h, h2, v1, v2, e1, e2, e, Try.results54]
          repeat first | refine And.intro (by decide +kernel) ?_ | refine And.intro (by omega) ?_
          have hf : ¬ A = B := fun hh => e (by rw [hh])
          exact ⟨[], by simp, by simp, by simp [renV, renBlk, renSegs, renSg, hf]⟩
      · have hf : A = B := ext_getD hl fun j hj => hp j (by omega)
        simp only [absE, absL, absF, reduceCtorEq, ↓reduceIte, Nat.reduceEqDiff, Nat.reduceAdd, Nat.reduceLT, Nat.reduceMul, Nat.reduceSub, Nat.reduceLeDiff, Int.reduceLT, Int.reduceLE, Int.reduceEq, Option.isSome_some, implies_true, false_implies, Prod.mk.injEq, ne_eq, not_false_eq_true, not_true_eq_false, ge_iff_le, gt_iff_lt, Int.toNat_natCast, Int.reduceToNat, Int.cast_ofNat_Int, Int.natCast_nonneg, h, Try.results54]
        exact ⟨[], by simp, by simp, by simp [renV, renBlk, renSegs, renSg, hf]⟩
  · have hl' : ¬((A.length : Nat) : Int) = (B.length : Nat) := by omega
    have hf : ¬ A = B := fun hh => hl (by rw [hh])
    simp only [absE, absL, absF, reduceCtorEq, ↓reduceIte, Nat.reduceEqDiff, Nat.reduceAdd, Nat.reduceLT, Nat.reduceMul, Nat.reduceSub, Nat.reduceLeDiff, Int.reduceLT, Int.reduceLE, Int.reduceEq, Option.isSome_some, implies_true, false_implies, Prod.mk.injEq, ne_eq, not_false_eq_true, not_true_eq_false, ge_iff_le, gt_iff_lt, Int.toNat_natCast, Int.reduceToNat, Int.cast_ofNat_Int, Int.natCast_nonneg, hl', Try.results54]
    exact ⟨[], by simp, by simp, by simp [renV, renBlk, renSegs, renSg, hf]⟩
theorem equalL_ok (A B : List Int) (ha : A.length < 2 ^ 40) (hb : B.length < 2 ^ 40) :
    ACalls Try.prog 61 [.ref (.sl 0 0 0 0 A.length 1), .ref (.sl 0 1 0 0 B.length 1)] [.lv true [(0, .ints .i64 A.length A)], .lv true [(0, .ints .i64 B.length B)]] (fun v ms ns => v = .b (decide (A = B)) ∧ ms = [.lv true [(0, .ints .i64 A.length A)], .lv true [(0, .ints .i64 B.length B)]] ∧ ns = []) := by
  refine acalls_of_body mix Try.func61 rfl fok61 (Nat.le_of_ble_eq_true rfl) ?_
  unfold abody
  simp only [absE, absL, absF, reduceCtorEq, ↓reduceIte, Nat.reduceEqDiff, Nat.reduceAdd, Nat.reduceLT, Nat.reduceMul, Nat.reduceSub, Nat.reduceLeDiff, Int.reduceLT, Int.reduceLE, Int.reduceEq, Option.isSome_some, implies_true, false_implies, Prod.mk.injEq, ne_eq, not_false_eq_true, not_true_eq_false, ge_iff_le, gt_iff_lt, Int.toNat_natCast, Int.reduceToNat, Int.cast_ofNat_Int, Int.natCast_nonneg, Try.f61]
  by_cases hl : A.length = B.length
  · have hl' : ((A.length : Nat) : Int) = (B.length : Nat) := by omega
    simp only [absE, absL, absF, reduceCtorEq, ↓reduceIte, Nat.reduceEqDiff, Nat.reduceAdd, Nat.reduceLT, Nat.reduceMul, Nat.reduceSub, Nat.reduceLeDiff, Int.reduceLT, Int.reduceLE, Int.reduceEq, Option.isSome_some, implies_true, false_implies, Prod.mk.injEq, ne_eq, not_false_eq_true, not_true_eq_false, ge_iff_le, gt_iff_lt, Int.toNat_natCast, Int.reduceToNat, Int.cast_ofNat_Int, Int.natCast_nonneg, hl']
    refine awpLoop.intro (fun i : Nat => [(0, .ref (.sl 0 0 0 0 A.length 1)), (1, .ref (.sl 0 1 0 0 B.length 1)), (11, .ref (.sl 0 0 0 0 A.length 1)), (12, .i .i64 A.length), (13, .i .i64 i)]) (fun i => ⟨[.lv true [(0, .ints .i64 A.length A)], .lv true [(0, .ints .i64 B.length B)]], [], 8⟩)
      (fun i => i ≤ A.length ∧ ∀ j, j < i → A.getD j 0 = B.getD j 0) (fun i => A.length - i) 0 ⟨by omega, fun j hj => absurd hj (by omega)⟩ ⟨[], rfl, ?_, ?_⟩ ?_
    · simp [wkEnv, lk, renV, renAt, renTo, hl]
    · simp [wkMem, wkLoc, Mem.get, assoc, renBlk, renSegs, renSg, renTo, hl]
    · rintro i ⟨hi, hp⟩
      by_cases h : (i : Int) < A.length
      · have w := wrap_i64s (show i < 2 ^ 62 by omega)
        have v1 : 0 + i * 1 < A.length := by omega
        have v2 : 0 + i * 1 < B.length := by omega
        have h2 : (i : Int) < B.length := by omega
        have e1 : A.getD (0 + i * 1) 0 = A.getD i 0 := by rw [Nat.zero_add, Nat.mul_one]
        have e2 : B.getD (0 + i * 1) 0 = B.getD i 0 := by rw [Nat.zero_add, Nat.mul_one]
        by_cases e : A.getD i 0 = B.getD i 0
        · simp only [absE, absL, absF, reduceCtorEq, ↓reduceIte, Nat.reduceEqDiff, Nat.reduceAdd, Nat.reduceLT, Nat.reduceMul, Nat.reduceSub, Nat.reduceLeDiff, Int.reduceLT, Int.reduceLE, Int.reduceEq, Option.isSome_some, implies_true, false_implies, Prod.mk.injEq, ne_eq, not_false_eq_true, not_true_eq_false, ge_iff_le, gt_iff_lt, Int.toNat_natCast, Int.reduceToNat, Int.cast_ofNat_Int, Int.natCast_nonneg, h, h2, v1, v2, e1, e2, e]
          repeat first | refine And.intro (by decide +kernel) ?_ | refine And.intro (by omega) ?_
          refine LoopNext.intro (i + 1) ⟨by omega, fun j hj => ?_⟩ (by omega) ⟨[], rfl, ?_, ?_⟩
          · by_cases ej : j = i
            · subst ej; exact e
            · exact hp j (by omega)
          · simp [wkEnv, lk, renV, renAt, renTo, w]
          · simp [wkMem, wkLoc, Mem.get, assoc, renBlk, renSegs, renSg, renTo, w]
        · simp only [absE, absL, absF, reduceCtorEq, ↓reduceIte, Nat.reduceEqDiff, Nat.reduceAdd, Nat.reduceLT, Nat.reduceMul, Nat.reduceSub, Nat.reduceLeDiff, Int.reduceLT, Int.reduceLE, Int.reduceEq, Option.isSome_some, implies_true, false_implies, Prod.mk.injEq, ne_eq, not_false_eq_true, not_true_eq_false, ge_iff_le, gt_iff_lt, Int.toNat_natCast, Int.reduceToNat, Int.cast_ofNat_Int, Int.natCast_nonneg, h, h2, v1, v2, e1, e2, e, Try.results61]
          repeat first | refine And.intro (by decide +kernel) ?_ | refine And.intro (by omega) ?_
          have hf : ¬ A = B := fun hh => e (by rw [hh])
          exact ⟨[], by simp, by simp, by simp [renV, renBlk, renSegs, renSg, hf]⟩
      · have hf : A = B := ext_getD hl fun j hj => hp j (by omega)
        simp only [absE, absL, absF, reduceCtorEq, ↓reduceIte, Nat.reduceEqDiff, Nat.reduceAdd, Nat.reduceLT, Nat.reduceMul, Nat.reduceSub, Nat.reduceLeDiff, Int.reduceLT, Int.reduceLE, Int.reduceEq, Option.isSome_some, implies_true, false_implies, Prod.mk.injEq, ne_eq, not_false_eq_true, not_true_eq_false, ge_iff_le, gt_iff_lt, Int.toNat_natCast, Int.reduceToNat, Int.cast_ofNat_Int, Int.natCast_nonneg, h, Try.results61]
        exact ⟨[], by simp, by simp, by simp [renV, renBlk, renSegs, renSg, hf]⟩
  · have hl' : ¬((A.length : Nat) : Int) = (B.length : Nat) := by omega
    have hf : ¬ A = B := fun hh => hl (by rw [hh])
    simp only [absE, absL, absF, reduceCtorEq, ↓reduceIte, Nat.reduceEqDiff, Nat.reduceAdd, Nat.reduceLT, Nat.reduceMul, Nat.reduceSub, Nat.reduceLeDiff, Int.reduceLT, Int.reduceLE, Int.reduceEq, Option.isSome_some, implies_true, false_implies, Prod.mk.injEq, ne_eq, not_false_eq_true, not_true_eq_false, ge_iff_le, gt_iff_lt, Int.toNat_natCast, Int.reduceToNat, Int.cast_ofNat_Int, Int.natCast_nonneg, hl', Try.results61]
    exact ⟨[], by simp, by simp, by simp [renV, renBlk, renSegs, renSg, hf]⟩

end Go.Proofs.Ytgblnnodoabdeaa
