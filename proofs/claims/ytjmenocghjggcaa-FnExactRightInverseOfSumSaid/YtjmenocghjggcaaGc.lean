/-
Contracts of functions of the given program, by the abstract walk.
-/
import Derived.Test.YtjmenocghjggcaaAbsY
import Derived.Test.YtjmenocghjggcaaGb
namespace Go.Proofs.Ytjmenocghjggcaa
open Go Go.Abs
set_option linter.unusedVariables false
set_option linter.unusedSectionVars false
set_option linter.unusedSimpArgs false
set_option maxRecDepth 100000
/-! products of sums -/
def tmAt (t : List Int) (p : Int) (a b : List Int) (x : Nat) (o : List Int) (y : Nat) : List Int := o.set (cl t x y) ((o.getD (cl t x y) 0 + a.getD x 0 * b.getD y 0).tmod p)
def tmIn (t : List Int) (p : Int) (a b : List Int) (x : Nat) (o : List Int) : Nat → List Int
  | 0 => o
  | y + 1 => tmAt t p a b x (tmIn t p a b x o y) y
def tmT (N : Nat) (t : List Int) (p : Int) (a b : List Int) : Nat → List Int
  | 0 => List.replicate N 0
  | x + 1 => tmIn t p a b x (tmT N t p a b x) N
def RngP (p : Int) (xs : List Int) : Prop := ∀ i, 0 ≤ xs.getD i 0 ∧ xs.getD i 0 ≤ p - 1
theorem tmIn_len {t : List Int} {p : Int} {a b : List Int} {x : Nat} {o : List Int} : ∀ {y}, (tmIn t p a b x o y).length = o.length
  | 0 => rfl
  | y + 1 => by rw [tmIn, tmAt, List.length_set, tmIn_len]
theorem tmT_len {N : Nat} {t : List Int} {p : Int} {a b : List Int} : ∀ {x}, (tmT N t p a b x).length = N
  | 0 => by simp [tmT]
  | x + 1 => by rw [tmT, tmIn_len]; exact tmT_len
theorem RngP.of {p : Int} {N : Nat} {xs : List Int} {k : Nat} (hp : PrP p) (h : SumP p N xs k) (hx : xs.length = k) : RngP p xs := fun i => by
  have := hp.le
  by_cases hi : i < k
  · exact h.1 i hi
  · have : xs.getD i 0 = 0 := by simp [show xs.length ≤ i by omega]
    omega
theorem prod_le {p A B : Int} (hp : PrP p) (h1 : 0 ≤ A ∧ A ≤ p - 1) (h2 : 0 ≤ B ∧ B ≤ p - 1) : 0 ≤ A * B ∧ A * B ≤ 36 := by
  have h3 := hp.le
  have h4 : A * B ≤ 6 * 6 := Int.mul_le_mul (by omega) (by omega) h2.1 (by omega)
  exact ⟨Int.mul_nonneg h1.1 h2.1, by omega⟩
theorem tmAt_rng {t : List Int} {p : Int} {a b o : List Int} {x y : Nat} (hp : PrP p) (ha : RngP p a) (hb : RngP p b) (ho : RngP p o) : RngP p (tmAt t p a b x o y) := fun i => by
  have h3 := hp.le
  unfold tmAt
  by_cases hl : cl t x y < o.length
  · rw [getD_set_int hl]
    split
    · have h1 := (prod_le hp (ha x) (hb y)).1
      have h2 := (ho (cl t x y)).1
      have h4 := Int.tmod_nonneg p (show 0 ≤ o.getD (cl t x y) 0 + a.getD x 0 * b.getD y 0 by omega)
      have h5 := Int.tmod_lt_of_pos (o.getD (cl t x y) 0 + a.getD x 0 * b.getD y 0) (show 0 < p by omega)
      omega
    · exact ho i
  · rw [List.set_eq_of_length_le (by omega)]; exact ho i
theorem tmIn_rng {t : List Int} {p : Int} {a b o : List Int} {x : Nat} (hp : PrP p) (ha : RngP p a) (hb : RngP p b) (ho : RngP p o) : ∀ {y}, RngP p (tmIn t p a b x o y)
  | 0 => ho
  | y + 1 => tmAt_rng hp ha hb (tmIn_rng hp ha hb ho)
theorem tmT_rng {N : Nat} {t : List Int} {p : Int} {a b : List Int} (hp : PrP p) (ha : RngP p a) (hb : RngP p b) : ∀ {x}, RngP p (tmT N t p a b x)
  | 0 => fun i => by have := hp.le; rw [tmT, getD_rep0]; omega
  | x + 1 => tmIn_rng hp ha hb (tmT_rng hp ha hb)
theorem tmIn_skip {t : List Int} {p : Int} {a b o : List Int} {x : Nat} (hp : PrP p) (h0 : a.getD x 0 = 0) (ho : RngP p o) : ∀ {y}, tmIn t p a b x o y = o
  | 0 => rfl
  | y + 1 => by
    rw [tmIn, tmIn_skip hp h0 ho, tmAt, h0, Int.zero_mul, Int.add_zero]
    have h1 := ho (cl t x y)
    rw [Int.tmod_eq_of_lt h1.1 (by omega)]
    refine ext_getD (by simp) fun i hi => ?_
    simp only [List.length_set] at hi
    by_cases hl : cl t x y < o.length
    · rw [getD_set_int hl]
      split
      · rename_i e; rw [e]
      · rfl
    · rw [List.set_eq_of_length_le (by omega)]
theorem set_one {o : List Int} {v : Int} {z : Nat} (h : o.length = 1) (hz : z = 0) : [v] = o.set z v := by
  subst hz
  match o, h with
  | [w], _ => rfl
theorem l10Times_ok (N : Nat) (t : List Int) (p : Int) (a b : List Int) (ht : Bytes 100 t) (hs : SqP N t) (hp : PrP p) (ha : RngP p a) (hb : RngP p b) (la : a.length = N) (lb : b.length = N) :
    ACalls Try.prog 57 [.agg (sqS N t), .i .i64 p, .ref (.sl 0 0 0 0 N 1), .ref (.sl 0 1 0 0 N 1)] [.lv true [(0, .ints .i64 N a)], .lv true [(0, .ints .i64 N b)]]
      (fun v ms ns => v = .ref (.sl 1 0 0 0 N 1) ∧ ms = [.lv true [(0, .ints .i64 N a)], .lv true [(0, .ints .i64 N b)]] ∧ ns = [.lv true [(0, .ints .i64 N (tmT N t p a b N))]]) := by
  have hN := hs.le
  have hp2 := hp.le
  have p0 : ¬ p = 0 := by omega
  have hk8 : (N : Int) * 8 ≤ 140737488355328 := by omega
  have m1 : N * 1 = N := Nat.mul_one N
  refine acalls_of_body mix Try.func57 rfl fok57 (Nat.le_of_ble_eq_true rfl) ?_
  unfold abody
  simp only [absE, absL, absF, reduceCtorEq, ↓reduceIte, Nat.reduceEqDiff, Nat.reduceAdd, Nat.reduceLT, Nat.reduceMul, Nat.reduceSub, Nat.reduceLeDiff, Int.reduceLT, Int.reduceLE, Int.reduceEq, Option.isSome_some, implies_true, false_implies, Prod.mk.injEq, ne_eq, not_false_eq_true, not_true_eq_false, ge_iff_le, gt_iff_lt, Int.toNat_natCast, Int.reduceToNat, Int.cast_ofNat_Int, Int.natCast_nonneg, hk8, m1, Try.f57]
  refine awpLoop.intro (fun x : Nat => [(1, .i .i64 p), (2, .ref (.sl 0 0 0 0 N 1)), (3, .ref (.sl 0 1 0 0 N 1)), (4, .ref (.ptr 1 0 0 0)), (9, .ref (.sl 5 0 0 0 N 1)), (10, .i .i64 x)]) (fun x => ⟨[.lv true [(0, .ints .i64 N a)], .lv true [(0, .ints .i64 N b)]], [((1, 0), .lv true (sqS N t)), ((5, 0), .lv true ([(0, .ints .i64 N (tmT N t p a b x))]))], 8⟩)
    (fun x => x ≤ N) (fun x => N - x) 0 (by omega) ⟨[((1,0),(1,0)), ((5,0),(5,0))], rfl, ?_, ?_⟩ ?_
  · simp [wkEnv, lk, renV, renAt, renTo, tmT, zeroArr]
  · simp [wkMem, wkLoc, Mem.get, assoc, renBlk, renSegs, renSg, renTo, tmT, zeroArr]
  · intro x hx
    by_cases h : (x : Int) < N
    · have w := wrap_i64s (show x < 2 ^ 62 by omega)
      have v1 : 0 + x * 1 < N := by omega
      have e0 : a.getD (0 + x * 1) 0 = a.getD x 0 := by rw [Nat.zero_add, Nat.mul_one]
      by_cases hz : False
      · first
          | exact False.elim hz
          | (simp only [absE, absL, absF, reduceCtorEq, ↓reduceIte, Nat.reduceEqDiff, Nat.reduceAdd, Nat.reduceLT, Nat.reduceMul, Nat.reduceSub, Nat.reduceLeDiff, Int.reduceLT, Int.reduceLE, Int.reduceEq, Option.isSome_some, implies_true, false_implies, Prod.mk.injEq, ne_eq, not_false_eq_true, not_true_eq_false, ge_iff_le, gt_iff_lt, Int.toNat_natCast, Int.reduceToNat, Int.cast_ofNat_Int, Int.natCast_nonneg, h, v1, e0, hz, w]
             refine LoopNext.intro (x + 1) (by omega) (by omega) ⟨[((1,0),(1,0)), ((5,0),(5,0))], rfl, ?_, ?_⟩
             · simp [wkEnv, lk, renV, renAt, renTo, w]
             · have e := tmIn_skip (t := t) (b := b) hp hz (tmT_rng (N := N) (t := t) hp ha hb (x := x)) (y := N)
               simp only [tmT, e]; simp [wkMem, wkLoc, Mem.get, assoc, renBlk, renSegs, renSg, renTo])
      · simp only [absE, absL, absF, reduceCtorEq, ↓reduceIte, Nat.reduceEqDiff, Nat.reduceAdd, Nat.reduceLT, Nat.reduceMul, Nat.reduceSub, Nat.reduceLeDiff, Int.reduceLT, Int.reduceLE, Int.reduceEq, Option.isSome_some, implies_true, false_implies, Prod.mk.injEq, ne_eq, not_false_eq_true, not_true_eq_false, ge_iff_le, gt_iff_lt, Int.toNat_natCast, Int.reduceToNat, Int.cast_ofNat_Int, Int.natCast_nonneg, h, v1, e0, hz]
        refine awpLoop.intro (fun y : Nat => [(1, .i .i64 p), (2, .ref (.sl 0 0 0 0 N 1)), (3, .ref (.sl 0 1 0 0 N 1)), (4, .ref (.ptr 1 0 0 0)), (9, .ref (.sl 5 0 0 0 N 1)), (10, .i .i64 x), (11, .i .i64 y)]) (fun y => ⟨[.lv true [(0, .ints .i64 N a)], .lv true [(0, .ints .i64 N b)]], [((1, 0), .lv true (sqS N t)), ((5, 0), .lv true ([(0, .ints .i64 N (tmIn t p a b x (tmT N t p a b x) y))]))], 13⟩)
          (fun y => y ≤ N) (fun y => N - y) 0 (by omega) ⟨[((1,0),(1,0)), ((5,0),(5,0))], rfl, ?_, ?_⟩ ?_
        · simp [wkEnv, lk, renV, renAt, renTo, tmIn]
        · simp [wkMem, wkLoc, Mem.get, assoc, renBlk, renSegs, renSg, renTo, tmIn]
        · intro y hy
          by_cases h' : (y : Int) < N
          · have w' := wrap_i64s (show y < 2 ^ 62 by omega)
            have v2 : 0 + y * 1 < N := by omega
            have e1 : b.getD (0 + y * 1) 0 = b.getD y 0 := by rw [Nat.zero_add, Nat.mul_one]
            have jz := hs.cl_lt (show x < N by omega) (show y < N by omega)
            have i1 : (x : Int) < 10 := by omega
            have i2 : (y : Int) < 10 := by omega
            have i3 : (cl t x y : Int) < N := by omega
            have u1 : 0 + x * 10 + y * 1 < 100 := by omega
            have u2 : 0 + cl t x y * 1 < N := by omega
            have u3 : 0 + cl t x y * 1 + 1 ≤ N := by omega
            have k1 := sq_colget ht x y
            have hr := tmIn_rng (t := t) (x := x) hp ha hb (tmT_rng (N := N) (t := t) hp ha hb (x := x)) (y := y)
            have hl : (tmIn t p a b x (tmT N t p a b x) y).length = N := by rw [tmIn_len, tmT_len]
            have c0 := hr (cl t x y)
            have m0 := prod_le hp (ha x) (hb y)
            have e2 : (tmIn t p a b x (tmT N t p a b x) y).getD (0 + cl t x y * 1) 0 = (tmIn t p a b x (tmT N t p a b x) y).getD (cl t x y) 0 := by rw [Nat.zero_add, Nat.mul_one]
            have wm : IntKind.i64.wrap (a.getD x 0 * b.getD y 0) = a.getD x 0 * b.getD y 0 := wrap_i64 (by omega) (by omega)
            have wa : IntKind.i64.wrap ((tmIn t p a b x (tmT N t p a b x) y).getD (cl t x y) 0 + a.getD x 0 * b.getD y 0) = (tmIn t p a b x (tmT N t p a b x) y).getD (cl t x y) 0 + a.getD x 0 * b.getD y 0 := wrap_i64 (by omega) (by omega)
            have e3 : (tmIn t p a b x (tmT N t p a b x) y).set (0 + cl t x y * 1) (((tmIn t p a b x (tmT N t p a b x) y).getD (cl t x y) 0 + a.getD x 0 * b.getD y 0).tmod p) = tmIn t p a b x (tmT N t p a b x) (y + 1) := by rw [Nat.zero_add, Nat.mul_one]; rfl
            by_cases h1 : 1 = N
            · have e4 : [((tmIn t p a b x (tmT N t p a b x) y).getD (cl t x y) 0 + a.getD x 0 * b.getD y 0).tmod p] = tmIn t p a b x (tmT N t p a b x) (y + 1) := set_one (by omega) (by omega)
              have h1t : (1 = N) = True := eq_true h1
              simp only [absE, absL, absF, reduceCtorEq, ↓reduceIte, Nat.reduceEqDiff, Nat.reduceAdd, Nat.reduceLT, Nat.reduceMul, Nat.reduceSub, Nat.reduceLeDiff, Int.reduceLT, Int.reduceLE, Int.reduceEq, Option.isSome_some, implies_true, false_implies, Prod.mk.injEq, ne_eq, not_false_eq_true, not_true_eq_false, ge_iff_le, gt_iff_lt, Int.toNat_natCast, Int.reduceToNat, Int.cast_ofNat_Int, Int.natCast_nonneg, h', v1, v2, e0, e1, i1, i2, i3, u1, u2, u3, k1, e2, wm, wa, p0, h1t, e4]
              repeat refine And.intro (by first | omega | decide +kernel) ?_
              refine LoopNext.intro (y + 1) (by omega) (by omega) ⟨[((1,0),(1,0)), ((5,0),(5,0))], rfl, ?_, ?_⟩
              · simp [wkEnv, lk, renV, renAt, renTo, w']
              · simp [wkMem, wkLoc, Mem.get, assoc, renBlk, renSegs, renSg, renTo, w']
            · simp only [absE, absL, absF, reduceCtorEq, ↓reduceIte, Nat.reduceEqDiff, Nat.reduceAdd, Nat.reduceLT, Nat.reduceMul, Nat.reduceSub, Nat.reduceLeDiff, Int.reduceLT, Int.reduceLE, Int.reduceEq, Option.isSome_some, implies_true, false_implies, Prod.mk.injEq, ne_eq, not_false_eq_true, not_true_eq_false, ge_iff_le, gt_iff_lt, Int.toNat_natCast, Int.reduceToNat, Int.cast_ofNat_Int, Int.natCast_nonneg, h', v1, v2, e0, e1, i1, i2, i3, u1, u2, u3, k1, e2, wm, wa, p0, h1, e3]
              repeat refine And.intro (by first | omega | decide +kernel) ?_
              refine LoopNext.intro (y + 1) (by omega) (by omega) ⟨[((1,0),(1,0)), ((5,0),(5,0))], rfl, ?_, ?_⟩
              · simp [wkEnv, lk, renV, renAt, renTo, w']
              · simp [wkMem, wkLoc, Mem.get, assoc, renBlk, renSegs, renSg, renTo, w']
          · have hyN : y = N := by omega
            subst hyN
            simp only [absE, absL, absF, reduceCtorEq, ↓reduceIte, Nat.reduceEqDiff, Nat.reduceAdd, Nat.reduceLT, Nat.reduceMul, Nat.reduceSub, Nat.reduceLeDiff, Int.reduceLT, Int.reduceLE, Int.reduceEq, Option.isSome_some, implies_true, false_implies, Prod.mk.injEq, ne_eq, not_false_eq_true, not_true_eq_false, ge_iff_le, gt_iff_lt, Int.toNat_natCast, Int.reduceToNat, Int.cast_ofNat_Int, Int.natCast_nonneg, h', w]
            refine LoopNext.intro (x + 1) (by omega) (by omega) ⟨[((1,0),(1,0)), ((5,0),(5,0))], rfl, ?_, ?_⟩
            · simp [wkEnv, lk, renV, renAt, renTo, tmT]
            · simp [wkMem, wkLoc, Mem.get, assoc, renBlk, renSegs, renSg, renTo, tmT]
    · have hxN : x = N := by omega
      subst hxN
      simp only [absE, absL, absF, reduceCtorEq, ↓reduceIte, Nat.reduceEqDiff, Nat.reduceAdd, Nat.reduceLT, Nat.reduceMul, Nat.reduceSub, Nat.reduceLeDiff, Int.reduceLT, Int.reduceLE, Int.reduceEq, Option.isSome_some, implies_true, false_implies, Prod.mk.injEq, ne_eq, not_false_eq_true, not_true_eq_false, ge_iff_le, gt_iff_lt, Int.toNat_natCast, Int.reduceToNat, Int.cast_ofNat_Int, Int.natCast_nonneg, h, Try.results57]
      exact ⟨[(5, 0)], by simp, by simp, by simp [renV, renAt, renFin, idx], by simp [renBlk, renSegs, renSg], by simp [renBlk, renSegs, renSg, Mem.get, assoc]⟩
def unitL (N : Nat) : List Int := (List.replicate N 0).set 0 1
theorem l10Unit_ok (N : Nat) (h1 : 1 ≤ N) (hN : N ≤ 10) : ACalls Try.prog 37 [.i .i64 N, .i .i64 0] [] (fun v ms ns => v = .ref (.sl 1 0 0 0 N 1) ∧ ms = [] ∧ ns = [.lv true [(0, .ints .i64 N (unitL N))]]) := by
  have hk8 : (N : Int) * 8 ≤ 140737488355328 := by omega
  have m1 : N * 1 = N := Nat.mul_one N
  have i0 : (0 : Int) < N := by omega
  have u0 : 1 ≤ N := h1
  refine acalls_of_body mix Try.func37 rfl fok37 (Nat.le_of_ble_eq_true rfl) ?_
  unfold abody
  by_cases h : 1 = N
  · subst h
    simp only [absE, absL, absF, reduceCtorEq, ↓reduceIte, Nat.reduceEqDiff, Nat.reduceAdd, Nat.reduceLT, Nat.reduceMul, Nat.reduceSub, Nat.reduceLeDiff, Int.reduceLT, Int.reduceLE, Int.reduceEq, Option.isSome_some, implies_true, false_implies, Prod.mk.injEq, ne_eq, not_false_eq_true, not_true_eq_false, ge_iff_le, gt_iff_lt, Int.toNat_natCast, Int.reduceToNat, Int.cast_ofNat_Int, Int.natCast_nonneg, Try.f37, Try.results37]
    repeat refine And.intro (by omega) ?_
    exact ⟨[(3, 0)], by simp, by simp, by simp [renV, renAt, renFin, idx], by simp, by simp [renBlk, renSegs, renSg, Mem.get, assoc, unitL]⟩
  · simp only [absE, absL, absF, reduceCtorEq, ↓reduceIte, Nat.reduceEqDiff, Nat.reduceAdd, Nat.reduceLT, Nat.reduceMul, Nat.reduceSub, Nat.reduceLeDiff, Int.reduceLT, Int.reduceLE, Int.reduceEq, Option.isSome_some, implies_true, false_implies, Prod.mk.injEq, ne_eq, not_false_eq_true, not_true_eq_false, ge_iff_le, gt_iff_lt, Int.toNat_natCast, Int.reduceToNat, Int.cast_ofNat_Int, Int.natCast_nonneg, hk8, m1, i0, u0, h, Try.f37, Try.results37]
    exact ⟨[(3, 0)], by simp, by simp, by simp [renV, renAt, renFin, idx], by simp, by simp [renBlk, renSegs, renSg, Mem.get, assoc, unitL, zeroArr]⟩

end Go.Proofs.Ytjmenocghjggcaa
