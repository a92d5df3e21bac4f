/-
Contracts of functions of the given program, by the abstract walk.
-/
import Derived.Test.YtgblnnodoabdeaaAbsY
import Derived.Test.YtgblnnodoabdeaaUk
namespace Go.Proofs.Ytgblnnodoabdeaa
open Go Go.Abs
set_option linter.unusedVariables false
set_option linter.unusedSectionVars false
set_option linter.unusedSimpArgs false
set_option maxRecDepth 100000
/-! homomorphisms step by step: put -/
abbrev sdS (n : Int) (t : List Int) (m : Int) (s f : List Int) : Segs := [(0, .ints .i64 1 [n]), (1, .ints .u8 100 t), (101, .ints .i64 1 [m]), (102, .ints .u8 100 s), (202, .ints .u8 10 f)]
theorem puth_ok (N M : Nat) (t s f : List Int) (x y : Nat) (ht : Bytes 100 t) (hs : Bytes 100 s) (st : SqP N t) (ss : SqP M s) (hf : PGood false N M t s f) (hx : x < N) (hy : y < M) :
    ACalls Try.prog 73 [.ref (.ptr 0 0 0 0), .i .u8 x, .i .u8 y] [.lv true (sdS N t M s f)]
      (fun v ms ns => ∃ b g, ((b = true → LE false N M t s f x y g) ∧ (b = false → NoExt false N M t s f x y)) ∧ v = .b b ∧ ms = [.lv true (sdS N t M s g)] ∧ ns = []) := by
  have hN := st.le
  have hM := ss.le
  refine acalls_of_body mix Try.func73 rfl fok73 (Nat.le_of_ble_eq_true rfl) ?_
  unfold abody
  simp only [absE, absL, absF, reduceCtorEq, ↓reduceIte, Nat.reduceEqDiff, Nat.reduceAdd, Nat.reduceLT, Nat.reduceMul, Nat.reduceSub, Nat.reduceLeDiff, Int.reduceLT, Int.reduceLE, Int.reduceEq, Option.isSome_some, implies_true, false_implies, Prod.mk.injEq, ne_eq, not_false_eq_true, not_true_eq_false, ge_iff_le, gt_iff_lt, Int.toNat_natCast, Int.reduceToNat, Int.cast_ofNat_Int, Int.natCast_nonneg, Try.f73]
  refine awpLoop.intro (fun c : List Int × List Int × List (Nat × Nat) => [(0, .ref (.ptr 0 0 0 0)), (6, .b false), (7, .ref (.sl 50 0 0 c.2.1.length c.2.2.length 2))]) (fun c => ⟨[.lv true (sdS N t M s c.1)], [((50, 0), .lv true ([(0, .ints .u8 (c.2.1.length + c.2.2.length * 2) (c.2.1 ++ flatQ c.2.2))]))], 60⟩)
    (fun c => PutInv false N M t s f x y c.1 c.2.2 ∧ c.2.2.length ≤ 1 + 20 * cntL c.1 N) (fun c => (N - cntL c.1 N) * 30 + c.2.2.length) (f, [], [(x, y)]) ⟨inv_init hf hx hy, by simp⟩ ⟨[((5,0),(50,0))], rfl, ?_, ?_⟩ ?_
  · simp [wkEnv, lk, renV, renAt, renTo]
  · simp [wkMem, wkLoc, flatQ, Mem.get, assoc, renBlk, renSegs, renSg, renTo]
  · rintro ⟨g, pre, qs⟩ ⟨hI, hql⟩
    simp only at hI hql
    cases qs with
    | nil =>
      have hd := inv_done hI
      simp only [absE, absL, absF, reduceCtorEq, ↓reduceIte, Nat.reduceEqDiff, Nat.reduceAdd, Nat.reduceLT, Nat.reduceMul, Nat.reduceSub, Nat.reduceLeDiff, Int.reduceLT, Int.reduceLE, Int.reduceEq, Option.isSome_some, implies_true, false_implies, Prod.mk.injEq, ne_eq, not_false_eq_true, not_true_eq_false, ge_iff_le, gt_iff_lt, Int.toNat_natCast, Int.reduceToNat, Int.cast_ofNat_Int, Int.natCast_nonneg, List.length_nil, Try.results73]
      exact ⟨[], by simp, by simp, true, g, ⟨fun _ => hd, fun h => by cases h⟩, by simp [renV], by simp [renBlk, renSegs, renSg], by simp⟩
    | cons ab rest =>
      obtain ⟨a, b⟩ := ab
      obtain ⟨ra, rb⟩ := hI.rng (a, b) (by simp)
      have ra : a < N := ra
      have rb : b < M := rb
      have hcl := cnt_le (f := g) (k := N)
      have hrl : rest.length ≤ 20 * cntL g N := by simp only [List.length_cons] at hql; omega
      have l0 : (0 : Int) < ((rest.length + 1 : Nat) : Int) := by omega
      have l1 : (1 : Int) ≤ ((rest.length + 1 : Nat) : Int) := by omega
      have v1 : pre.length + 0 + 0 < pre.length + (rest.length + 1) * 2 := by omega
      have v2 : pre.length + 0 + 1 < pre.length + (rest.length + 1) * 2 := by omega
      have c1 : (pre ++ (a : Int) :: (b : Int) :: flatQ rest).getD (pre.length + 0 + 0) 0 = (a : Int) := by simp
      have c2 : (pre ++ (a : Int) :: (b : Int) :: flatQ rest).getD (pre.length + 0 + 1) 0 = (b : Int) := by simp
      have a10 : (a : Int) < 10 := by omega
      have b10 : (b : Int) < 10 := by omega
      have a11 : 0 + a * 1 < 10 := by omega
      have b11 : 0 + b * 1 < 10 := by omega
      have k1 : g.getD (0 + a * 1) 0 = ((pl g a : Nat) : Int) := by rw [Nat.zero_add, Nat.mul_one]; exact hI.pm.by_.place a
      have lr : rest.length + 1 - 1 = rest.length := by omega
      by_cases e : pl g a = b
      · have ei : ((pl g a : Nat) : Int) = (b : Int) := by rw [e]
        simp only [absE, absL, absF, reduceCtorEq, ↓reduceIte, Nat.reduceEqDiff, Nat.reduceAdd, Nat.reduceLT, Nat.reduceMul, Nat.reduceSub, Nat.reduceLeDiff, Int.reduceLT, Int.reduceLE, Int.reduceEq, Option.isSome_some, implies_true, false_implies, Prod.mk.injEq, ne_eq, not_false_eq_true, not_true_eq_false, ge_iff_le, gt_iff_lt, Int.toNat_natCast, Int.reduceToNat, Int.cast_ofNat_Int, Int.natCast_nonneg, List.length_cons, flatQ, l0, l1, v1, v2, c1, c2, a10, a11, k1, ei, lr]
        refine LoopNext.intro (g, pre ++ [(a : Int), (b : Int)], rest) ⟨inv_skip hI e, by simp only; omega⟩ (by simp) ⟨[((50,0),(50,0))], rfl, ?_, ?_⟩
        · simp [wkEnv, lk, renV, renAt, renTo]
        · simp [wkMem, wkLoc, Mem.get, assoc, renBlk, renSegs, renSg, renTo]; omega
      · have ei : ¬ ((pl g a : Nat) : Int) = (b : Int) := by omega
        by_cases e2 : pl g a = 255
        · have ei2 : ((pl g a : Nat) : Int) = 255 := by rw [e2]; rfl
          have ei3 : ¬ (255 : Int) = (b : Int) := by omega
          have s1 : g.set (0 + a * 1) (b : Int) = g.set a (b : Int) := by rw [Nat.zero_add, Nat.mul_one]
          have hI2 := inv_set hN hM st ss hI e2 (fun h => by cases h)
          have hcn := cnt_put hI.pm hN ra (show b < 255 by omega) e2
          have hA := pl_put (f := g) (a := a) (b := b) (j := a) hI.pm.by_.len (by omega)
          rw [if_pos rfl] at hA
          have hadd : ∀ z, z ≤ N → (addL t s (g.set a (b : Int)) a b z).length ≤ 20 := fun z hz => by have := addL_len (t := t) (s := s) (g := g.set a (b : Int)) (a := a) (b := b) (z := z); omega
          have hcl2 := cnt_le (f := g.set a (b : Int)) (k := N)
          have hG := hI2.pm
          generalize hg2 : g.set a (b : Int) = g2 at s1 hI2 hcn hadd hcl2 hG hA
          simp only [absE, absL, absF, reduceCtorEq, ↓reduceIte, Nat.reduceEqDiff, Nat.reduceAdd, Nat.reduceLT, Nat.reduceMul, Nat.reduceSub, Nat.reduceLeDiff, Int.reduceLT, Int.reduceLE, Int.reduceEq, Option.isSome_some, implies_true, false_implies, Prod.mk.injEq, ne_eq, not_false_eq_true, not_true_eq_false, ge_iff_le, gt_iff_lt, Int.toNat_natCast, Int.reduceToNat, Int.cast_ofNat_Int, Int.natCast_nonneg, List.length_cons, flatQ, l0, l1, v1, v2, c1, c2, a10, b10, a11, b11, k1, ei2, ei3, s1, lr]
          repeat first | refine And.intro (by omega) ?_ | refine And.intro (by decide +kernel) ?_
          refine CallsVia.none (elements_ok N t hN) ?_
          rintro _ _ _ ⟨rfl, rfl, rfl⟩
          simp only [absE, absL, absF, reduceCtorEq, ↓reduceIte, Nat.reduceEqDiff, Nat.reduceAdd, Nat.reduceLT, Nat.reduceMul, Nat.reduceSub, Nat.reduceLeDiff, Int.reduceLT, Int.reduceLE, Int.reduceEq, Option.isSome_some, implies_true, false_implies, Prod.mk.injEq, ne_eq, not_false_eq_true, not_true_eq_false, ge_iff_le, gt_iff_lt, Int.toNat_natCast, Int.reduceToNat, Int.cast_ofNat_Int, Int.natCast_nonneg]
          refine awpLoop.intro (fun c : Nat × List Int => [(0, .ref (.ptr 0 0 0 0)), (6, .b false), (1, .i .u8 a), (2, .i .u8 b), (7, .ref (.sl 50 0 0 c.2.length (rest.length + (addL t s g2 a b c.1).length) 2)), (53, .ref (.sl 102 0 0 0 N 1)), (54, .i .i64 N), (55, .i .i64 c.1)]) (fun c => ⟨[.lv true (sdS N t M s g2)], [((50, 0), .lv true ([(0, .ints .u8 (c.2.length + (rest.length + (addL t s g2 a b c.1).length) * 2) (c.2 ++ flatQ (rest ++ addL t s g2 a b c.1)))])), ((102, 0), .lv true ([(0, .ints .u8 N (bytesTo N))]))], 200⟩)
            (fun c => c.1 ≤ N) (fun c => N - c.1) (0, pre ++ [(a : Int), (b : Int)]) (by simp) ⟨[((50,0),(50,0)), ((102,0),(102,0))], rfl, ?_, ?_⟩ ?_
          · simp [wkEnv, lk, renV, renAt, renTo, addL]
          · simp [wkMem, wkLoc, Mem.get, assoc, renBlk, renSegs, renSg, renTo, addL]; omega
          · rintro ⟨z, pr⟩ hz
            simp only at hz
            by_cases h : (z : Int) < N
            · have w := wrap_i64s (show z < 2 ^ 62 by omega)
              have hzN : z < N := by omega
              have hal := hadd z hz
              have b1 : (bytesTo N).getD (0 + z * 1) 0 = (z : Int) := by rw [Nat.zero_add, Nat.mul_one]; exact bytesTo_get (by omega)
              have v1 : 0 + z * 1 < N := by omega
              have z10 : (z : Int) < 10 := by omega
              have z11 : 0 + z * 1 < 10 := by omega
              have k3 : g2.getD (0 + z * 1) 0 = ((pl g2 z : Nat) : Int) := by rw [Nat.zero_add, Nat.mul_one]; exact hG.by_.place z
              by_cases e4 : pl g2 z = 255
              · have ei4 : ((pl g2 z : Nat) : Int) = 255 := by rw [e4]; rfl
                simp only [absE, absL, absF, reduceCtorEq, ↓reduceIte, Nat.reduceEqDiff, Nat.reduceAdd, Nat.reduceLT, Nat.reduceMul, Nat.reduceSub, Nat.reduceLeDiff, Int.reduceLT, Int.reduceLE, Int.reduceEq, Option.isSome_some, implies_true, false_implies, Prod.mk.injEq, ne_eq, not_false_eq_true, not_true_eq_false, ge_iff_le, gt_iff_lt, Int.toNat_natCast, Int.reduceToNat, Int.cast_ofNat_Int, Int.natCast_nonneg, h, b1, v1, z10, z11, k3, ei4]
                refine LoopNext.intro (z + 1, pr) (by simp only; omega) (by simp only; omega) ⟨[((50,0),(50,0)), ((102,0),(102,0))], rfl, ?_, ?_⟩
                · simp [wkEnv, lk, renV, renAt, renTo, addL, e4, w]
                · simp [wkMem, wkLoc, Mem.get, assoc, renBlk, renSegs, renSg, renTo, addL, e4]
              · have ei4 : ¬ ((pl g2 z : Nat) : Int) = 255 := by omega
                have hv : pl g2 z < M := by
                  rcases hG.val z hzN with v | v
                  · exact v
                  · exact absurd v e4
                have q1 := sq_colget ht a z
                have q2 := sq_colget hs b (pl g2 z)
                have q3 := sq_colget ht z a
                have q4 := sq_colget hs (pl g2 z) b
                have y10 : ((pl g2 z : Nat) : Int) < 10 := by omega
                have u1 : 0 + a * 10 + z * 1 < 100 := by omega
                have u2 : 0 + b * 10 + pl g2 z * 1 < 100 := by omega
                have u3 : 0 + z * 10 + a * 1 < 100 := by omega
                have u4 : 0 + pl g2 z * 10 + b * 1 < 100 := by omega
                have hA1 : addL t s g2 a b (z + 1) = addL t s g2 a b z ++ [(cl t a z, cl s b (pl g2 z)), (cl t z a, cl s (pl g2 z) b)] := by rw [addL, if_neg e4]
                have hLl : (rest ++ addL t s g2 a b z).length = rest.length + (addL t s g2 a b z).length := List.length_append
                have hsub : (if pr.length = 0 ∧ (rest.length + (addL t s g2 a b z).length) * 2 = pr.length + (rest.length + (addL t s g2 a b z).length) * 2 then Sg.ints .u8 (pr.length + (rest.length + (addL t s g2 a b z).length) * 2) (pr ++ flatQ (rest ++ addL t s g2 a b z)) else Sg.ints .u8 ((rest.length + (addL t s g2 a b z).length) * 2) (((pr ++ flatQ (rest ++ addL t s g2 a b z)).drop pr.length).take ((rest.length + (addL t s g2 a b z).length) * 2))) = Sg.ints .u8 ((rest.length + (addL t s g2 a b z).length) * 2) (flatQ (rest ++ addL t s g2 a b z)) := by
                  split
                  · rename_i hp
                    have : pr = [] := List.eq_nil_of_length_eq_zero hp.1
                    subst this; simp
                  · rw [List.drop_left, List.take_of_length_le (by rw [flatQ_len, hLl]; omega)]
                have hspl : spl (spl (List.replicate 4 0) 0 (((List.replicate 2 0).set 0 ((cl t a z : Nat) : Int)).set 1 ((cl s b (pl g2 z) : Nat) : Int))) 2 (((List.replicate 2 0).set 0 ((cl t z a : Nat) : Int)).set 1 ((cl s (pl g2 z) b : Nat) : Int)) = [((cl t a z : Nat) : Int), ((cl s b (pl g2 z) : Nat) : Int), ((cl t z a : Nat) : Int), ((cl s (pl g2 z) b : Nat) : Int)] := rfl
                simp only [absE, absL, absF, reduceCtorEq, ↓reduceIte, Nat.reduceEqDiff, Nat.reduceAdd, Nat.reduceLT, Nat.reduceMul, Nat.reduceSub, Nat.reduceLeDiff, Int.reduceLT, Int.reduceLE, Int.reduceEq, Option.isSome_some, implies_true, false_implies, Prod.mk.injEq, ne_eq, not_false_eq_true, not_true_eq_false, ge_iff_le, gt_iff_lt, Int.toNat_natCast, Int.reduceToNat, Int.cast_ofNat_Int, Int.natCast_nonneg, h, b1, v1, z10, z11, a10, b10, y10, k3, ei4, q1, q2, q3, q4, u1, u2, u3, u4]
                refine And.intro (by omega) (And.intro (by omega) ?_)
                rw [hsub, hspl]
                simp only [absE, absL, absF, reduceCtorEq, ↓reduceIte, Nat.reduceEqDiff, Nat.reduceAdd, Nat.reduceLT, Nat.reduceMul, Nat.reduceSub, Nat.reduceLeDiff, Int.reduceLT, Int.reduceLE, Int.reduceEq, Option.isSome_some, implies_true, false_implies, Prod.mk.injEq, ne_eq, not_false_eq_true, not_true_eq_false, ge_iff_le, gt_iff_lt, Int.toNat_natCast, Int.reduceToNat, Int.cast_ofNat_Int, Int.natCast_nonneg]
                repeat first | refine And.intro (by decide +kernel) ?_
                refine LoopNext.intro (z + 1, []) (by simp only; omega) (by simp only; omega) ⟨[((253,0),(50,0)), ((102,0),(102,0))], rfl, ?_, ?_⟩
                · simp [wkEnv, lk, renV, renAt, renTo, hA1, w]; omega
                · rw [hA1]; simp [wkMem, wkLoc, Mem.get, assoc, renBlk, renSegs, renSg, renTo, flatQ_app, flatQ]; omega
            · obtain rfl : z = N := by omega
              simp only [absE, absL, absF, reduceCtorEq, ↓reduceIte, Nat.reduceEqDiff, Nat.reduceAdd, Nat.reduceLT, Nat.reduceMul, Nat.reduceSub, Nat.reduceLeDiff, Int.reduceLT, Int.reduceLE, Int.reduceEq, Option.isSome_some, implies_true, false_implies, Prod.mk.injEq, ne_eq, not_false_eq_true, not_true_eq_false, ge_iff_le, gt_iff_lt, Int.toNat_natCast, Int.reduceToNat, Int.cast_ofNat_Int, Int.natCast_nonneg, h]
              have hal := hadd z (Nat.le_refl z)
              have hcc : cntL g z < cntL g2 z := hcn
              refine LoopNext.intro (g2, pr, rest ++ addL t s g2 a b z) ⟨hI2, by simp only [List.length_append]; omega⟩ (by simp only [List.length_append, List.length_cons]; omega) ⟨[((50,0),(50,0))], rfl, ?_, ?_⟩
              · simp [wkEnv, lk, renV, renAt, renTo]
              · simp [wkMem, wkLoc, Mem.get, assoc, renBlk, renSegs, renSg, renTo]
        · have ei2 : ¬ ((pl g a : Nat) : Int) = 255 := by omega
          have hno := inv_fail hI e e2
          simp only [absE, absL, absF, reduceCtorEq, ↓reduceIte, Nat.reduceEqDiff, Nat.reduceAdd, Nat.reduceLT, Nat.reduceMul, Nat.reduceSub, Nat.reduceLeDiff, Int.reduceLT, Int.reduceLE, Int.reduceEq, Option.isSome_some, implies_true, false_implies, Prod.mk.injEq, ne_eq, not_false_eq_true, not_true_eq_false, ge_iff_le, gt_iff_lt, Int.toNat_natCast, Int.reduceToNat, Int.cast_ofNat_Int, Int.natCast_nonneg, List.length_cons, flatQ, l0, l1, v1, v2, c1, c2, a10, a11, k1, ei, ei2, lr, Try.results73]
          exact ⟨[], by simp, by simp, false, g, ⟨(fun h => by cases h), fun _ => hno⟩, by simp [renV], by simp [renBlk, renSegs, renSg], by simp⟩

end Go.Proofs.Ytgblnnodoabdeaa
