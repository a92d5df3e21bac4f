/-
Contracts of functions of the given program, by the abstract walk.
-/
import Derived.Test.YtgblnnodoabdeaaAbsY
import Derived.Test.YtgblnnodoabdeaaUl
namespace Go.Proofs.Ytgblnnodoabdeaa
open Go Go.Abs
set_option linter.unusedVariables false
set_option linter.unusedSectionVars false
set_option linter.unusedSimpArgs false
set_option maxRecDepth 100000
/-! homomorphisms: the reference's recursion -/
abbrev thS (f : List Int) : Segs := [(0, .ints .i64 10 (toS f))]
theorem l06Close_ok (N M : Nat) (t s : List Int) (ht : Bytes 100 t) (hs : Bytes 100 s) (st : SqP N t) (ss : SqP M s) : ∀ d (f : List Int) (x y : Nat), Mid false N M f → x < N → y < M → N ≤ cntL f N + d →
    ACalls Try.prog 118 [.agg (sqS N t), .agg (sqS M s), .agg (thS f), .i .i64 x, .i .i64 y] []
      (fun v ms ns => v = .tup [.agg (thS (clo false N t s d f x y).1), .b (clo false N t s d f x y).2] ∧ ms = [] ∧ ns = []) := by
  have hN := st.le
  have hM := ss.le
  intro d
  induction d with
  | zero =>
    intro f x y hf hx hy hc
    have hdm : pl f x ≠ 255 := cnt_all (by have := cnt_le (f := f) (k := N); omega) x hx
    have x10 : (x : Int) < 10 := by omega
    have x11 : 0 + x * 1 < 10 := by omega
    have k1 : (toS f).getD (0 + x * 1) 0 = ((pl f x : Nat) : Int) := by rw [Nat.zero_add, Nat.mul_one, toS_get (by omega), if_neg hdm]
    have e : decide (((pl f x : Nat) : Int) = (y : Int)) = decide (pl f x = y) := decide_eq_decide.2 (by omega)
    have e0 : clo false N t s 0 f x y = (f, decide (pl f x = y)) := rfl
    rw [e0]
    refine acalls_of_body mix Try.func118 rfl fok118 (Nat.le_of_ble_eq_true rfl) ?_
    unfold abody
    simp only [absE, absL, absF, reduceCtorEq, ↓reduceIte, Nat.reduceEqDiff, Nat.reduceAdd, Nat.reduceLT, Nat.reduceMul, Nat.reduceSub, Nat.reduceLeDiff, Int.reduceLT, Int.reduceLE, Int.reduceEq, Option.isSome_some, implies_true, false_implies, Prod.mk.injEq, ne_eq, not_false_eq_true, not_true_eq_false, ge_iff_le, gt_iff_lt, Int.toNat_natCast, Int.reduceToNat, Int.cast_ofNat_Int, Int.natCast_nonneg, x10, x11, k1, e, Try.f118, Try.results118]
    repeat refine And.intro (by decide +kernel) ?_
    exact ⟨[], by simp, by simp, by simp [renV, renVs, renSegs, renSg], by simp, by simp⟩
  | succ d ih =>
    intro f x y hf hx hy hc
    have x10 : (x : Int) < 10 := by omega
    have y10 : (y : Int) < 10 := by omega
    have x11 : 0 + x * 1 < 10 := by omega
    have y11 : 0 + y * 1 < 10 := by omega
    by_cases hdm : pl f x = 255
    · have k1 : (toS f).getD (0 + x * 1) 0 = -1 := by rw [Nat.zero_add, Nat.mul_one, toS_get (by omega), if_pos hdm]
      have e0 : clo false N t s (d + 1) f x y = cloL t s (clo false N t s d) x y N (f.set x (y : Int)) := by rw [clo, if_neg (by rw [hdm]; simp)]
      rw [e0]
      have s1 : (toS f).set (0 + x * 1) (y : Int) = toS (f.set x (y : Int)) := by rw [Nat.zero_add, Nat.mul_one]; exact toS_set hf.pm.by_.len (by omega) (by omega)
      have hcn := cnt_put hf.pm hN hx (show y < 255 by omega) hdm
      have hcl := cnt_le (f := f) (k := N)
      have hm : Mid false N M (f.set x (y : Int)) := ⟨pm_put hf.pm hN hM hx hy, fun hij => by cases hij⟩
      have ea : pl (f.set x (y : Int)) x = y := by rw [pl_put hf.pm.by_.len (by omega), if_pos rfl]
      have hL := fun z hz => cloL_ok hN hM st ss hx hy (clo_ok (ij := false) hN hM st ss d) hm ea (by omega) z hz
      generalize f.set x (y : Int) = f1 at s1 hm ea hL hcn
      refine acalls_of_body mix Try.func118 rfl fok118 (Nat.le_of_ble_eq_true rfl) ?_
      unfold abody
      simp only [absE, absL, absF, reduceCtorEq, ↓reduceIte, Nat.reduceEqDiff, Nat.reduceAdd, Nat.reduceLT, Nat.reduceMul, Nat.reduceSub, Nat.reduceLeDiff, Int.reduceLT, Int.reduceLE, Int.reduceEq, Option.isSome_some, implies_true, false_implies, Prod.mk.injEq, ne_eq, not_false_eq_true, not_true_eq_false, ge_iff_le, gt_iff_lt, Int.toNat_natCast, Int.reduceToNat, Int.cast_ofNat_Int, Int.natCast_nonneg, x10, y10, x11, y11, k1, s1, Try.f118]
      repeat first | refine And.intro (by decide +kernel) ?_ | refine And.intro (by omega) ?_
      refine awpLoop.intro (fun c : Nat × List Int => [(3, .i .i64 x), (4, .i .i64 y), (5, .ref (.ptr 1 0 0 0)), (6, .ref (.ptr 2 0 0 0)), (7, .ref (.ptr 3 0 0 0)), (10, .ref (.ptr 4 0 0 0)), (12, .i .i64 c.1), (11, .b false)]) (fun c => ⟨[], [((1, 0), .lv true (sqS N t)), ((2, 0), .lv true (sqS M s)), ((3, 0), .lv true (thS c.2)), ((4, 0), .lv true ([(0, .ints .i64 10 (List.replicate 10 0))]))], 40⟩)
        (fun c => c.1 ≤ N ∧ cloL t s (clo false N t s d) x y c.1 f1 = (c.2, true)) (fun c => N - c.1) (0, f1) ⟨by simp, rfl⟩ ⟨[((1,0),(1,0)), ((2,0),(2,0)), ((3,0),(3,0)), ((4,0),(4,0))], rfl, ?_, ?_⟩ ?_
      · simp [wkEnv, lk, renV, renAt, renTo]
      · simp [wkMem, wkLoc, Mem.get, assoc, renBlk, renSegs, renSg, renTo]
      · rintro ⟨z, g⟩ ⟨hz, hg⟩
        simp only at hz hg
        have hR := hL z hz
        rw [hg] at hR
        have hgm : Mid false N M g := hR.mid
        have hgE : PExt N f1 g := hR.ext
        by_cases h : (z : Int) < N
        · have w := wrap_i64s (show z < 2 ^ 62 by omega)
          have hzN : z < N := by omega
          have z10 : (z : Int) < 10 := by omega
          have z11 : 0 + z * 1 < 10 := by omega
          by_cases e : pl g z = 255
          · have k3 : (toS g).getD (0 + z * 1) 0 = -1 := by rw [Nat.zero_add, Nat.mul_one, toS_get (by omega), if_pos e]
            simp only [absE, absL, absF, reduceCtorEq, ↓reduceIte, Nat.reduceEqDiff, Nat.reduceAdd, Nat.reduceLT, Nat.reduceMul, Nat.reduceSub, Nat.reduceLeDiff, Int.reduceLT, Int.reduceLE, Int.reduceEq, Option.isSome_some, implies_true, false_implies, Prod.mk.injEq, ne_eq, not_false_eq_true, not_true_eq_false, ge_iff_le, gt_iff_lt, Int.toNat_natCast, Int.reduceToNat, Int.cast_ofNat_Int, Int.natCast_nonneg, h, z10, z11, k3]
            refine LoopNext.intro (z + 1, g) ⟨by simp only; omega, by simp only [cloL, hg]; rw [if_pos e]⟩ (by simp only; omega) ⟨[((1,0),(1,0)), ((2,0),(2,0)), ((3,0),(3,0)), ((4,0),(4,0))], rfl, ?_, ?_⟩
            · simp [wkEnv, lk, renV, renAt, renTo, w]
            · simp [wkMem, wkLoc, Mem.get, assoc, renBlk, renSegs, renSg, renTo, w]
          · have hv : pl g z < M := by
              rcases hgm.pm.val z hzN with v | v
              · exact v
              · exact absurd v e
            have k3 : (toS g).getD (0 + z * 1) 0 = ((pl g z : Nat) : Int) := by rw [Nat.zero_add, Nat.mul_one, toS_get (by omega), if_neg e]
            have n3 : ¬ ((pl g z : Nat) : Int) < 0 := by omega
            have v10 : ((pl g z : Nat) : Int) < 10 := by omega
            have u1 : 0 + x * 10 + z * 1 < 100 := by omega
            have u2 : 0 + y * 10 + pl g z * 1 < 100 := by omega
            have u3 : 0 + z * 10 + x * 1 < 100 := by omega
            have u4 : 0 + pl g z * 10 + y * 1 < 100 := by omega
            have q1 := sq_colget ht x z
            have q2 := sq_colget hs y (pl g z)
            have q3 := sq_colget ht z x
            have q4 := sq_colget hs (pl g z) y
            have j1 := st.cl_lt hx hzN
            have j2 := ss.cl_lt hy hv
            have j3 := st.cl_lt hzN hx
            have j4 := ss.cl_lt hv hy
            have w1 := wrap_i64n (show cl t x z < 2 ^ 62 by omega)
            have w2 := wrap_i64n (show cl s y (pl g z) < 2 ^ 62 by omega)
            have w3 := wrap_i64n (show cl t z x < 2 ^ 62 by omega)
            have w4 := wrap_i64n (show cl s (pl g z) y < 2 ^ 62 by omega)
            have hcg : N ≤ cntL g N + d := by
              have := cnt_mono (f := f1) (g := g) (k := N) fun c hcN hfc => hgE.dm hcN hfc
              omega
            have R1 := clo_ok (ij := false) hN hM st ss d g (cl t x z) (cl s y (pl g z)) hgm j1 j2 hcg
            have C1 := ih g (cl t x z) (cl s y (pl g z)) hgm j1 j2 hcg
            have hz1 : cloL t s (clo false N t s d) x y (z + 1) f1 = (match clo false N t s d g (cl t x z) (cl s y (pl g z)) with
              | (h, false) => (h, false)
              | (h, true) => clo false N t s d h (cl t z x) (cl s (pl g z) y)) := by simp only [cloL, hg]; rw [if_neg e]; rfl
            generalize clo false N t s d g (cl t x z) (cl s y (pl g z)) = r1 at R1 C1 hz1
            obtain ⟨h1, ok1⟩ := r1
            have hm1 : Mid false N M h1 := R1.mid
            have hE1 : PExt N g h1 := R1.ext
            simp only [absE, absL, absF, reduceCtorEq, ↓reduceIte, Nat.reduceEqDiff, Nat.reduceAdd, Nat.reduceLT, Nat.reduceMul, Nat.reduceSub, Nat.reduceLeDiff, Int.reduceLT, Int.reduceLE, Int.reduceEq, Option.isSome_some, implies_true, false_implies, Prod.mk.injEq, ne_eq, not_false_eq_true, not_true_eq_false, ge_iff_le, gt_iff_lt, Int.toNat_natCast, Int.reduceToNat, Int.cast_ofNat_Int, Int.natCast_nonneg, h, x10, y10, z10, z11, k3, n3, v10, u1, u2, q1, q2, w1, w2]
            repeat refine And.intro (by decide +kernel) ?_
            refine CallsX.none (C1) ?_
            simp only [absE, absL, absF, reduceCtorEq, ↓reduceIte, Nat.reduceEqDiff, Nat.reduceAdd, Nat.reduceLT, Nat.reduceMul, Nat.reduceSub, Nat.reduceLeDiff, Int.reduceLT, Int.reduceLE, Int.reduceEq, Option.isSome_some, implies_true, false_implies, Prod.mk.injEq, ne_eq, not_false_eq_true, not_true_eq_false, ge_iff_le, gt_iff_lt, Int.toNat_natCast, Int.reduceToNat, Int.cast_ofNat_Int, Int.natCast_nonneg]
            repeat refine And.intro (by decide +kernel) ?_
            cases ok1
            · have hfin : cloL t s (clo false N t s d) x y N f1 = (h1, false) := cloL_stop hz1 (by omega)
              rw [hfin]
              simp only [absE, absL, absF, reduceCtorEq, ↓reduceIte, Nat.reduceEqDiff, Nat.reduceAdd, Nat.reduceLT, Nat.reduceMul, Nat.reduceSub, Nat.reduceLeDiff, Int.reduceLT, Int.reduceLE, Int.reduceEq, Option.isSome_some, implies_true, false_implies, Prod.mk.injEq, ne_eq, not_false_eq_true, not_true_eq_false, ge_iff_le, gt_iff_lt, Int.toNat_natCast, Int.reduceToNat, Int.cast_ofNat_Int, Int.natCast_nonneg, Try.results118]
              exact ⟨[], by simp, by simp, by simp [renV, renVs, renSegs, renSg], by simp, by simp⟩
            · have hch : N ≤ cntL h1 N + d := by
                have := cnt_mono (f := g) (g := h1) (k := N) fun c hcN hfc => hE1.dm hcN hfc
                omega
              have C2 := ih h1 (cl t z x) (cl s (pl g z) y) hm1 j3 j4 hch
              simp only at hz1
              generalize clo false N t s d h1 (cl t z x) (cl s (pl g z) y) = r2 at C2 hz1
              obtain ⟨h2, ok2⟩ := r2
              simp only [absE, absL, absF, reduceCtorEq, ↓reduceIte, Nat.reduceEqDiff, Nat.reduceAdd, Nat.reduceLT, Nat.reduceMul, Nat.reduceSub, Nat.reduceLeDiff, Int.reduceLT, Int.reduceLE, Int.reduceEq, Option.isSome_some, implies_true, false_implies, Prod.mk.injEq, ne_eq, not_false_eq_true, not_true_eq_false, ge_iff_le, gt_iff_lt, Int.toNat_natCast, Int.reduceToNat, Int.cast_ofNat_Int, Int.natCast_nonneg, x10, y10, z10, z11, k3, v10, u3, u4, q3, q4, w3, w4]
              repeat refine And.intro (by decide +kernel) ?_
              refine CallsX.none (C2) ?_
              simp only [absE, absL, absF, reduceCtorEq, ↓reduceIte, Nat.reduceEqDiff, Nat.reduceAdd, Nat.reduceLT, Nat.reduceMul, Nat.reduceSub, Nat.reduceLeDiff, Int.reduceLT, Int.reduceLE, Int.reduceEq, Option.isSome_some, implies_true, false_implies, Prod.mk.injEq, ne_eq, not_false_eq_true, not_true_eq_false, ge_iff_le, gt_iff_lt, Int.toNat_natCast, Int.reduceToNat, Int.cast_ofNat_Int, Int.natCast_nonneg]
              repeat refine And.intro (by decide +kernel) ?_
              cases ok2
              · have hfin : cloL t s (clo false N t s d) x y N f1 = (h2, false) := cloL_stop hz1 (by omega)
                rw [hfin]
                simp only [absE, absL, absF, reduceCtorEq, ↓reduceIte, Nat.reduceEqDiff, Nat.reduceAdd, Nat.reduceLT, Nat.reduceMul, Nat.reduceSub, Nat.reduceLeDiff, Int.reduceLT, Int.reduceLE, Int.reduceEq, Option.isSome_some, implies_true, false_implies, Prod.mk.injEq, ne_eq, not_false_eq_true, not_true_eq_false, ge_iff_le, gt_iff_lt, Int.toNat_natCast, Int.reduceToNat, Int.cast_ofNat_Int, Int.natCast_nonneg, Try.results118]
                exact ⟨[], by simp, by simp, by simp [renV, renVs, renSegs, renSg], by simp, by simp⟩
              · simp only [absE, absL, absF, reduceCtorEq, ↓reduceIte, Nat.reduceEqDiff, Nat.reduceAdd, Nat.reduceLT, Nat.reduceMul, Nat.reduceSub, Nat.reduceLeDiff, Int.reduceLT, Int.reduceLE, Int.reduceEq, Option.isSome_some, implies_true, false_implies, Prod.mk.injEq, ne_eq, not_false_eq_true, not_true_eq_false, ge_iff_le, gt_iff_lt, Int.toNat_natCast, Int.reduceToNat, Int.cast_ofNat_Int, Int.natCast_nonneg]
                refine LoopNext.intro (z + 1, h2) ⟨by simp only; omega, hz1⟩ (by simp only; omega) ⟨[((1,0),(1,0)), ((2,0),(2,0)), ((3,0),(3,0)), ((4,0),(4,0))], rfl, ?_, ?_⟩
                · simp [wkEnv, lk, renV, renAt, renTo, w]
                · simp [wkMem, wkLoc, Mem.get, assoc, renBlk, renSegs, renSg, renTo, w]
        · obtain rfl : z = N := by omega
          rw [hg]
          simp only [absE, absL, absF, reduceCtorEq, ↓reduceIte, Nat.reduceEqDiff, Nat.reduceAdd, Nat.reduceLT, Nat.reduceMul, Nat.reduceSub, Nat.reduceLeDiff, Int.reduceLT, Int.reduceLE, Int.reduceEq, Option.isSome_some, implies_true, false_implies, Prod.mk.injEq, ne_eq, not_false_eq_true, not_true_eq_false, ge_iff_le, gt_iff_lt, Int.toNat_natCast, Int.reduceToNat, Int.cast_ofNat_Int, Int.natCast_nonneg, h, Try.results118]
          exact ⟨[], by simp, by simp, by simp [renV, renVs, renSegs, renSg], by simp, by simp⟩
    · have k1 : (toS f).getD (0 + x * 1) 0 = ((pl f x : Nat) : Int) := by rw [Nat.zero_add, Nat.mul_one, toS_get (by omega), if_neg hdm]
      have e : decide (((pl f x : Nat) : Int) = (y : Int)) = decide (pl f x = y) := decide_eq_decide.2 (by omega)
      have e0 : clo false N t s (d + 1) f x y = (f, decide (pl f x = y)) := by rw [clo, if_pos (.inl hdm)]
      rw [e0]
      refine acalls_of_body mix Try.func118 rfl fok118 (Nat.le_of_ble_eq_true rfl) ?_
      unfold abody
      simp only [absE, absL, absF, reduceCtorEq, ↓reduceIte, Nat.reduceEqDiff, Nat.reduceAdd, Nat.reduceLT, Nat.reduceMul, Nat.reduceSub, Nat.reduceLeDiff, Int.reduceLT, Int.reduceLE, Int.reduceEq, Option.isSome_some, implies_true, false_implies, Prod.mk.injEq, ne_eq, not_false_eq_true, not_true_eq_false, ge_iff_le, gt_iff_lt, Int.toNat_natCast, Int.reduceToNat, Int.cast_ofNat_Int, Int.natCast_nonneg, x10, x11, k1, e, Try.f118, Try.results118]
      repeat refine And.intro (by decide +kernel) ?_
      exact ⟨[], by simp, by simp, by simp [renV, renVs, renSegs, renSg], by simp, by simp⟩

end Go.Proofs.Ytgblnnodoabdeaa
