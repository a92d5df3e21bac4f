/-
Contracts of functions of the given program, by the abstract walk.
-/
import Derived.Test.YtcaadjjgggjefaaAbsW
import Derived.Test.YtcaadjjgggjefaaIa
namespace Go.Proofs.Ytcaadjjgggjefaa
open Go Go.Abs
set_option linter.unusedVariables false
set_option linter.unusedSectionVars false
set_option linter.unusedSimpArgs false
set_option maxRecDepth 100000
theorem memL_el {p : Nat → Bool} {n i : Nat} (h : i < (memL p n).length) : (memL p n).getD (0 + i * 1) 0 = ((el (memL p n) i : Nat) : Int) ∧ p (el (memL p n) i) = true ∧ el (memL p n) i < n := by
  obtain ⟨a, e, h1, h2⟩ := memL_getD h
  unfold el
  rw [Nat.zero_add, Nat.mul_one, e, Int.toNat_natCast]
  exact ⟨rfl, h2, h1⟩
theorem memL_at {p : Nat → Bool} {n a : Nat} (h : p a = true) (ha : a < n) : ∃ i, i < (memL p n).length ∧ el (memL p n) i = a := by
  have hm : (a : Int) ∈ memL p n := memL_mem.2 ⟨a, rfl, ha, h⟩
  obtain ⟨i, hi, he⟩ := List.getElem_of_mem hm
  refine ⟨i, hi, ?_⟩
  unfold el
  simp [hi, he]
theorem l07Grouped_ok (N : Nat) (t : List Int) (m : List Bool) (ht : Bytes 100 t) (hs : SqP N t) (hm : m.length = 10) (hlt : ∀ z, m.getD z false = true → z < N) :
    ACalls Try.prog 89 [.agg (sqS N t), .agg [(0, .bools 10 m)]] [] (fun v ms ns => v = .b (grpB t (fun z => m.getD z false)) ∧ ms = [] ∧ ns = []) := by
  have hN := hs.le
  have hLl := memL_len (p := fun z => m.getD z false) (k := 10)
  have hget := fun i => memL_el (p := fun z => m.getD z false) (n := 10) (i := i)
  have hat := fun a h => memL_at (p := fun z => m.getD z false) (n := 10) (a := a) h (by have := hlt a h; omega)
  have hT := l05Told_ok m hm
  generalize hL : memL (fun z => m.getD z false) 10 = L at hT hLl hget hat
  have hel : ∀ i, i < L.length → L.getD (0 + i * 1) 0 = ((el L i : Nat) : Int) ∧ m.getD (el L i) false = true ∧ el L i < N := fun i hi => ⟨(hget i hi).1, (hget i hi).2.1, hlt _ (hget i hi).2.1⟩
  refine acalls_of_body mix Try.func89 rfl fok89 (Nat.le_of_ble_eq_true rfl) ?_
  unfold abody
  simp only [absE, absL, absF, reduceCtorEq, ↓reduceIte, Nat.reduceEqDiff, Nat.reduceAdd, Nat.reduceLT, Nat.reduceMul, Nat.reduceSub, Nat.reduceLeDiff, Int.reduceLT, Int.reduceLE, Int.reduceEq, Option.isSome_some, implies_true, false_implies, Prod.mk.injEq, ne_eq, not_false_eq_true, not_true_eq_false, ge_iff_le, gt_iff_lt, Int.toNat_natCast, Int.reduceToNat, Int.cast_ofNat_Int, Int.natCast_nonneg, Try.f89]
  refine CallsVia.none hT ?_
  rintro _ _ _ ⟨rfl, rfl, rfl⟩
  simp only [absE, absL, absF, reduceCtorEq, ↓reduceIte, Nat.reduceEqDiff, Nat.reduceAdd, Nat.reduceLT, Nat.reduceMul, Nat.reduceSub, Nat.reduceLeDiff, Int.reduceLT, Int.reduceLE, Int.reduceEq, Option.isSome_some, implies_true, false_implies, Prod.mk.injEq, ne_eq, not_false_eq_true, not_true_eq_false, ge_iff_le, gt_iff_lt, Int.toNat_natCast, Int.reduceToNat, Int.cast_ofNat_Int, Int.natCast_nonneg]
  refine awpLoop.intro (fun i : Nat => [(2, .ref (.ptr 1 0 0 0)), (3, .ref (.ptr 2 0 0 0)), (5, .ref (.sl 5 0 0 0 L.length 1)), (6, .i .i64 i)]) (fun i => ⟨[], [((1, 0), .lv true (sqS N t)), ((2, 0), .lv true ([(0, .bools 10 m)])), ((5, 0), .lv true ([(0, .ints .i64 L.length L)]))], 8⟩)
    (fun i => i ≤ L.length ∧ ∀ a, a < i → ∀ b c, b < L.length → c < L.length → assoc3 t (el L a) (el L b) (el L c) = true) (fun i => L.length - i) 0 ⟨by omega, fun j hj => absurd hj (by omega)⟩ ⟨[((1,0),(1,0)), ((2,0),(2,0)), ((5,0),(5,0))], rfl, ?_, ?_⟩ ?_
  · simp [wkEnv, lk, renV, renAt, renTo]
  · simp [wkMem, wkLoc, Mem.get, assoc, renBlk, renSegs, renSg, renTo]
  · rintro i ⟨hi, hp⟩
    by_cases h : (i : Int) < L.length
    · have w := wrap_i64s (show i < 2 ^ 62 by omega)
      simp only [absE, absL, absF, reduceCtorEq, ↓reduceIte, Nat.reduceEqDiff, Nat.reduceAdd, Nat.reduceLT, Nat.reduceMul, Nat.reduceSub, Nat.reduceLeDiff, Int.reduceLT, Int.reduceLE, Int.reduceEq, Option.isSome_some, implies_true, false_implies, Prod.mk.injEq, ne_eq, not_false_eq_true, not_true_eq_false, ge_iff_le, gt_iff_lt, Int.toNat_natCast, Int.reduceToNat, Int.cast_ofNat_Int, Int.natCast_nonneg, h]
      refine awpLoop.intro (fun j : Nat => [(2, .ref (.ptr 1 0 0 0)), (3, .ref (.ptr 2 0 0 0)), (5, .ref (.sl 5 0 0 0 L.length 1)), (6, .i .i64 i), (7, .i .i64 j)]) (fun j => ⟨[], [((1, 0), .lv true (sqS N t)), ((2, 0), .lv true ([(0, .bools 10 m)])), ((5, 0), .lv true ([(0, .ints .i64 L.length L)]))], 13⟩)
        (fun j => j ≤ L.length ∧ ∀ b, b < j → ∀ c, c < L.length → assoc3 t (el L i) (el L b) (el L c) = true) (fun j => L.length - j) 0 ⟨by omega, fun j hj => absurd hj (by omega)⟩ ⟨[((1,0),(1,0)), ((2,0),(2,0)), ((5,0),(5,0))], rfl, ?_, ?_⟩ ?_
      · simp [wkEnv, lk, renV, renAt, renTo]
      · simp [wkMem, wkLoc, Mem.get, assoc, renBlk, renSegs, renSg, renTo]
      · rintro j ⟨hj, hq⟩
        by_cases h' : (j : Int) < L.length
        · have w' := wrap_i64s (show j < 2 ^ 62 by omega)
          simp only [absE, absL, absF, reduceCtorEq, ↓reduceIte, Nat.reduceEqDiff, Nat.reduceAdd, Nat.reduceLT, Nat.reduceMul, Nat.reduceSub, Nat.reduceLeDiff, Int.reduceLT, Int.reduceLE, Int.reduceEq, Option.isSome_some, implies_true, false_implies, Prod.mk.injEq, ne_eq, not_false_eq_true, not_true_eq_false, ge_iff_le, gt_iff_lt, Int.toNat_natCast, Int.reduceToNat, Int.cast_ofNat_Int, Int.natCast_nonneg, h']
          refine awpLoop.intro (fun k : Nat => [(2, .ref (.ptr 1 0 0 0)), (3, .ref (.ptr 2 0 0 0)), (5, .ref (.sl 5 0 0 0 L.length 1)), (6, .i .i64 i), (7, .i .i64 j), (8, .i .i64 k)]) (fun k => ⟨[], [((1, 0), .lv true (sqS N t)), ((2, 0), .lv true ([(0, .bools 10 m)])), ((5, 0), .lv true ([(0, .ints .i64 L.length L)]))], 18⟩)
            (fun k => k ≤ L.length ∧ ∀ c, c < k → assoc3 t (el L i) (el L j) (el L c) = true) (fun k => L.length - k) 0 ⟨by omega, fun j hj => absurd hj (by omega)⟩ ⟨[((1,0),(1,0)), ((2,0),(2,0)), ((5,0),(5,0))], rfl, ?_, ?_⟩ ?_
          · simp [wkEnv, lk, renV, renAt, renTo]
          · simp [wkMem, wkLoc, Mem.get, assoc, renBlk, renSegs, renSg, renTo]
          · rintro k ⟨hk, hr⟩
            by_cases h3 : (k : Int) < L.length
            · have w3 := wrap_i64s (show k < 2 ^ 62 by omega)
              obtain ⟨a1, a0, a2⟩ := hel i (by omega)
              obtain ⟨b1, b0, b2⟩ := hel j (by omega)
              obtain ⟨c1, c0, c2⟩ := hel k (by omega)
              generalize el L i = x at a0 a1 a2 hr hq ⊢
              generalize el L j = y at b0 b1 b2 hr ⊢
              have v1 : 0 + i * 1 < L.length := by omega
              have v2 : 0 + j * 1 < L.length := by omega
              have v3 : 0 + k * 1 < L.length := by omega
              have hz : el L k = el L k := rfl
              have j1 := hs.cl_lt a2 b2
              have j2 := hs.cl_lt b2 c2
              have i1 : (x : Int) < 10 := by omega
              have i2 : (y : Int) < 10 := by omega
              have i3 : ((el L k : Nat) : Int) < 10 := by omega
              have i4 : (cl t x y : Int) < 10 := by omega
              have i5 : (cl t y (el L k) : Int) < 10 := by omega
              have u1 : 0 + x * 10 + y * 1 < 100 := by omega
              have u2 : 0 + y * 10 + el L k * 1 < 100 := by omega
              have u3 : 0 + cl t x y * 10 + el L k * 1 < 100 := by omega
              have u4 : 0 + x * 10 + cl t y (el L k) * 1 < 100 := by omega
              have k1 := sq_colget ht x y
              have k2 := sq_colget ht y (el L k)
              have k3 := sq_colget ht (cl t x y) (el L k)
              have k4 := sq_colget ht x (cl t y (el L k))
              by_cases hc : cl t (cl t x y) (el L k) = cl t x (cl t y (el L k))
              · have g : (cl t (cl t x y) (el L k) : Int) = cl t x (cl t y (el L k)) := by omega
                simp only [absE, absL, absF, reduceCtorEq, ↓reduceIte, Nat.reduceEqDiff, Nat.reduceAdd, Nat.reduceLT, Nat.reduceMul, Nat.reduceSub, Nat.reduceLeDiff, Int.reduceLT, Int.reduceLE, Int.reduceEq, Option.isSome_some, implies_true, false_implies, Prod.mk.injEq, ne_eq, not_false_eq_true, not_true_eq_false, ge_iff_le, gt_iff_lt, Int.toNat_natCast, Int.reduceToNat, Int.cast_ofNat_Int, Int.natCast_nonneg, h, h', h3, v1, v2, v3, a1, b1, c1, i1, i2, i3, i4, i5, u1, u2, u3, u4, k1, k2, k3, k4, g]
                refine LoopNext.intro (k + 1) ⟨by omega, fun c hc' => ?_⟩ (by omega) ⟨[((1,0),(1,0)), ((2,0),(2,0)), ((5,0),(5,0))], rfl, ?_, ?_⟩
                · by_cases ej : c = k
                  · subst ej; exact assoc3_true hc
                  · exact hr c (by omega)
                · simp [wkEnv, lk, renV, renAt, renTo, w3]
                · simp [wkMem, wkLoc, Mem.get, assoc, renBlk, renSegs, renSg, renTo, w3]
              · have g : ¬(cl t (cl t x y) (el L k) : Int) = cl t x (cl t y (el L k)) := by omega
                simp only [absE, absL, absF, reduceCtorEq, ↓reduceIte, Nat.reduceEqDiff, Nat.reduceAdd, Nat.reduceLT, Nat.reduceMul, Nat.reduceSub, Nat.reduceLeDiff, Int.reduceLT, Int.reduceLE, Int.reduceEq, Option.isSome_some, implies_true, false_implies, Prod.mk.injEq, ne_eq, not_false_eq_true, not_true_eq_false, ge_iff_le, gt_iff_lt, Int.toNat_natCast, Int.reduceToNat, Int.cast_ofNat_Int, Int.natCast_nonneg, h, h', h3, v1, v2, v3, a1, b1, c1, i1, i2, i3, i4, i5, u1, u2, u3, u4, k1, k2, k3, k4, g, Try.results89]
                have hf : grpB t (fun z => m.getD z false) = false := grpB_false fun hu => hc (of_decide_eq_true (hu x y (el L k) a0 b0 c0))
                exact ⟨[], by simp, by simp, by simp [renV, renBlk, renSegs, renSg, hf, -List.getD_eq_getElem?_getD]⟩
            · simp only [absE, absL, absF, reduceCtorEq, ↓reduceIte, Nat.reduceEqDiff, Nat.reduceAdd, Nat.reduceLT, Nat.reduceMul, Nat.reduceSub, Nat.reduceLeDiff, Int.reduceLT, Int.reduceLE, Int.reduceEq, Option.isSome_some, implies_true, false_implies, Prod.mk.injEq, ne_eq, not_false_eq_true, not_true_eq_false, ge_iff_le, gt_iff_lt, Int.toNat_natCast, Int.reduceToNat, Int.cast_ofNat_Int, Int.natCast_nonneg, h3, w']
              refine LoopNext.intro (j + 1) ⟨by omega, fun b hb => ?_⟩ (by omega) ⟨[((1,0),(1,0)), ((2,0),(2,0)), ((5,0),(5,0))], rfl, ?_, ?_⟩
              · by_cases ej : b = j
                · subst ej; exact fun c hc => hr c (by omega)
                · exact hq b (by omega)
              · simp [wkEnv, lk, renV, renAt, renTo]
              · simp [wkMem, wkLoc, Mem.get, assoc, renBlk, renSegs, renSg, renTo]
        · simp only [absE, absL, absF, reduceCtorEq, ↓reduceIte, Nat.reduceEqDiff, Nat.reduceAdd, Nat.reduceLT, Nat.reduceMul, Nat.reduceSub, Nat.reduceLeDiff, Int.reduceLT, Int.reduceLE, Int.reduceEq, Option.isSome_some, implies_true, false_implies, Prod.mk.injEq, ne_eq, not_false_eq_true, not_true_eq_false, ge_iff_le, gt_iff_lt, Int.toNat_natCast, Int.reduceToNat, Int.cast_ofNat_Int, Int.natCast_nonneg, h', w]
          refine LoopNext.intro (i + 1) ⟨by omega, fun a ha => ?_⟩ (by omega) ⟨[((1,0),(1,0)), ((2,0),(2,0)), ((5,0),(5,0))], rfl, ?_, ?_⟩
          · by_cases ej : a = i
            · subst ej; exact fun b c hb hc => hq b (by omega) c hc
            · exact hp a (by omega)
          · simp [wkEnv, lk, renV, renAt, renTo]
          · simp [wkMem, wkLoc, Mem.get, assoc, renBlk, renSegs, renSg, renTo]
    · simp only [absE, absL, absF, reduceCtorEq, ↓reduceIte, Nat.reduceEqDiff, Nat.reduceAdd, Nat.reduceLT, Nat.reduceMul, Nat.reduceSub, Nat.reduceLeDiff, Int.reduceLT, Int.reduceLE, Int.reduceEq, Option.isSome_some, implies_true, false_implies, Prod.mk.injEq, ne_eq, not_false_eq_true, not_true_eq_false, ge_iff_le, gt_iff_lt, Int.toNat_natCast, Int.reduceToNat, Int.cast_ofNat_Int, Int.natCast_nonneg, h, Try.results89]
      have hf : grpB t (fun z => m.getD z false) = true := grpB_true fun a b c ha hb hc => by
        obtain ⟨i1, h1, rfl⟩ := hat a ha
        obtain ⟨i2, h2, rfl⟩ := hat b hb
        obtain ⟨i3, h3, rfl⟩ := hat c hc
        exact hp i1 (by omega) i2 i3 h2 h3
      exact ⟨[], by simp, by simp, by simp [renV, renBlk, renSegs, renSg, hf, -List.getD_eq_getElem?_getD]⟩

end Go.Proofs.Ytcaadjjgggjefaa
