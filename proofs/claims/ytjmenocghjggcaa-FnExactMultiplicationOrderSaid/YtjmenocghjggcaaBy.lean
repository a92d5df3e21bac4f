/-
Contracts of functions of the given program, by the abstract walk.
-/
import Derived.Test.YtjmenocghjggcaaAbsY
import Derived.Test.YtjmenocghjggcaaBx
namespace Go.Proofs.Ytjmenocghjggcaa
open Go Go.Abs
set_option linter.unusedVariables false
set_option linter.unusedSectionVars false
set_option linter.unusedSimpArgs false
set_option maxRecDepth 100000
/-! order, multiplications, impl.MultiplicationOrder -/
theorem getD_subb {a : List Bool} {off k j : Nat} (h : j < k) : ((a.drop off).take k).getD j false = a.getD (off + j) false := by
  simp [h, List.getElem?_take]
theorem orderG_ok (N : Nat) (hN : N ≤ 10) (As : List Atom) (hAs : ∀ σ : Ren, As.map (renAt σ) = As) (st : GS) :
    ACalls Try.prog 85 [.ref (.ptr 0 0 0 0)] [.lv true (grS N As st.b st.h)] (fun v ms ns => v = .i .i64 (ordF (hasG st) N : Nat) ∧ ms = [.lv true (grS N As st.b st.h)] ∧ ns = []) := by
  unfold grS
  refine acalls_of_body mix Try.func85 rfl fok85 (Nat.le_of_ble_eq_true rfl) ?_
  unfold abody
  simp only [absE, absL, absF, reduceCtorEq, ↓reduceIte, Nat.reduceEqDiff, Nat.reduceAdd, Nat.reduceLT, Nat.reduceMul, Nat.reduceSub, Nat.reduceLeDiff, Int.reduceLT, Int.reduceLE, Int.reduceEq, Option.isSome_some, implies_true, false_implies, Prod.mk.injEq, ne_eq, not_false_eq_true, not_true_eq_false, ge_iff_le, gt_iff_lt, Int.toNat_natCast, Int.reduceToNat, Int.cast_ofNat_Int, Int.natCast_nonneg, Try.f85]
  refine awpLoop.intro (fun k : Nat => [(0, .ref (.ptr 0 0 0 0)), (3, .i .i64 (ordF (hasG st) k : Nat)), (11, .i .i64 N), (12, .i .i64 k)]) (fun k => ⟨[.lv true [(0, .ints .i64 1 [(N : Int)]), (1, .cells 10 As), (11, .ints .u8 1000 st.b), (1011, .bools 100 st.h)]], [], 8⟩)
    (fun k => k ≤ N) (fun k => N - k) 0 (by omega) ⟨[], rfl, ?_, ?_⟩ ?_
  · simp [wkEnv, lk, renV, renAt, renTo, ordF]
  · simp [wkMem, wkLoc, renBlk, renSegs, renSg, hAs]
  · intro k hk
    by_cases h : (k : Int) < N
    · have w := wrap_i64s (show k < 2 ^ 62 by omega)
      have k10 : (k : Int) < 10 := by omega
      have v1 : 0 + k * 10 + 10 ≤ 100 := by omega
      simp only [absE, absL, absF, reduceCtorEq, ↓reduceIte, Nat.reduceEqDiff, Nat.reduceAdd, Nat.reduceLT, Nat.reduceMul, Nat.reduceSub, Nat.reduceLeDiff, Int.reduceLT, Int.reduceLE, Int.reduceEq, Option.isSome_some, implies_true, false_implies, Prod.mk.injEq, ne_eq, not_false_eq_true, not_true_eq_false, ge_iff_le, gt_iff_lt, Int.toNat_natCast, Int.reduceToNat, Int.cast_ofNat_Int, Int.natCast_nonneg, h, k10, v1]
      refine awpLoop.intro (fun x : Nat => [(0, .ref (.ptr 0 0 0 0)), (3, .i .i64 (ordF (hasG st) k : Nat)), (5, .i .i64 (cntV (hasG st k) x : Nat)), (11, .i .i64 N), (12, .i .i64 k), (20, .agg [(0, .bools 10 ((st.h.drop (0 + k * 10)).take 10))]), (21, .i .i64 x)]) (fun x => ⟨[.lv true [(0, .ints .i64 1 [(N : Int)]), (1, .cells 10 As), (11, .ints .u8 1000 st.b), (1011, .bools 100 st.h)]], [], 19⟩)
        (fun x => x ≤ 10) (fun x => 10 - x) 0 (by omega) ⟨[], rfl, ?_, ?_⟩ ?_
      · simp [wkEnv, lk, renV, renAt, renTo, renSegs, renSg, cntV]
      · simp [wkMem, wkLoc, renBlk, renSegs, renSg, hAs]
      · intro x hx
        have hcl := cntV_le (f := hasG st k) (x := x)
        by_cases h2 : (x : Int) < 10
        · have wx := wrap_i64s (show x < 2 ^ 62 by omega)
          have wc := wrap_i64s (show cntV (hasG st k) x < 2 ^ 62 by omega)
          have v2 : x < 10 := by omega
          have eh : ((st.h.drop (0 + k * 10)).take 10).getD x false = hasG st k x := by
            rw [getD_subb v2]
            unfold hasG
            rw [Nat.mul_one]
          have hc1 : cntV (hasG st k) (x + 1) = cntV (hasG st k) x + if hasG st k x = true then 1 else 0 := rfl
          simp only [absE, absL, absF, reduceCtorEq, ↓reduceIte, Nat.reduceEqDiff, Nat.reduceAdd, Nat.reduceLT, Nat.reduceMul, Nat.reduceSub, Nat.reduceLeDiff, Int.reduceLT, Int.reduceLE, Int.reduceEq, Option.isSome_some, implies_true, false_implies, Prod.mk.injEq, ne_eq, not_false_eq_true, not_true_eq_false, ge_iff_le, gt_iff_lt, Int.toNat_natCast, Int.reduceToNat, Int.cast_ofNat_Int, Int.natCast_nonneg, h2, v2, eh]
          cases hh : hasG st k x
          · simp only [absE, absL, absF, reduceCtorEq, ↓reduceIte, Nat.reduceEqDiff, Nat.reduceAdd, Nat.reduceLT, Nat.reduceMul, Nat.reduceSub, Nat.reduceLeDiff, Int.reduceLT, Int.reduceLE, Int.reduceEq, Option.isSome_some, implies_true, false_implies, Prod.mk.injEq, ne_eq, not_false_eq_true, not_true_eq_false, ge_iff_le, gt_iff_lt, Int.toNat_natCast, Int.reduceToNat, Int.cast_ofNat_Int, Int.natCast_nonneg]
            rw [hh, if_neg (by simp), Nat.add_zero] at hc1
            refine LoopNext.intro (x + 1) (by omega) (by omega) ⟨[], rfl, ?_, ?_⟩
            · simp [wkEnv, lk, renV, renAt, renTo, renSegs, renSg, wx, hc1]
            · simp [wkMem, wkLoc, renBlk, renSegs, renSg, hAs]
          · simp only [absE, absL, absF, reduceCtorEq, ↓reduceIte, Nat.reduceEqDiff, Nat.reduceAdd, Nat.reduceLT, Nat.reduceMul, Nat.reduceSub, Nat.reduceLeDiff, Int.reduceLT, Int.reduceLE, Int.reduceEq, Option.isSome_some, implies_true, false_implies, Prod.mk.injEq, ne_eq, not_false_eq_true, not_true_eq_false, ge_iff_le, gt_iff_lt, Int.toNat_natCast, Int.reduceToNat, Int.cast_ofNat_Int, Int.natCast_nonneg]
            rw [hh, if_pos rfl] at hc1
            refine LoopNext.intro (x + 1) (by omega) (by omega) ⟨[], rfl, ?_, ?_⟩
            · simp [wkEnv, lk, renV, renAt, renTo, renSegs, renSg, wx, wc, hc1]
            · simp [wkMem, wkLoc, renBlk, renSegs, renSg, hAs]
        · obtain rfl : x = 10 := by omega
          have ho : ordF (hasG st) k * cntV (hasG st k) 10 ≤ 10000000000 := ordF_small (has := hasG st) (k := k + 1) (by omega)
          have wm : IntKind.i64.wrap ((ordF (hasG st) k : Int) * (cntV (hasG st k) 10 : Int)) = ((ordF (hasG st) (k + 1) : Nat) : Int) := by
            rw [← Int.natCast_mul]
            exact wrap_i64n (by omega)
          simp only [absE, absL, absF, reduceCtorEq, ↓reduceIte, Nat.reduceEqDiff, Nat.reduceAdd, Nat.reduceLT, Nat.reduceMul, Nat.reduceSub, Nat.reduceLeDiff, Int.reduceLT, Int.reduceLE, Int.reduceEq, Option.isSome_some, implies_true, false_implies, Prod.mk.injEq, ne_eq, not_false_eq_true, not_true_eq_false, ge_iff_le, gt_iff_lt, Int.toNat_natCast, Int.reduceToNat, Int.cast_ofNat_Int, Int.natCast_nonneg, h2]
          refine LoopNext.intro (k + 1) (by omega) (by omega) ⟨[], rfl, ?_, ?_⟩
          · simp [wkEnv, lk, renV, renAt, renTo, renSegs, renSg, w, wm]
          · simp [wkMem, wkLoc, renBlk, renSegs, renSg, hAs]
    · obtain rfl : N = k := by omega
      simp only [absE, absL, absF, reduceCtorEq, ↓reduceIte, Nat.reduceEqDiff, Nat.reduceAdd, Nat.reduceLT, Nat.reduceMul, Nat.reduceSub, Nat.reduceLeDiff, Int.reduceLT, Int.reduceLE, Int.reduceEq, Option.isSome_some, implies_true, false_implies, Prod.mk.injEq, ne_eq, not_false_eq_true, not_true_eq_false, ge_iff_le, gt_iff_lt, Int.toNat_natCast, Int.reduceToNat, Int.cast_ofNat_Int, Int.natCast_nonneg, h, Try.results85]
      exact ⟨[], by simp, by simp, by simp [renV], by simp [renBlk, renSegs, renSg, hAs], by simp⟩
def locN (σ : Ren) (n : Nat) : Nat → List Blk → LocB → LocB
  | _, [], l => l
  | j, b :: r, l => locN σ n (j + 1) r (((n, j), renBlk σ b) :: l)
theorem upd_locN {σ : Ren} {n : Nat} (hn : n ≠ 0) : ∀ {T : List Blk} {j : Nat} {args : List Blk} {loc : LocB} {n' : Nat}, (Mem.mk args loc n').upd (newUps σ n j T) = ⟨args, locN σ n j T loc, n'⟩
  | [], _, _, _, _ => rfl
  | b :: r, j, args, loc, n' => by
    rw [newUps, Mem.upd]
    unfold Mem.put
    rw [if_neg hn]
    exact upd_locN hn
theorem assoc_locN {σ : Ren} {n a k : Nat} : ∀ {T : List Blk} {j : Nat} {loc : LocB}, (a = n → k < j) → assoc (locN σ n j T loc) a k = assoc loc a k
  | [], _, _, _ => rfl
  | b :: r, j, loc, h => by
    rw [locN, assoc_locN fun e => by have := h e; omega, assoc, if_neg]
    rintro ⟨e1, e2⟩
    simp only at e1 e2
    have := h e1.symm
    omega
theorem multiplications_ok (N : Nat) (t : List Int) (ht : Bytes 100 t) (hs : SqP N t) :
    ACalls Try.prog 54 [.agg (sqS N t)] [] (fun v ms ns => v = .i .i64 (ordN N (bothL N t) : Nat) ∧ ms = [] ∧ ns = []) := by
  have hN := hs.le
  have h1N := hs.pos
  have hL := bothL_vp ht hs
  have hl : (bothL N t).length ≤ 1000 := by rw [bothL_len]; omega
  have hO := (groupF_orb hN h1N hL).ord
  rw [← hO]
  refine acalls_of_body mix Try.func54 rfl fok54 (Nat.le_of_ble_eq_true rfl) ?_
  unfold abody
  simp only [absE, absL, absF, reduceCtorEq, ↓reduceIte, Nat.reduceEqDiff, Nat.reduceAdd, Nat.reduceLT, Nat.reduceMul, Nat.reduceSub, Nat.reduceLeDiff, Int.reduceLT, Int.reduceLE, Int.reduceEq, Option.isSome_some, implies_true, false_implies, Prod.mk.injEq, ne_eq, not_false_eq_true, not_true_eq_false, ge_iff_le, gt_iff_lt, Int.toNat_natCast, Int.reduceToNat, Int.cast_ofNat_Int, Int.natCast_nonneg, Try.f54]
  refine CallsX.none (implRows_ok N t ht hs) ?_
  simp only [absE, absL, absF, reduceCtorEq, ↓reduceIte, Nat.reduceEqDiff, Nat.reduceAdd, Nat.reduceLT, Nat.reduceMul, Nat.reduceSub, Nat.reduceLeDiff, Int.reduceLT, Int.reduceLE, Int.reduceEq, Option.isSome_some, implies_true, false_implies, Prod.mk.injEq, ne_eq, not_false_eq_true, not_true_eq_false, ge_iff_le, gt_iff_lt, Int.toNat_natCast, Int.reduceToNat, Int.cast_ofNat_Int, Int.natCast_nonneg, plB, rowsL_len]
  repeat refine And.intro (by decide +kernel) ?_
  refine CallsX.none (implColumns_ok N t ht hs) ?_
  simp only [absE, absL, absF, reduceCtorEq, ↓reduceIte, Nat.reduceEqDiff, Nat.reduceAdd, Nat.reduceLT, Nat.reduceMul, Nat.reduceSub, Nat.reduceLeDiff, Int.reduceLT, Int.reduceLE, Int.reduceEq, Option.isSome_some, implies_true, false_implies, Prod.mk.injEq, ne_eq, not_false_eq_true, not_true_eq_false, ge_iff_le, gt_iff_lt, Int.toNat_natCast, Int.reduceToNat, Int.cast_ofNat_Int, Int.natCast_nonneg, plB, rowsL_len, colsL_len]
  repeat refine And.intro (by decide +kernel) ?_
  repeat first | refine And.intro (by omega) ?_ | refine And.intro (by decide +kernel) ?_
  have e : (rowsL t N).flatten ++ (colsL N t N).flatten = (bothL N t).flatten := by simp [bothL]
  have e2 : N * 10 + N * 10 = (bothL N t).length * 10 := by rw [bothL_len]; omega
  have e3 : N + N = (bothL N t).length := bothL_len.symm
  rw [e, e2, e3]
  refine CallsX.args [(7, 0)] (groupOf_ok N hN h1N (bothL N t) hL hl) (by simp) (by simp [Mem.get, assoc]) rfl (by simp [argBlks, Mem.get, assoc, plB, renBlk, renSegs, renSg]) ?_
  generalize groupF N (bothL N t) (initF N N) = S
  have hAsT : ∀ σ : Ren, ((List.range 10).map fun k => if neB S.gl k = true then Atom.top else .nils).map (renAt σ) = (List.range 10).map fun k => if neB S.gl k = true then Atom.top else .nils := fun σ => by
    rw [List.map_map]
    refine List.map_congr_left fun k _ => ?_
    show renAt σ (if neB S.gl k = true then Atom.top else .nils) = _
    split <;> rfl
  have hord := orderG_ok N hN _ hAsT S
  have eN : grpNs N S = grB N (fun k => (1, 1 + rkF (neB S.gl) k)) S :: (fl (neB S.gl)).map fun k => plB (S.gl k) := rfl
  have eG : ∀ σ : Ren, renBlk σ (grB N (fun k => (1, 1 + rkF (neB S.gl) k)) S) = .lv true (grS N ((cellsN (fun k => (1, 1 + rkF (neB S.gl) k)) S.gl).map (renAt σ)) S.b S.h) := fun σ => rfl
  have hU := @upd_locN (renOut 10 [(7, 0)]) 10 (by decide) ((fl (neB S.gl)).map fun k => plB (S.gl k)) 1
  simp only [absE, absL, absF, reduceCtorEq, ↓reduceIte, Nat.reduceEqDiff, Nat.reduceAdd, Nat.reduceLT, Nat.reduceMul, Nat.reduceSub, Nat.reduceLeDiff, Int.reduceLT, Int.reduceLE, Int.reduceEq, Option.isSome_some, implies_true, false_implies, Prod.mk.injEq, ne_eq, not_false_eq_true, not_true_eq_false, ge_iff_le, gt_iff_lt, Int.toNat_natCast, Int.reduceToNat, Int.cast_ofNat_Int, Int.natCast_nonneg, plB_ren, eN, eG, hU]
  refine And.intro (chk_g (l := [(6, false), (5, true), (4, false), (3, false), (2, false), (1, false), (0, false)]) rfl (by decide +kernel)) ?_
  have hcells : (((cellsN (fun k => (1, 1 + rkF (neB S.gl) k)) S.gl).map (renAt (renOut 10 [(7, 0)]))).map (renAt (renIn [(10, 0)]))) = (List.range 10).map fun k => if neB S.gl k = true then Atom.top else .nils := by
    unfold cellsN
    rw [List.map_map, List.map_map]
    refine List.map_congr_left fun k _ => ?_
    show renAt (renIn [(10, 0)]) (renAt (renOut 10 [(7, 0)]) (if neB S.gl k = true then _ else _)) = _
    split
    · have e4 : ¬ (0 : Nat) = 1 + rkF (neB S.gl) k := by omega
      simp [renAt, renOut, renIn, idx, e4]
    · rfl
  refine CallsX.args [(10, 0)] hord (by simp) (fun p hp => ?_) (by simp [renVs, renV, renAt, renIn, idx]) ?_ ?_
  · rw [List.mem_singleton] at hp
    subst hp
    rw [Mem.get, if_neg (by decide)]
    show assoc (locN _ 10 1 _ _) 10 0 ≠ _
    rw [assoc_locN (fun _ => by decide)]
    simp [assoc]
  · show [renBlk (renIn [(10, 0)]) (assoc (locN _ 10 1 _ _) 10 0)] = _
    rw [assoc_locN (fun _ => by decide)]
    simp only [assoc, and_self, if_true, renBlk, grS, renSegs, renSg, hcells]
  · refine And.intro (chk_g (l := [(7, false), (6, false), (5, true), (4, false), (3, false), (2, false), (1, false), (0, false)]) rfl (by decide +kernel)) ?_
    simp only [absE, absL, absF, reduceCtorEq, ↓reduceIte, Nat.reduceEqDiff, Nat.reduceAdd, Nat.reduceLT, Nat.reduceMul, Nat.reduceSub, Nat.reduceLeDiff, Int.reduceLT, Int.reduceLE, Int.reduceEq, Option.isSome_some, implies_true, false_implies, Prod.mk.injEq, ne_eq, not_false_eq_true, not_true_eq_false, ge_iff_le, gt_iff_lt, Int.toNat_natCast, Int.reduceToNat, Int.cast_ofNat_Int, Int.natCast_nonneg, Try.results54]
    exact ⟨[], by simp, by simp, by simp [renV], by simp, by simp⟩
theorem implMul_ok (n : Int) (t : List Int) (ht : Bytes 100 t) : ACalls Try.prog 23 [.agg (sqS n t)] [] (fun v ms ns => v = mulR n t ∧ ms = [] ∧ ns = []) := by
  by_cases h : SqP n t
  · have hb := sqB_true h
    obtain ⟨N, rfl⟩ : ∃ N : Nat, n = N := ⟨n.toNat, by have := h.1; omega⟩
    have e : mulR N t = .tup [.i .i64 (ordN N (bothL N t) : Nat), .i .i64 0] := by unfold mulR; rw [if_pos hb, Int.toNat_natCast]
    rw [e]
    refine acalls_of_body mix Try.func23 rfl fok23 (Nat.le_of_ble_eq_true rfl) ?_
    unfold abody
    simp only [absE, absL, absF, reduceCtorEq, ↓reduceIte, Nat.reduceEqDiff, Nat.reduceAdd, Nat.reduceLT, Nat.reduceMul, Nat.reduceSub, Nat.reduceLeDiff, Int.reduceLT, Int.reduceLE, Int.reduceEq, Option.isSome_some, implies_true, false_implies, Prod.mk.injEq, ne_eq, not_false_eq_true, not_true_eq_false, ge_iff_le, gt_iff_lt, Int.toNat_natCast, Int.reduceToNat, Int.cast_ofNat_Int, Int.natCast_nonneg, Try.f23]
    refine CallsVia.none (isSquare_ok N t ht) ?_
    rintro _ _ _ ⟨rfl, rfl, rfl⟩
    simp only [absE, absL, absF, reduceCtorEq, ↓reduceIte, Nat.reduceEqDiff, Nat.reduceAdd, Nat.reduceLT, Nat.reduceMul, Nat.reduceSub, Nat.reduceLeDiff, Int.reduceLT, Int.reduceLE, Int.reduceEq, Option.isSome_some, implies_true, false_implies, Prod.mk.injEq, ne_eq, not_false_eq_true, not_true_eq_false, ge_iff_le, gt_iff_lt, Int.toNat_natCast, Int.reduceToNat, Int.cast_ofNat_Int, Int.natCast_nonneg, hb]
    refine CallsVia.none (multiplications_ok N t ht h) ?_
    rintro _ _ _ ⟨rfl, rfl, rfl⟩
    simp only [absE, absL, absF, reduceCtorEq, ↓reduceIte, Nat.reduceEqDiff, Nat.reduceAdd, Nat.reduceLT, Nat.reduceMul, Nat.reduceSub, Nat.reduceLeDiff, Int.reduceLT, Int.reduceLE, Int.reduceEq, Option.isSome_some, implies_true, false_implies, Prod.mk.injEq, ne_eq, not_false_eq_true, not_true_eq_false, ge_iff_le, gt_iff_lt, Int.toNat_natCast, Int.reduceToNat, Int.cast_ofNat_Int, Int.natCast_nonneg, Try.results23]
    exact ⟨[], by simp, by simp, by simp [renV, renVs], by simp, by simp⟩
  · have hb := sqB_false h
    have e : mulR n t = .tup [.i .i64 0, .i .i64 1] := by unfold mulR; rw [hb, if_neg (by simp)]
    rw [e]
    refine acalls_of_body mix Try.func23 rfl fok23 (Nat.le_of_ble_eq_true rfl) ?_
    unfold abody
    simp only [absE, absL, absF, reduceCtorEq, ↓reduceIte, Nat.reduceEqDiff, Nat.reduceAdd, Nat.reduceLT, Nat.reduceMul, Nat.reduceSub, Nat.reduceLeDiff, Int.reduceLT, Int.reduceLE, Int.reduceEq, Option.isSome_some, implies_true, false_implies, Prod.mk.injEq, ne_eq, not_false_eq_true, not_true_eq_false, ge_iff_le, gt_iff_lt, Int.toNat_natCast, Int.reduceToNat, Int.cast_ofNat_Int, Int.natCast_nonneg, Try.f23]
    refine CallsVia.none (isSquare_ok n t ht) ?_
    rintro _ _ _ ⟨rfl, rfl, rfl⟩
    simp only [absE, absL, absF, reduceCtorEq, ↓reduceIte, Nat.reduceEqDiff, Nat.reduceAdd, Nat.reduceLT, Nat.reduceMul, Nat.reduceSub, Nat.reduceLeDiff, Int.reduceLT, Int.reduceLE, Int.reduceEq, Option.isSome_some, implies_true, false_implies, Prod.mk.injEq, ne_eq, not_false_eq_true, not_true_eq_false, ge_iff_le, gt_iff_lt, Int.toNat_natCast, Int.reduceToNat, Int.cast_ofNat_Int, Int.natCast_nonneg, hb, Try.results23]
    exact ⟨[], by simp, by simp, by simp [renV, renVs, renSegs, renSg]⟩

end Go.Proofs.Ytjmenocghjggcaa
