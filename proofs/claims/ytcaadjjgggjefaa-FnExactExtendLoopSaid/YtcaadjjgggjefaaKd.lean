/-
Contracts of functions of the given program, by the abstract walk.
-/
import Derived.Test.YtcaadjjgggjefaaAbsY
import Derived.Test.YtcaadjjgggjefaaKc
import Derived.Test.YtcaadjjgggjefaaDc
namespace Go.Proofs.Ytcaadjjgggjefaa
open Go Go.Abs
set_option linter.unusedVariables false
set_option linter.unusedSectionVars false
set_option linter.unusedSimpArgs false
set_option maxRecDepth 100000
theorem ms1_len {LL : LLs} : (ms1 LL).length = LL.length + 1 := by simp [ms1, inn_len]
theorem ms1_live {LL : LLs} : ∀ b ∈ ms1 LL, b ≠ .dead := by
  intro b hb
  rcases List.mem_cons.1 hb with rfl | hb
  · simp [ob]
  · obtain ⟨i, _, rfl⟩ := List.mem_map.1 hb; simp [ib]
theorem ms1_st {LL : LLs} : StMs (ms1 LL) := by
  intro σ hσ
  rw [ms1_len] at hσ
  have e2 : renBlk σ (ob 0 1 LL) = ob 0 1 LL := ob_ren fun i hi => hσ (1 + i) (by omega)
  rw [ms1, List.map_cons, inn_ren, e2]
theorem CallsVia.allV {P : Program} {f : FuncId} {vs : List AV} {ms : List Blk} {loc : Loc} {n : Nat} {v : AV} (hl : ∀ b ∈ ms, b ≠ .dead) (hst : StMs ms) (hv : StVs ms vs) (hr : ∀ σ, renV σ v = v)
    (h : ACalls P f vs ms (fun r ms' ns => r = v ∧ ms' = ms ∧ ns = [])) {K : AV → Ups → List Abs.Id → Prop} (hK : ∀ ups rd, (∀ n, (Mem.mk ms loc n).upd ups = ⟨ms, loc, n⟩) → K v ups rd) : CallsVia P f vs ⟨ms, loc, n⟩ K := by
  refine CallsVia.all (R := fun r ns => r = v ∧ ns = []) hl hst hv (h.mono fun r xs ns ⟨a, b, c⟩ => ⟨⟨a, c⟩, b⟩) ?_
  rintro _ _ ups rd ⟨rfl, rfl⟩ hu
  rw [hr]
  simp only [newUps, List.append_nil]
  exact hK ups rd hu
def CocP (N : Nat) (k : Int) (LL : LLs) : Prop := LL.length = N ∧ ∀ x, x < N → (at_ LL x).length = N ∧ ∀ y, y < N → (0 ≤ (at_ LL x).getD y 0 ∧ (at_ LL x).getD y 0 ≤ k - 1) ∧ (x = 0 ∨ y = 0 → (at_ LL x).getD y 0 = 0)
open Classical in
noncomputable def cocB (N : Nat) (k : Int) (LL : LLs) : Bool := decide (CocP N k LL)
theorem cocB_true {N : Nat} {k : Int} {LL : LLs} (h : CocP N k LL) : cocB N k LL = true := by unfold cocB; exact @decide_eq_true _ (_) h
theorem cocB_false {N : Nat} {k : Int} {LL : LLs} (h : ¬CocP N k LL) : cocB N k LL = false := by unfold cocB; exact @decide_eq_false _ (_) h
theorem cocB_iff {N : Nat} {k : Int} {LL : LLs} : cocB N k LL = true ↔ CocP N k LL := by unfold cocB; exact @decide_eq_true_iff _ (_)
theorem isCocycle_ok (N : Nat) (t : List Int) (k : Int) (LL : LLs) (hN : N ≤ 10) (hk : 1 ≤ k ∧ k ≤ 10) (hm : LL.length ≤ 2 ^ 20) :
    ACalls Try.prog 80 [.agg (sqS N t), .i .i64 k, .ref (.sl 0 0 0 0 LL.length 1)] (ms1 LL) (fun v ms ns => v = .b (cocB N k LL) ∧ ms = ms1 LL ∧ ns = []) := by
  have g0 := ms1_0 (LL := LL)
  have hst : ∀ σ : Pairs, (ms1 LL).map (renBlk (renTo σ)) = ms1 LL := fun σ => ms1_ren renTo_zero
  have hfin : (ms1 LL).map (renBlk (renFin [])) = ms1 LL := ms1_ren renFin_zero
  have hk1 : IntKind.i64.wrap (k - 1) = k - 1 := wrap_i64 (by omega) (by omega)
  have hk0 : (0 : Int) ≤ k - 1 := by omega
  refine acalls_of_body mix Try.func80 rfl fok80 (Nat.le_of_ble_eq_true rfl) ?_
  unfold abody
  by_cases hl : LL.length = N
  · have hli : (LL.length : Int) = N := by omega
    simp only [absE, absL, absF, reduceCtorEq, ↓reduceIte, Nat.reduceEqDiff, Nat.reduceAdd, Nat.reduceLT, Nat.reduceMul, Nat.reduceSub, Nat.reduceLeDiff, Int.reduceLT, Int.reduceLE, Int.reduceEq, Option.isSome_some, implies_true, false_implies, Prod.mk.injEq, ne_eq, not_false_eq_true, not_true_eq_false, ge_iff_le, gt_iff_lt, Int.toNat_natCast, Int.reduceToNat, Int.cast_ofNat_Int, Int.natCast_nonneg, hl, hli, Try.f80]
    refine awpLoop.intro (fun x : Nat => [(1, .i .i64 k), (3, .ref (.ptr 1 0 0 0)), (16, .ref (.sl 0 0 0 0 N 1)), (17, .i .i64 N), (18, .i .i64 x)]) (fun x => ⟨ms1 LL, [((1, 0), .lv true (sqS N t))], 11⟩)
      (fun x => x ≤ N ∧ ∀ j, j < x → (at_ LL j).length = N ∧ ∀ y, y < N → (0 ≤ (at_ LL j).getD y 0 ∧ (at_ LL j).getD y 0 ≤ k - 1) ∧ (j = 0 ∨ y = 0 → (at_ LL j).getD y 0 = 0)) (fun x => N - x) 0 ⟨by omega, fun j hj => absurd hj (by omega)⟩ ⟨[((1,0),(1,0))], rfl, ?_, ?_⟩ ?_
    · simp [wkEnv, lk, renV, renAt, renTo]
    · simp only [wkMem, hst]; simp [wkLoc, Mem.get, assoc, renBlk, renSegs, renSg]
    · rintro x ⟨hx, hp⟩
      by_cases h : (x : Int) < N
      · have w := wrap_i64s (show x < 2 ^ 62 by omega)
        have hxl : x < LL.length := by omega
        have v1 : 0 + x * 1 < LL.length := by omega
        have v1' : 0 + x * 1 < N := by omega
        have e1 : (outs 0 1 LL).getD (0 + x * 1) .top = .sl 0 (1 + x) 0 0 (at_ LL x).length 1 := by rw [Nat.zero_add, Nat.mul_one]; exact outs_get hxl
        have q1 : (ms1 LL).getD (1 + x) .dead = .lv true [(0, .ints .i64 (at_ LL x).length (at_ LL x))] := ms1_at hxl
        by_cases h2 : (at_ LL x).length = N
        · have h2i : ((at_ LL x).length : Int) = N := by omega
          simp only [absE, absL, absF, reduceCtorEq, ↓reduceIte, Nat.reduceEqDiff, Nat.reduceAdd, Nat.reduceLT, Nat.reduceMul, Nat.reduceSub, Nat.reduceLeDiff, Int.reduceLT, Int.reduceLE, Int.reduceEq, Option.isSome_some, implies_true, false_implies, Prod.mk.injEq, ne_eq, not_false_eq_true, not_true_eq_false, ge_iff_le, gt_iff_lt, Int.toNat_natCast, Int.reduceToNat, Int.cast_ofNat_Int, Int.natCast_nonneg, h, v1, v1', e1, g0, h2, h2i]
          refine awpLoop.intro (fun y : Nat => [(1, .i .i64 k), (3, .ref (.ptr 1 0 0 0)), (16, .ref (.sl 0 0 0 0 N 1)), (17, .i .i64 N), (18, .i .i64 x), (7, .i .i64 x), (28, .ref (.sl 0 (1 + x) 0 0 N 1)), (29, .i .i64 N), (30, .i .i64 y)]) (fun y => ⟨ms1 LL, [((1, 0), .lv true (sqS N t))], 25⟩)
            (fun y => y ≤ N ∧ ∀ j, j < y → (0 ≤ (at_ LL x).getD j 0 ∧ (at_ LL x).getD j 0 ≤ k - 1) ∧ (x = 0 ∨ j = 0 → (at_ LL x).getD j 0 = 0)) (fun y => N - y) 0 ⟨by omega, fun j hj => absurd hj (by omega)⟩ ⟨[((1,0),(1,0))], rfl, ?_, ?_⟩ ?_
          · simp [wkEnv, lk, renV, renAt, renTo]
          · simp only [wkMem, hst]; simp [wkLoc, Mem.get, assoc, renBlk, renSegs, renSg]
          · rintro y ⟨hy, hq⟩
            by_cases h' : (y : Int) < N
            · have w' := wrap_i64s (show y < 2 ^ 62 by omega)
              have v2 : 0 + y * 1 < (at_ LL x).length := by omega
              have v2' : 0 + y * 1 < N := by omega
              have e2 : (at_ LL x).getD (0 + y * 1) 0 = (at_ LL x).getD y 0 := by rw [Nat.zero_add, Nat.mul_one]
              have bad : ¬((0 ≤ (at_ LL x).getD y 0 ∧ (at_ LL x).getD y 0 ≤ k - 1) ∧ (x = 0 ∨ y = 0 → (at_ LL x).getD y 0 = 0)) → cocB N k LL = false := fun hb => cocB_false fun hc => hb ((hc.2 x (by omega)).2 y (by omega))
              have next : ((0 ≤ (at_ LL x).getD y 0 ∧ (at_ LL x).getD y 0 ≤ k - 1) ∧ (x = 0 ∨ y = 0 → (at_ LL x).getD y 0 = 0)) → ∀ j, j < y + 1 → (0 ≤ (at_ LL x).getD j 0 ∧ (at_ LL x).getD j 0 ≤ k - 1) ∧ (x = 0 ∨ j = 0 → (at_ LL x).getD j 0 = 0) := fun hg j hj => by
                by_cases ej : j = y
                · subst ej; exact hg
                · exact hq j (by omega)
              simp only [absE, absL, absF, reduceCtorEq, ↓reduceIte, Nat.reduceEqDiff, Nat.reduceAdd, Nat.reduceLT, Nat.reduceMul, Nat.reduceSub, Nat.reduceLeDiff, Int.reduceLT, Int.reduceLE, Int.reduceEq, Option.isSome_some, implies_true, false_implies, Prod.mk.injEq, ne_eq, not_false_eq_true, not_true_eq_false, ge_iff_le, gt_iff_lt, Int.toNat_natCast, Int.reduceToNat, Int.cast_ofNat_Int, Int.natCast_nonneg, h, h', v1, v1', v2, v2', e1, q1, e2, g0, h2, hk1]
              refine CallsVia.none (within_ok ((at_ LL x).getD y 0) 0 (k - 1)) ?_
              rintro _ _ _ ⟨rfl, rfl, rfl⟩
              generalize hc : (at_ LL x).getD y 0 = c at bad next
              by_cases h3 : 0 ≤ c ∧ c ≤ k - 1
              · by_cases hx0 : x = 0
                · have hx0d : decide ((x : Int) = 0) = true := decide_eq_true (by omega)
                  by_cases hc0 : c = 0
                  · have n := next ⟨h3, fun _ => hc0⟩
                    have h3' : decide (0 ≤ c ∧ c ≤ k - 1) = true := decide_eq_true h3
                    simp only [absE, absL, absF, reduceCtorEq, ↓reduceIte, Nat.reduceEqDiff, Nat.reduceAdd, Nat.reduceLT, Nat.reduceMul, Nat.reduceSub, Nat.reduceLeDiff, Int.reduceLT, Int.reduceLE, Int.reduceEq, Option.isSome_some, implies_true, false_implies, Prod.mk.injEq, ne_eq, not_false_eq_true, not_true_eq_false, ge_iff_le, gt_iff_lt, Int.toNat_natCast, Int.reduceToNat, Int.cast_ofNat_Int, Int.natCast_nonneg, hc, h3', hx0d, decide_eq_true hc0, Bool.not_true, Bool.not_false]
                    refine LoopNext.intro (y + 1) ⟨by omega, n⟩ (by omega) ⟨[((1,0),(1,0))], rfl, ?_, ?_⟩
                    · simp [wkEnv, lk, renV, renAt, renTo, w']
                    · simp only [wkMem, hst]; simp [wkLoc, Mem.get, assoc, renBlk, renSegs, renSg]
                  · have e := bad fun hh => hc0 (hh.2 (.inl hx0))
                    have h3' : decide (0 ≤ c ∧ c ≤ k - 1) = true := decide_eq_true h3
                    simp only [absE, absL, absF, reduceCtorEq, ↓reduceIte, Nat.reduceEqDiff, Nat.reduceAdd, Nat.reduceLT, Nat.reduceMul, Nat.reduceSub, Nat.reduceLeDiff, Int.reduceLT, Int.reduceLE, Int.reduceEq, Option.isSome_some, implies_true, false_implies, Prod.mk.injEq, ne_eq, not_false_eq_true, not_true_eq_false, ge_iff_le, gt_iff_lt, Int.toNat_natCast, Int.reduceToNat, Int.cast_ofNat_Int, Int.natCast_nonneg, hc, h3', hx0d, decide_eq_false hc0, Bool.not_true, Bool.not_false, Try.results80]
                    exact ⟨[], by simp, by simp, by simp [renV, e], hfin, by simp⟩
                · have hx0d : decide ((x : Int) = 0) = false := decide_eq_false (by omega)
                  by_cases hy0 : y = 0
                  · have hy0d : decide ((y : Int) = 0) = true := decide_eq_true (by omega)
                    by_cases hc0 : c = 0
                    · have n := next ⟨h3, fun _ => hc0⟩
                      have h3' : decide (0 ≤ c ∧ c ≤ k - 1) = true := decide_eq_true h3
                      simp only [absE, absL, absF, reduceCtorEq, ↓reduceIte, Nat.reduceEqDiff, Nat.reduceAdd, Nat.reduceLT, Nat.reduceMul, Nat.reduceSub, Nat.reduceLeDiff, Int.reduceLT, Int.reduceLE, Int.reduceEq, Option.isSome_some, implies_true, false_implies, Prod.mk.injEq, ne_eq, not_false_eq_true, not_true_eq_false, ge_iff_le, gt_iff_lt, Int.toNat_natCast, Int.reduceToNat, Int.cast_ofNat_Int, Int.natCast_nonneg, hc, h3', hx0d, hy0d, decide_eq_true hc0, Bool.not_true, Bool.not_false]
                      refine LoopNext.intro (y + 1) ⟨by omega, n⟩ (by omega) ⟨[((1,0),(1,0))], rfl, ?_, ?_⟩
                      · simp [wkEnv, lk, renV, renAt, renTo, w']
                      · simp only [wkMem, hst]; simp [wkLoc, Mem.get, assoc, renBlk, renSegs, renSg]
                    · have e := bad fun hh => hc0 (hh.2 (.inr hy0))
                      have h3' : decide (0 ≤ c ∧ c ≤ k - 1) = true := decide_eq_true h3
                      simp only [absE, absL, absF, reduceCtorEq, ↓reduceIte, Nat.reduceEqDiff, Nat.reduceAdd, Nat.reduceLT, Nat.reduceMul, Nat.reduceSub, Nat.reduceLeDiff, Int.reduceLT, Int.reduceLE, Int.reduceEq, Option.isSome_some, implies_true, false_implies, Prod.mk.injEq, ne_eq, not_false_eq_true, not_true_eq_false, ge_iff_le, gt_iff_lt, Int.toNat_natCast, Int.reduceToNat, Int.cast_ofNat_Int, Int.natCast_nonneg, hc, h3', hx0d, hy0d, decide_eq_false hc0, Bool.not_true, Bool.not_false, Try.results80]
                      exact ⟨[], by simp, by simp, by simp [renV, e], hfin, by simp⟩
                  · have hy0d : decide ((y : Int) = 0) = false := decide_eq_false (by omega)
                    have n := next ⟨h3, fun hh => by omega⟩
                    have h3' : decide (0 ≤ c ∧ c ≤ k - 1) = true := decide_eq_true h3
                    simp only [absE, absL, absF, reduceCtorEq, ↓reduceIte, Nat.reduceEqDiff, Nat.reduceAdd, Nat.reduceLT, Nat.reduceMul, Nat.reduceSub, Nat.reduceLeDiff, Int.reduceLT, Int.reduceLE, Int.reduceEq, Option.isSome_some, implies_true, false_implies, Prod.mk.injEq, ne_eq, not_false_eq_true, not_true_eq_false, ge_iff_le, gt_iff_lt, Int.toNat_natCast, Int.reduceToNat, Int.cast_ofNat_Int, Int.natCast_nonneg, hc, h3', hx0d, hy0d, Bool.not_true, Bool.not_false]
                    refine LoopNext.intro (y + 1) ⟨by omega, n⟩ (by omega) ⟨[((1,0),(1,0))], rfl, ?_, ?_⟩
                    · simp [wkEnv, lk, renV, renAt, renTo, w']
                    · simp only [wkMem, hst]; simp [wkLoc, Mem.get, assoc, renBlk, renSegs, renSg]
              · have e := bad fun hh => h3 hh.1
                have h3' : decide (0 ≤ c ∧ c ≤ k - 1) = false := decide_eq_false h3
                simp only [absE, absL, absF, reduceCtorEq, ↓reduceIte, Nat.reduceEqDiff, Nat.reduceAdd, Nat.reduceLT, Nat.reduceMul, Nat.reduceSub, Nat.reduceLeDiff, Int.reduceLT, Int.reduceLE, Int.reduceEq, Option.isSome_some, implies_true, false_implies, Prod.mk.injEq, ne_eq, not_false_eq_true, not_true_eq_false, ge_iff_le, gt_iff_lt, Int.toNat_natCast, Int.reduceToNat, Int.cast_ofNat_Int, Int.natCast_nonneg, hc, h3', Try.results80]
                exact ⟨[], by simp, by simp, by simp [renV, e], hfin, by simp⟩
            · obtain rfl : y = N := by omega
              simp only [absE, absL, absF, reduceCtorEq, ↓reduceIte, Nat.reduceEqDiff, Nat.reduceAdd, Nat.reduceLT, Nat.reduceMul, Nat.reduceSub, Nat.reduceLeDiff, Int.reduceLT, Int.reduceLE, Int.reduceEq, Option.isSome_some, implies_true, false_implies, Prod.mk.injEq, ne_eq, not_false_eq_true, not_true_eq_false, ge_iff_le, gt_iff_lt, Int.toNat_natCast, Int.reduceToNat, Int.cast_ofNat_Int, Int.natCast_nonneg, h']
              refine LoopNext.intro (x + 1) ⟨by omega, fun j hj => ?_⟩ (by omega) ⟨[((1,0),(1,0))], rfl, ?_, ?_⟩
              · by_cases ej : j = x
                · subst ej; exact ⟨h2, hq⟩
                · exact hp j (by omega)
              · simp [wkEnv, lk, renV, renAt, renTo, w]
              · simp only [wkMem, hst]; simp [wkLoc, Mem.get, assoc, renBlk, renSegs, renSg]
        · have h2i : ¬((at_ LL x).length : Int) = N := by omega
          have e : cocB N k LL = false := cocB_false fun hc => h2 (hc.2 x (by omega)).1
          simp only [absE, absL, absF, reduceCtorEq, ↓reduceIte, Nat.reduceEqDiff, Nat.reduceAdd, Nat.reduceLT, Nat.reduceMul, Nat.reduceSub, Nat.reduceLeDiff, Int.reduceLT, Int.reduceLE, Int.reduceEq, Option.isSome_some, implies_true, false_implies, Prod.mk.injEq, ne_eq, not_false_eq_true, not_true_eq_false, ge_iff_le, gt_iff_lt, Int.toNat_natCast, Int.reduceToNat, Int.cast_ofNat_Int, Int.natCast_nonneg, h, v1, v1', e1, g0, h2i, Try.results80]
          exact ⟨[], by simp, by simp, by simp [renV, e], hfin, by simp⟩
      · obtain rfl : x = N := by omega
        have e : cocB x k LL = true := cocB_true ⟨hl, fun j hj => hp j hj⟩
        simp only [absE, absL, absF, reduceCtorEq, ↓reduceIte, Nat.reduceEqDiff, Nat.reduceAdd, Nat.reduceLT, Nat.reduceMul, Nat.reduceSub, Nat.reduceLeDiff, Int.reduceLT, Int.reduceLE, Int.reduceEq, Option.isSome_some, implies_true, false_implies, Prod.mk.injEq, ne_eq, not_false_eq_true, not_true_eq_false, ge_iff_le, gt_iff_lt, Int.toNat_natCast, Int.reduceToNat, Int.cast_ofNat_Int, Int.natCast_nonneg, h, Try.results80]
        exact ⟨[], by simp, by simp, by simp [renV, e], hfin, by simp⟩
  · have hli : ¬(LL.length : Int) = N := by omega
    have e : cocB N k LL = false := cocB_false fun hc => hl hc.1
    simp only [absE, absL, absF, reduceCtorEq, ↓reduceIte, Nat.reduceEqDiff, Nat.reduceAdd, Nat.reduceLT, Nat.reduceMul, Nat.reduceSub, Nat.reduceLeDiff, Int.reduceLT, Int.reduceLE, Int.reduceEq, Option.isSome_some, implies_true, false_implies, Prod.mk.injEq, ne_eq, not_false_eq_true, not_true_eq_false, ge_iff_le, gt_iff_lt, Int.toNat_natCast, Int.reduceToNat, Int.cast_ofNat_Int, Int.natCast_nonneg, hli, Try.f80, Try.results80]
    exact ⟨[], by simp, by simp, by simp [renV, e], hfin, by simp⟩
theorem l08Coc_in (N : Nat) (k : Int) (LL : LLs) (hN : N ≤ 10) (hk : 1 ≤ k ∧ k ≤ 10) (hm : LL.length ≤ 2 ^ 20) :
    ACalls Try.prog 78 [.i .i64 N, .i .i64 k, .ref (.sl 0 0 0 0 LL.length 1)] (ms1 LL) (fun v ms ns => v = .b (cocB N k LL) ∧ ms = ms1 LL ∧ ns = []) := by
  have g0 := ms1_0 (LL := LL)
  have hst : ∀ σ : Pairs, (ms1 LL).map (renBlk (renTo σ)) = ms1 LL := fun σ => ms1_ren renTo_zero
  have hfin : (ms1 LL).map (renBlk (renFin [])) = ms1 LL := ms1_ren renFin_zero
  have hk1 : IntKind.i64.wrap (k - 1) = k - 1 := wrap_i64 (by omega) (by omega)
  have hk0 : (0 : Int) ≤ k - 1 := by omega
  refine acalls_of_body mix Try.func78 rfl fok78 (Nat.le_of_ble_eq_true rfl) ?_
  unfold abody
  simp only [absE, absL, absF, reduceCtorEq, ↓reduceIte, Nat.reduceEqDiff, Nat.reduceAdd, Nat.reduceLT, Nat.reduceMul, Nat.reduceSub, Nat.reduceLeDiff, Int.reduceLT, Int.reduceLE, Int.reduceEq, Option.isSome_some, implies_true, false_implies, Prod.mk.injEq, ne_eq, not_false_eq_true, not_true_eq_false, ge_iff_le, gt_iff_lt, Int.toNat_natCast, Int.reduceToNat, Int.cast_ofNat_Int, Int.natCast_nonneg, Try.f78]
  refine CallsVia.none (l01In_ok k 1 10) ?_
  rintro _ _ _ ⟨rfl, rfl, rfl⟩
  by_cases hl : LL.length = N
  · have hli : (LL.length : Int) = N := by omega
    simp only [absE, absL, absF, reduceCtorEq, ↓reduceIte, Nat.reduceEqDiff, Nat.reduceAdd, Nat.reduceLT, Nat.reduceMul, Nat.reduceSub, Nat.reduceLeDiff, Int.reduceLT, Int.reduceLE, Int.reduceEq, Option.isSome_some, implies_true, false_implies, Prod.mk.injEq, ne_eq, not_false_eq_true, not_true_eq_false, ge_iff_le, gt_iff_lt, Int.toNat_natCast, Int.reduceToNat, Int.cast_ofNat_Int, Int.natCast_nonneg, hk, hl, hli]
    refine awpLoop.intro (fun x : Nat => [(0, .i .i64 N), (1, .i .i64 k), (2, .ref (.sl 0 0 0 0 N 1)), (7, .i .i64 x)]) (fun x => ⟨ms1 LL, [], 12⟩)
      (fun x => x ≤ N ∧ ∀ j, j < x → (at_ LL j).length = N ∧ ∀ y, y < N → (0 ≤ (at_ LL j).getD y 0 ∧ (at_ LL j).getD y 0 ≤ k - 1) ∧ (j = 0 ∨ y = 0 → (at_ LL j).getD y 0 = 0)) (fun x => N - x) 0 ⟨by omega, fun j hj => absurd hj (by omega)⟩ ⟨[], rfl, ?_, ?_⟩ ?_
    · simp [wkEnv, lk, renV, renAt, renTo]
    · simp only [wkMem, hst]; simp [wkLoc]
    · rintro x ⟨hx, hp⟩
      by_cases h : (x : Int) < N
      · have w := wrap_i64s (show x < 2 ^ 62 by omega)
        have hxl : x < LL.length := by omega
        have v1 : 0 + x * 1 < LL.length := by omega
        have v1' : 0 + x * 1 < N := by omega
        have e1 : (outs 0 1 LL).getD (0 + x * 1) .top = .sl 0 (1 + x) 0 0 (at_ LL x).length 1 := by rw [Nat.zero_add, Nat.mul_one]; exact outs_get hxl
        have q1 : (ms1 LL).getD (1 + x) .dead = .lv true [(0, .ints .i64 (at_ LL x).length (at_ LL x))] := ms1_at hxl
        by_cases h2 : (at_ LL x).length = N
        · have h2i : ((at_ LL x).length : Int) = N := by omega
          simp only [absE, absL, absF, reduceCtorEq, ↓reduceIte, Nat.reduceEqDiff, Nat.reduceAdd, Nat.reduceLT, Nat.reduceMul, Nat.reduceSub, Nat.reduceLeDiff, Int.reduceLT, Int.reduceLE, Int.reduceEq, Option.isSome_some, implies_true, false_implies, Prod.mk.injEq, ne_eq, not_false_eq_true, not_true_eq_false, ge_iff_le, gt_iff_lt, Int.toNat_natCast, Int.reduceToNat, Int.cast_ofNat_Int, Int.natCast_nonneg, h, v1, v1', e1, g0, h2, h2i]
          refine awpLoop.intro (fun y : Nat => [(0, .i .i64 N), (1, .i .i64 k), (2, .ref (.sl 0 0 0 0 N 1)), (7, .i .i64 x), (8, .i .i64 y)]) (fun y => ⟨ms1 LL, [], 24⟩)
            (fun y => y ≤ N ∧ ∀ j, j < y → (0 ≤ (at_ LL x).getD j 0 ∧ (at_ LL x).getD j 0 ≤ k - 1) ∧ (x = 0 ∨ j = 0 → (at_ LL x).getD j 0 = 0)) (fun y => N - y) 0 ⟨by omega, fun j hj => absurd hj (by omega)⟩ ⟨[], rfl, ?_, ?_⟩ ?_
          · simp [wkEnv, lk, renV, renAt, renTo]
          · simp only [wkMem, hst]; simp [wkLoc]
          · rintro y ⟨hy, hq⟩
            by_cases h' : (y : Int) < N
            · have w' := wrap_i64s (show y < 2 ^ 62 by omega)
              have v2 : 0 + y * 1 < (at_ LL x).length := by omega
              have v2' : 0 + y * 1 < N := by omega
              have e2 : (at_ LL x).getD (0 + y * 1) 0 = (at_ LL x).getD y 0 := by rw [Nat.zero_add, Nat.mul_one]
              have bad : ¬((0 ≤ (at_ LL x).getD y 0 ∧ (at_ LL x).getD y 0 ≤ k - 1) ∧ (x = 0 ∨ y = 0 → (at_ LL x).getD y 0 = 0)) → cocB N k LL = false := fun hb => cocB_false fun hc => hb ((hc.2 x (by omega)).2 y (by omega))
              have next : ((0 ≤ (at_ LL x).getD y 0 ∧ (at_ LL x).getD y 0 ≤ k - 1) ∧ (x = 0 ∨ y = 0 → (at_ LL x).getD y 0 = 0)) → ∀ j, j < y + 1 → (0 ≤ (at_ LL x).getD j 0 ∧ (at_ LL x).getD j 0 ≤ k - 1) ∧ (x = 0 ∨ j = 0 → (at_ LL x).getD j 0 = 0) := fun hg j hj => by
                by_cases ej : j = y
                · subst ej; exact hg
                · exact hq j (by omega)
              simp only [absE, absL, absF, reduceCtorEq, ↓reduceIte, Nat.reduceEqDiff, Nat.reduceAdd, Nat.reduceLT, Nat.reduceMul, Nat.reduceSub, Nat.reduceLeDiff, Int.reduceLT, Int.reduceLE, Int.reduceEq, Option.isSome_some, implies_true, false_implies, Prod.mk.injEq, ne_eq, not_false_eq_true, not_true_eq_false, ge_iff_le, gt_iff_lt, Int.toNat_natCast, Int.reduceToNat, Int.cast_ofNat_Int, Int.natCast_nonneg, h, h', v1, v1', v2, v2', e1, q1, e2, g0, h2, hk1]
              refine CallsVia.none (l01In_ok ((at_ LL x).getD y 0) 0 (k - 1)) ?_
              rintro _ _ _ ⟨rfl, rfl, rfl⟩
              generalize hc : (at_ LL x).getD y 0 = c at bad next
              by_cases h3 : 0 ≤ c ∧ c ≤ k - 1
              · by_cases hx0 : x = 0
                · have hx0d : decide ((x : Int) = 0) = true := decide_eq_true (by omega)
                  by_cases hc0 : c = 0
                  · have n := next ⟨h3, fun _ => hc0⟩
                    have h3' : decide (0 ≤ c ∧ c ≤ k - 1) = true := decide_eq_true h3
                    simp only [absE, absL, absF, reduceCtorEq, ↓reduceIte, Nat.reduceEqDiff, Nat.reduceAdd, Nat.reduceLT, Nat.reduceMul, Nat.reduceSub, Nat.reduceLeDiff, Int.reduceLT, Int.reduceLE, Int.reduceEq, Option.isSome_some, implies_true, false_implies, Prod.mk.injEq, ne_eq, not_false_eq_true, not_true_eq_false, ge_iff_le, gt_iff_lt, Int.toNat_natCast, Int.reduceToNat, Int.cast_ofNat_Int, Int.natCast_nonneg, h, h', v1, v1', v2, v2', e1, q1, e2, g0, h2, hc, h3', hx0d, decide_eq_true hc0, Bool.not_true, Bool.not_false]
                    refine LoopNext.intro (y + 1) ⟨by omega, n⟩ (by omega) ⟨[], rfl, ?_, ?_⟩
                    · simp [wkEnv, lk, renV, renAt, renTo, w']
                    · simp only [wkMem, hst]; simp [wkLoc]
                  · have e := bad fun hh => hc0 (hh.2 (.inl hx0))
                    have h3' : decide (0 ≤ c ∧ c ≤ k - 1) = true := decide_eq_true h3
                    simp only [absE, absL, absF, reduceCtorEq, ↓reduceIte, Nat.reduceEqDiff, Nat.reduceAdd, Nat.reduceLT, Nat.reduceMul, Nat.reduceSub, Nat.reduceLeDiff, Int.reduceLT, Int.reduceLE, Int.reduceEq, Option.isSome_some, implies_true, false_implies, Prod.mk.injEq, ne_eq, not_false_eq_true, not_true_eq_false, ge_iff_le, gt_iff_lt, Int.toNat_natCast, Int.reduceToNat, Int.cast_ofNat_Int, Int.natCast_nonneg, h, h', v1, v1', v2, v2', e1, q1, e2, g0, h2, hc, h3', hx0d, decide_eq_false hc0, Bool.not_true, Bool.not_false, Try.results78]
                    exact ⟨[], by simp, by simp, by simp [renV, e], hfin, by simp⟩
                · have hx0d : decide ((x : Int) = 0) = false := decide_eq_false (by omega)
                  by_cases hy0 : y = 0
                  · have hy0d : decide ((y : Int) = 0) = true := decide_eq_true (by omega)
                    by_cases hc0 : c = 0
                    · have n := next ⟨h3, fun _ => hc0⟩
                      have h3' : decide (0 ≤ c ∧ c ≤ k - 1) = true := decide_eq_true h3
                      simp only [absE, absL, absF, reduceCtorEq, ↓reduceIte, Nat.reduceEqDiff, Nat.reduceAdd, Nat.reduceLT, Nat.reduceMul, Nat.reduceSub, Nat.reduceLeDiff, Int.reduceLT, Int.reduceLE, Int.reduceEq, Option.isSome_some, implies_true, false_implies, Prod.mk.injEq, ne_eq, not_false_eq_true, not_true_eq_false, ge_iff_le, gt_iff_lt, Int.toNat_natCast, Int.reduceToNat, Int.cast_ofNat_Int, Int.natCast_nonneg, h, h', v1, v1', v2, v2', e1, q1, e2, g0, h2, hc, h3', hx0d, hy0d, decide_eq_true hc0, Bool.not_true, Bool.not_false]
                      refine LoopNext.intro (y + 1) ⟨by omega, n⟩ (by omega) ⟨[], rfl, ?_, ?_⟩
                      · simp [wkEnv, lk, renV, renAt, renTo, w']
                      · simp only [wkMem, hst]; simp [wkLoc]
                    · have e := bad fun hh => hc0 (hh.2 (.inr hy0))
                      have h3' : decide (0 ≤ c ∧ c ≤ k - 1) = true := decide_eq_true h3
                      simp only [absE, absL, absF, reduceCtorEq, ↓reduceIte, Nat.reduceEqDiff, Nat.reduceAdd, Nat.reduceLT, Nat.reduceMul, Nat.reduceSub, Nat.reduceLeDiff, Int.reduceLT, Int.reduceLE, Int.reduceEq, Option.isSome_some, implies_true, false_implies, Prod.mk.injEq, ne_eq, not_false_eq_true, not_true_eq_false, ge_iff_le, gt_iff_lt, Int.toNat_natCast, Int.reduceToNat, Int.cast_ofNat_Int, Int.natCast_nonneg, h, h', v1, v1', v2, v2', e1, q1, e2, g0, h2, hc, h3', hx0d, hy0d, decide_eq_false hc0, Bool.not_true, Bool.not_false, Try.results78]
                      exact ⟨[], by simp, by simp, by simp [renV, e], hfin, by simp⟩
                  · have hy0d : decide ((y : Int) = 0) = false := decide_eq_false (by omega)
                    have n := next ⟨h3, fun hh => by omega⟩
                    have h3' : decide (0 ≤ c ∧ c ≤ k - 1) = true := decide_eq_true h3
                    simp only [absE, absL, absF, reduceCtorEq, ↓reduceIte, Nat.reduceEqDiff, Nat.reduceAdd, Nat.reduceLT, Nat.reduceMul, Nat.reduceSub, Nat.reduceLeDiff, Int.reduceLT, Int.reduceLE, Int.reduceEq, Option.isSome_some, implies_true, false_implies, Prod.mk.injEq, ne_eq, not_false_eq_true, not_true_eq_false, ge_iff_le, gt_iff_lt, Int.toNat_natCast, Int.reduceToNat, Int.cast_ofNat_Int, Int.natCast_nonneg, h, h', v1, v1', v2, v2', e1, q1, e2, g0, h2, hc, h3', hx0d, hy0d, Bool.not_true, Bool.not_false]
                    refine LoopNext.intro (y + 1) ⟨by omega, n⟩ (by omega) ⟨[], rfl, ?_, ?_⟩
                    · simp [wkEnv, lk, renV, renAt, renTo, w']
                    · simp only [wkMem, hst]; simp [wkLoc]
              · have e := bad fun hh => h3 hh.1
                have h3' : decide (0 ≤ c ∧ c ≤ k - 1) = false := decide_eq_false h3
                simp only [absE, absL, absF, reduceCtorEq, ↓reduceIte, Nat.reduceEqDiff, Nat.reduceAdd, Nat.reduceLT, Nat.reduceMul, Nat.reduceSub, Nat.reduceLeDiff, Int.reduceLT, Int.reduceLE, Int.reduceEq, Option.isSome_some, implies_true, false_implies, Prod.mk.injEq, ne_eq, not_false_eq_true, not_true_eq_false, ge_iff_le, gt_iff_lt, Int.toNat_natCast, Int.reduceToNat, Int.cast_ofNat_Int, Int.natCast_nonneg, hc, h3', Try.results78]
                exact ⟨[], by simp, by simp, by simp [renV, e], hfin, by simp⟩
            · obtain rfl : y = N := by omega
              simp only [absE, absL, absF, reduceCtorEq, ↓reduceIte, Nat.reduceEqDiff, Nat.reduceAdd, Nat.reduceLT, Nat.reduceMul, Nat.reduceSub, Nat.reduceLeDiff, Int.reduceLT, Int.reduceLE, Int.reduceEq, Option.isSome_some, implies_true, false_implies, Prod.mk.injEq, ne_eq, not_false_eq_true, not_true_eq_false, ge_iff_le, gt_iff_lt, Int.toNat_natCast, Int.reduceToNat, Int.cast_ofNat_Int, Int.natCast_nonneg, h, h', v1, v1', e1, g0, h2, h2i]
              refine LoopNext.intro (x + 1) ⟨by omega, fun j hj => ?_⟩ (by omega) ⟨[], rfl, ?_, ?_⟩
              · by_cases ej : j = x
                · subst ej; exact ⟨h2, hq⟩
                · exact hp j (by omega)
              · simp [wkEnv, lk, renV, renAt, renTo, w]
              · simp only [wkMem, hst]; simp [wkLoc]
        · have h2i : ¬((at_ LL x).length : Int) = N := by omega
          have e : cocB N k LL = false := cocB_false fun hc => h2 (hc.2 x (by omega)).1
          simp only [absE, absL, absF, reduceCtorEq, ↓reduceIte, Nat.reduceEqDiff, Nat.reduceAdd, Nat.reduceLT, Nat.reduceMul, Nat.reduceSub, Nat.reduceLeDiff, Int.reduceLT, Int.reduceLE, Int.reduceEq, Option.isSome_some, implies_true, false_implies, Prod.mk.injEq, ne_eq, not_false_eq_true, not_true_eq_false, ge_iff_le, gt_iff_lt, Int.toNat_natCast, Int.reduceToNat, Int.cast_ofNat_Int, Int.natCast_nonneg, h, v1, v1', e1, g0, h2i, Try.results78]
          exact ⟨[], by simp, by simp, by simp [renV, e], hfin, by simp⟩
      · obtain rfl : x = N := by omega
        have e : cocB x k LL = true := cocB_true ⟨hl, fun j hj => hp j hj⟩
        simp only [absE, absL, absF, reduceCtorEq, ↓reduceIte, Nat.reduceEqDiff, Nat.reduceAdd, Nat.reduceLT, Nat.reduceMul, Nat.reduceSub, Nat.reduceLeDiff, Int.reduceLT, Int.reduceLE, Int.reduceEq, Option.isSome_some, implies_true, false_implies, Prod.mk.injEq, ne_eq, not_false_eq_true, not_true_eq_false, ge_iff_le, gt_iff_lt, Int.toNat_natCast, Int.reduceToNat, Int.cast_ofNat_Int, Int.natCast_nonneg, h, Try.results78]
        exact ⟨[], by simp, by simp, by simp [renV, e], hfin, by simp⟩
  · have hli : ¬(LL.length : Int) = N := by omega
    have e : cocB N k LL = false := cocB_false fun hc => hl hc.1
    simp only [absE, absL, absF, reduceCtorEq, ↓reduceIte, Nat.reduceEqDiff, Nat.reduceAdd, Nat.reduceLT, Nat.reduceMul, Nat.reduceSub, Nat.reduceLeDiff, Int.reduceLT, Int.reduceLE, Int.reduceEq, Option.isSome_some, implies_true, false_implies, Prod.mk.injEq, ne_eq, not_false_eq_true, not_true_eq_false, ge_iff_le, gt_iff_lt, Int.toNat_natCast, Int.reduceToNat, Int.cast_ofNat_Int, Int.natCast_nonneg, hk, hli, Try.results78]
    exact ⟨[], by simp, by simp, by simp [renV, e], hfin, by simp⟩

theorem l08Cocycle_ok (N : Nat) (k : Int) (LL : LLs) (hN : N ≤ 10) (hm : LL.length ≤ 2 ^ 20) :
    ACalls Try.prog 78 [.i .i64 N, .i .i64 k, .ref (.sl 0 0 0 0 LL.length 1)] (ms1 LL) (fun v ms ns => v = .b (decide (1 ≤ k ∧ k ≤ 10) && cocB N k LL) ∧ ms = ms1 LL ∧ ns = []) := by
  have hfin : (ms1 LL).map (renBlk (renFin [])) = ms1 LL := ms1_ren renFin_zero
  by_cases hk : 1 ≤ k ∧ k ≤ 10
  · rw [decide_eq_true hk, Bool.true_and]
    exact l08Coc_in N k LL hN hk hm
  · rw [decide_eq_false hk, Bool.false_and]
    refine acalls_of_body mix Try.func78 rfl fok78 (Nat.le_of_ble_eq_true rfl) ?_
    unfold abody
    simp only [absE, absL, absF, reduceCtorEq, ↓reduceIte, Nat.reduceEqDiff, Nat.reduceAdd, Nat.reduceLT, Nat.reduceMul, Nat.reduceSub, Nat.reduceLeDiff, Int.reduceLT, Int.reduceLE, Int.reduceEq, Option.isSome_some, implies_true, false_implies, Prod.mk.injEq, ne_eq, not_false_eq_true, not_true_eq_false, ge_iff_le, gt_iff_lt, Int.toNat_natCast, Int.reduceToNat, Int.cast_ofNat_Int, Int.natCast_nonneg, Try.f78]
    refine CallsVia.none (l01In_ok k 1 10) ?_
    rintro _ _ _ ⟨rfl, rfl, rfl⟩
    simp only [absE, absL, absF, reduceCtorEq, ↓reduceIte, Nat.reduceEqDiff, Nat.reduceAdd, Nat.reduceLT, Nat.reduceMul, Nat.reduceSub, Nat.reduceLeDiff, Int.reduceLT, Int.reduceLE, Int.reduceEq, Option.isSome_some, implies_true, false_implies, Prod.mk.injEq, ne_eq, not_false_eq_true, not_true_eq_false, ge_iff_le, gt_iff_lt, Int.toNat_natCast, Int.reduceToNat, Int.cast_ofNat_Int, Int.natCast_nonneg, hk, Try.results78]
    exact ⟨[], by simp, by simp, by simp [renV], hfin, by simp⟩

end Go.Proofs.Ytcaadjjgggjefaa
