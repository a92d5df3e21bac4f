/-
Contracts of functions of the given program, by the abstract walk.
-/
import Derived.Test.YtcaadjjgggjefaaAbsY
import Derived.Test.YtcaadjjgggjefaaJa
namespace Go.Proofs.Ytcaadjjgggjefaa
open Go Go.Abs
set_option linter.unusedVariables false
set_option linter.unusedSectionVars false
set_option linter.unusedSimpArgs false
set_option maxRecDepth 100000
theorem take_at {LL : LLs} {i : Nat} (h : i < LL.length) : LL.take (i + 1) = LL.take i ++ [at_ LL i] := by
  rw [List.take_succ_eq_append_getElem h, at_lt h]
theorem take_len {LL : LLs} {i : Nat} (h : i ≤ LL.length) : (LL.take i).length = i := by simp; omega
theorem at_take {LL : LLs} {i j : Nat} (h : j < i) : at_ (LL.take i) j = at_ LL j := by
  unfold at_; simp [List.getElem?_take, h]
def padO (a k : Nat) (LL : LLs) (i : Nat) : List Atom := outs a k (LL.take i) ++ List.replicate (LL.length - i) .nils
theorem padO_set {a k i : Nat} {LL : LLs} {x : Atom} (h : i < LL.length) : (padO a k LL i).set i x = outs a k (LL.take i) ++ x :: List.replicate (LL.length - (i + 1)) .nils := by
  unfold padO
  have e : (outs a k (LL.take i)).length = i := by rw [outs_len, take_len (by omega)]
  rw [List.set_append_right _ _ (by omega), e, Nat.sub_self, show LL.length - i = (LL.length - (i + 1)) + 1 by omega, List.replicate_succ, List.set_cons_zero]
theorem padO_next {a k i : Nat} {LL : LLs} (h : i < LL.length) : padO a k LL (i + 1) = outs a k (LL.take i) ++ .sl a (k + i) 0 0 (at_ LL i).length 1 :: List.replicate (LL.length - (i + 1)) .nils := by
  unfold padO
  rw [take_at h, outs_app, take_len (by omega), List.append_assoc]; rfl
theorem padO_zero {a k : Nat} {LL : LLs} : padO a k LL 0 = List.replicate LL.length .nils := by simp [padO, outs]
theorem padO_all {a k : Nat} {LL : LLs} : padO a k LL LL.length = outs a k LL := by simp [padO]
theorem padO_len {a k i : Nat} {LL : LLs} (h : i ≤ LL.length) : (padO a k LL i).length = LL.length := by unfold padO; rw [List.length_append, outs_len, take_len h]; simp; omega
theorem srcs_get {σ : Ren} {mem : Mem} {a k : Nat} {LL : LLs} (h : ∀ i, i < LL.length → mem.get a (k + i) = ib (at_ LL i)) : (srcs a k LL.length).map (fun p => renBlk σ (mem.get p.1 p.2)) = inn LL := by
  unfold srcs inn
  rw [List.map_map]
  exact List.map_congr_left fun i hi => by simp only [Function.comp, h i (List.mem_range.1 hi)]; rfl
theorem row_nodup {p : Abs.Id} {a k m : Nat} (h : p.1 ≠ a ∨ p.2 < k) : (p :: srcs a k m).Nodup := by
  rw [List.nodup_cons]
  refine ⟨fun hm => ?_, srcs_nodup⟩
  have := srcs_mem.1 hm
  rcases h with h | h
  · exact h this.1
  · omega
theorem row_keep {p : Abs.Id} {a k m : Nat} (h : p.1 ≠ 0) (ha : a ≠ 0) : ∀ q ∈ p :: srcs a k m, q.1 ≠ 0 := by
  intro q hq
  rcases List.mem_cons.1 hq with rfl | hq
  · exact h
  · rw [(srcs_mem.1 hq).1]; exact ha
theorem renFin_row {p : Abs.Id} {a k m j : Nat} (h : p.1 ≠ a ∨ p.2 < k) (ha : a ≠ 0) (hj : j < m) : renFin (p :: srcs a k m) a (k + j) = some (1, 1 + j) := by
  have e : ¬(p.1 = a ∧ p.2 = k + j) := by omega
  simp only [renFin, idx, e, ha, idx_srcs_in hj, if_false, Option.map_some]
  simp; omega
theorem toLists_ok (LL : LLs) (As : List Atom) (Bs : List Blk) (h : LArg LL As Bs) (hl : ∀ i, i < LL.length → (at_ LL i).length ≤ 2 ^ 20) (hm : LL.length ≤ 2 ^ 20) :
    ACalls Try.prog 42 [.ref (.sl 0 0 0 0 LL.length 1)] (lms LL As Bs) (fun v ms ns => v = .ref (.sl 1 0 0 0 LL.length 1) ∧ ms = lms LL As Bs ∧ ns = ob 1 1 LL :: inn LL) := by
  have hk8 : (LL.length : Int) * 24 ≤ 140737488355328 := by omega
  have hk8 : (LL.length : Int) * 8 ≤ 140737488355328 := by omega
  have m1 : LL.length * 1 = LL.length := Nat.mul_one _
  refine acalls_of_body mix Try.func42 rfl fok42 (Nat.le_of_ble_eq_true rfl) ?_
  unfold abody
  simp only [absE, absL, absF, reduceCtorEq, ↓reduceIte, Nat.reduceEqDiff, Nat.reduceAdd, Nat.reduceLT, Nat.reduceMul, Nat.reduceSub, Nat.reduceLeDiff, Int.reduceLT, Int.reduceLE, Int.reduceEq, Option.isSome_some, implies_true, false_implies, Prod.mk.injEq, ne_eq, not_false_eq_true, not_true_eq_false, ge_iff_le, gt_iff_lt, Int.toNat_natCast, Int.reduceToNat, Int.cast_ofNat_Int, Int.natCast_nonneg, m1, Try.f42]
  repeat refine And.intro (by omega) ?_
  refine awpLoop.intro (fun i : Nat => [(0, .ref (.sl 0 0 0 0 LL.length 1)), (3, .ref (.sl 4 0 0 0 LL.length 1)), (4, .i .i64 i)]) (fun i => ⟨lms LL As Bs, [((4, 0), .lv true ([(0, .cells LL.length (padO 3 0 LL i))]))] ++ rbag 3 0 (LL.take i), 7⟩)
    (fun i => i ≤ LL.length) (fun i => LL.length - i) 0 (by omega) ⟨[((4,0),(4,0))], rfl, ?_, ?_⟩ ?_
  · simp [wkEnv, lk, renV, renAt, renTo]
  · simp only [wkMem, msren h renTo_zero]
    simp [wkLoc, Mem.get, assoc, renBlk, renSegs, renSg, renTo, zeroArr, padO_zero, rbag_nil, renAt]
  · intro i hi
    by_cases hi' : (i : Int) < LL.length
    · have w := wrap_i64s (show i < 2 ^ 62 by omega)
      have v1 : 0 + i * 1 < LL.length := by omega
      have v2 : 0 + i * 1 + 1 ≤ LL.length := by omega
      have e1 : As.getD (0 + i * 1) .top = As.getD i .top := by rw [Nat.zero_add, Nat.mul_one]
      have hin : i < LL.length := by omega
      have hτ : ∀ j, j < i → renTo ([((4, 0), (4, 0)), ((17, 0), (3, 0 + i))] ++ rids (fun j => (3, 0 + j)) i 3 0) 3 (0 + j) = some (3, 0 + j) := fun j hj => renTo_row (src := fun j => (3, 0 + j)) std_inj (by simp) hj (by simp)
      simp only [absE, absL, absF, reduceCtorEq, ↓reduceIte, Nat.reduceEqDiff, Nat.reduceAdd, Nat.reduceLT, Nat.reduceMul, Nat.reduceSub, Nat.reduceLeDiff, Int.reduceLT, Int.reduceLE, Int.reduceEq, Option.isSome_some, implies_true, false_implies, Prod.mk.injEq, ne_eq, not_false_eq_true, not_true_eq_false, ge_iff_le, gt_iff_lt, Int.toNat_natCast, Int.reduceToNat, Int.cast_ofNat_Int, Int.natCast_nonneg, hi', v1, e1, LArg.get0]
      refine toInts_any (h.cell i (by omega)) (m := ⟨lms LL As Bs, _, _⟩) LArg.get (hl i (by omega)) ?_
      intro ups rd hu
      simp only [hu]
      have hok : wkOk ([((4, 0), (4, 0)), ((17, 0), (3, 0 + i))] ++ rids (fun j => (3, 0 + j)) i 3 0) 7 = true := by
        refine wkOk_rids (by simp [wkOk]) std_inj (by simp) (by simp) (by simp) (by simp) ?_
        intro x hx j hj
        simp at hx
        rcases hx with rfl | rfl
        · simp
        · simp; omega
      by_cases h1 : 1 = LL.length
      · obtain rfl : i = 0 := by omega
        have h1t : (1 = LL.length) = True := eq_true h1
        simp only [absE, absL, absF, reduceCtorEq, ↓reduceIte, Nat.reduceEqDiff, Nat.reduceAdd, Nat.reduceLT, Nat.reduceMul, Nat.reduceSub, Nat.reduceLeDiff, Int.reduceLT, Int.reduceLE, Int.reduceEq, Option.isSome_some, implies_true, false_implies, Prod.mk.injEq, ne_eq, not_false_eq_true, not_true_eq_false, ge_iff_le, gt_iff_lt, Int.toNat_natCast, Int.reduceToNat, Int.cast_ofNat_Int, Int.natCast_nonneg, h1t]
        repeat refine And.intro (by omega) ?_
        refine LoopNext.intro 1 (by omega) (by omega) ⟨[((4, 0), (4, 0)), ((17, 0), (3, 0 + 0))] ++ rids (fun j => (3, 0 + j)) 0 3 0, hok, ?_, ?_⟩
        · simp [wkEnv, lk, renV, renAt, renTo, show IntKind.i64.wrap 1 = 1 from rfl]
        · have p1 := padO_next (a := 3) (k := 0) hin
          rw [Nat.zero_add] at p1
          have p2 : LL.take 1 = [] ++ [at_ LL 0] := by have := take_at hin; rwa [Nat.zero_add, List.take_zero] at this
          rw [p1, p2, rbag_app, List.take_zero]
          simp only [wkMem, msren h renTo_zero]
          simp [wkLoc, Mem.get, assoc, renBlk, renSegs, renSg, renTo, renAt, rids, rbag_nil, ib, outs_nil, ← h1]
      · have e2 := padO_set (a := 3) (k := 0) (x := .sl 17 0 0 0 (at_ LL i).length 1) hin
        have e3 : (padO 3 0 LL i).set (0 + i * 1) (.sl 17 0 0 0 (at_ LL i).length 1) = outs 3 0 (LL.take i) ++ .sl 17 0 0 0 (at_ LL i).length 1 :: List.replicate (LL.length - (i + 1)) .nils := by rw [Nat.zero_add, Nat.mul_one]; exact e2
        simp only [absE, absL, absF, reduceCtorEq, ↓reduceIte, Nat.reduceEqDiff, Nat.reduceAdd, Nat.reduceLT, Nat.reduceMul, Nat.reduceSub, Nat.reduceLeDiff, Int.reduceLT, Int.reduceLE, Int.reduceEq, Option.isSome_some, implies_true, false_implies, Prod.mk.injEq, ne_eq, not_false_eq_true, not_true_eq_false, ge_iff_le, gt_iff_lt, Int.toNat_natCast, Int.reduceToNat, Int.cast_ofNat_Int, Int.natCast_nonneg, h1, v2, e3]
        repeat refine And.intro (by omega) ?_
        refine LoopNext.intro (i + 1) (by omega) (by omega) ⟨[((4, 0), (4, 0)), ((17, 0), (3, 0 + i))] ++ rids (fun j => (3, 0 + j)) i 3 0, hok, ?_, ?_⟩
        · simp [wkEnv, lk, renV, renAt, renTo, w]
        · have t4 : renTo ([((4, 0), (4, 0)), ((17, 0), (3, 0 + i))] ++ rids (fun j => (3, 0 + j)) i 3 0) 4 0 = some (4, 0) := by simp [renTo]
          have t17 : renTo ([((4, 0), (4, 0)), ((17, 0), (3, 0 + i))] ++ rids (fun j => (3, 0 + j)) i 3 0) 17 0 = some (3, 0 + i) := by simp [renTo]
          rw [padO_next hin, take_at hin, rbag_app, take_len (by omega)]
          simp only [wkMem, msren h renTo_zero, wkLoc_app]
          rw [wkLoc_rids (LL := LL.take i) (by rw [take_len (by omega)]) (by
            intro j hj
            rw [List.length_take] at hj
            simp only [Mem.get, assoc]
            simp
            have q := assoc_rbag_in' (a := 3) (k := 0) (i := j) (LL := LL.take i) (by rw [List.length_take]; omega)
            rwa [Nat.zero_add] at q)]
          generalize renTo ([((4, 0), (4, 0)), ((17, 0), (3, 0 + i))] ++ rids (fun j => (3, 0 + j)) i 3 0) = τ at t4 t17 hτ ⊢
          have o1 := outs_ren (LL := LL.take i) (σ := τ) (a := 3) (k := 0) (by rw [take_len (by omega)]; exact hτ)
          simp [wkLoc, Mem.get, assoc, renBlk, renSegs, renSg, renAt, t4, t17, o1, ib]
    · have e : i = LL.length := by omega
      subst e
      simp only [absE, absL, absF, reduceCtorEq, ↓reduceIte, Nat.reduceEqDiff, Nat.reduceAdd, Nat.reduceLT, Nat.reduceMul, Nat.reduceSub, Nat.reduceLeDiff, Int.reduceLT, Int.reduceLE, Int.reduceEq, Option.isSome_some, implies_true, false_implies, Prod.mk.injEq, ne_eq, not_false_eq_true, not_true_eq_false, ge_iff_le, gt_iff_lt, Int.toNat_natCast, Int.reduceToNat, Int.cast_ofNat_Int, Int.natCast_nonneg, hi', Try.results42]
      refine ⟨(4, 0) :: srcs 3 0 LL.length, ?_, ?_, ?_, ?_, ?_⟩
      · exact row_nodup (.inl (by decide))
      · exact row_keep (by decide) (by decide)
      · simp [renV, renAt, renFin, idx]
      · exact msren h renFin_zero
      · have o1 := outs_ren (LL := LL) (σ := renFin ((4, 0) :: srcs 3 0 LL.length)) (a := 3) (k := 0) (a' := 1) (k' := 1) (fun j hj => renFin_row (.inl (by decide)) (by decide) hj)
        rw [List.map_cons, srcs_get fun j hj => by simp only [Mem.get, assoc, List.take_length]; simp; have q := assoc_rbag_in' (a := 3) (k := 0) hj; rwa [Nat.zero_add] at q]
        simp [Mem.get, assoc, padO_all, renBlk, renSegs, renSg, o1, ob]

end Go.Proofs.Ytcaadjjgggjefaa
