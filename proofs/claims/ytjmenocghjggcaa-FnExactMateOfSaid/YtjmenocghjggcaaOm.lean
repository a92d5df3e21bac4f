/-
Contracts of functions of the given program, by the abstract walk.
-/
import Derived.Test.YtjmenocghjggcaaAbsY
import Derived.Test.YtjmenocghjggcaaOl
namespace Go.Proofs.Ytjmenocghjggcaa
open Go Go.Abs
set_option linter.unusedVariables false
set_option linter.unusedSectionVars false
set_option linter.unusedSimpArgs false
set_option maxRecDepth 100000
/-! mates: the transversals, sorted by their first place -/
theorem b00_ok : BitL 0 b00 := ⟨by decide, by simp [b00], fun z hz => by
  rw [Nat.zero_testBit]
  exact ((by decide : ∀ z, z < 10 → b00.getD z false = false) z hz).symm⟩
theorem transM_ok (N : Nat) (t : List Int) (ht : Bytes 100 t) (hs : SqP N t) (h8 : N ≤ 8) :
    ∃ v, ACalls Try.prog 44 [.agg (sqS N t), .ref (.fn 45 [(0, 0, 0, 0)])] [byD 0 0 []] (fun r xs ns => r = v ∧ xs = [byD 1 0 (lfT N t N)] ∧ ns = blksF (lfT N t N)) := by
  have hf := fillD_ok N t ht hs h8 0 rfl 0 0 b00_ok b00_ok
  refine ⟨.tup [], ?_⟩
  refine acalls_of_body mix Try.func44 rfl fok44 (Nat.le_of_ble_eq_true rfl) ?_
  unfold abody
  simp only [absE, absL, absF, reduceCtorEq, ↓reduceIte, Nat.reduceEqDiff, Nat.reduceAdd, Nat.reduceLT, Nat.reduceMul, Nat.reduceSub, Nat.reduceLeDiff, Int.reduceLT, Int.reduceLE, Int.reduceEq, Option.isSome_some, implies_true, false_implies, Prod.mk.injEq, ne_eq, not_false_eq_true, not_true_eq_false, ge_iff_le, gt_iff_lt, Int.toNat_natCast, Int.reduceToNat, Int.cast_ofNat_Int, Int.natCast_nonneg, Try.f44]
  refine CallsVia.news [(1, 0), (2, 0), (4, 0), (6, 0), (0, 0)] (by decide) (by simp) (fun σ => blksF_ren) (by simp [Mem.get, assoc, byD]) hf rfl rfl ?_
  intro ups rd hu
  have e2 := byD_ren (a := 1) (b := 0) (a' := 10) (b' := 0) (LF := lfT N t N) (σ := renOut 10 [(1, 0), (2, 0), (4, 0), (6, 0), (0, 0)]) fun i hi => rfl
  have h1 : ¬ (1 : Nat) = 0 := by decide
  have h2 : ¬ (2 : Nat) = 0 := by decide
  have h4 : ¬ (4 : Nat) = 0 := by decide
  have h6 : ¬ (6 : Nat) = 0 := by decide
  have hz := fun n' => hu n' _ _ (by
    simp only [zipUps, fiA, e2, sqB_ren, plSB_ren, cell_ren, renAt, renCaps, renOut, List.getElem?_cons_zero, List.getElem?_cons_succ, Mem.upd, Mem.put, if_true, if_false, h1, h2, h4, h6, List.set_cons_zero]
    rfl)
  simp only [hz]
  simp only [absE, absL, absF, reduceCtorEq, ↓reduceIte, Nat.reduceEqDiff, Nat.reduceAdd, Nat.reduceLT, Nat.reduceMul, Nat.reduceSub, Nat.reduceLeDiff, Int.reduceLT, Int.reduceLE, Int.reduceEq, Option.isSome_some, implies_true, false_implies, Prod.mk.injEq, ne_eq, not_false_eq_true, not_true_eq_false, ge_iff_le, gt_iff_lt, Int.toNat_natCast, Int.reduceToNat, Int.cast_ofNat_Int, Int.natCast_nonneg, Try.results44]
  refine ⟨srcs 10 0 (blksF (lfT N t N)).length, srcs_nodup, fun q hq => by rw [(srcs_mem.1 hq).1]; decide, by simp [renV, renVs], ?_, map_srcs (fun σ => blksF_ren) fun i hi => by rw [Mem.get, if_neg (by decide)]; exact assoc_updL_in hi⟩
  have hr : ∀ j, j < (blksF (lfT N t N)).length → renFin (srcs 10 0 (blksF (lfT N t N)).length) 10 (0 + j) = some (1, 0 + j) := fun j hj => renFin_srcs (by decide) hj
  simp only [List.map_cons, List.map_nil, byD_ren hr]
theorem srS_lfT {N : Nat} {t : List Int} : ∀ {x}, srS (cl t) lmT (srA N (cl t) lmT (N - 1)) 0 p00 b00 b00 x [] = (lfT N t x).flatten
  | 0 => rfl
  | x + 1 => by
    rw [srS_succ, if_pos ⟨rfl, b00_get, b00_get⟩, srS_lfT, srA_add, lfT_succ, List.flatten_append, List.flatten_singleton]; rfl
theorem lfO_keep {N : Nat} {t : List Int} {y : Nat} (h : 1 ≤ N) (hy : y < 10) : ∀ q ∈ lfO N t y, q.getD 0 0 = (y : Int) :=
  srA_keep (by omega) (by rw [getD_set_int (by simp [p00]), if_pos rfl]) (fun q hq => by cases hq)
theorem firstB_app {A B : List (List Int)} {k : Nat} : firstB (A ++ B) k = firstB A k ++ firstB B k := by unfold firstB; exact List.filter_append ..
theorem firstB_lfT {N : Nat} {t : List Int} {k : Nat} (h : 1 ≤ N) (h10 : N ≤ 10) : ∀ {x}, x ≤ N → firstB (lfT N t x).flatten k = if k < x then lfO N t k else []
  | 0, _ => by rw [if_neg (by omega)]; rfl
  | x + 1, hx => by
    rw [lfT_succ, List.flatten_append, List.flatten_singleton, firstB_app, firstB_lfT h h10 (by omega)]
    by_cases e : k = x
    · subst e
      rw [if_neg (by omega), if_pos (by omega), List.nil_append]
      exact List.filter_eq_self.2 fun q hq => decide_eq_true (lfO_keep h (by omega) q hq)
    · have : firstB (lfO N t x) k = [] := List.filter_eq_nil_iff.2 fun q hq => by
        have := lfO_keep h (by omega) q hq
        rw [decide_eq_true_iff, this]; omega
      rw [this, List.append_nil]
      by_cases hk : k < x
      · rw [if_pos hk, if_pos (by omega)]
      · rw [if_neg hk, if_neg (by omega)]
theorem lfT_get {N : Nat} {t : List Int} {k : Nat} (h : 1 ≤ N) (h8 : N ≤ 8) (hk : k < N) : (lfT N t N).getD k [] = firstB (trA N t) k := by
  obtain ⟨m, rfl⟩ : ∃ m, N = m + 1 := ⟨N - 1, by omega⟩
  have e1 : trA (m + 1) t = (lfT (m + 1) t (m + 1)).flatten := by
    rw [trA_lm h8, ← srS_lfT]
    show srS _ _ _ (m + 1 - (m + 1)) _ _ _ _ _ = _
    rw [Nat.sub_self]; rfl
  rw [e1, firstB_lfT h (by omega) (Nat.le_refl _), if_pos hk]
  simp [lfT, hk]

end Go.Proofs.Ytjmenocghjggcaa
