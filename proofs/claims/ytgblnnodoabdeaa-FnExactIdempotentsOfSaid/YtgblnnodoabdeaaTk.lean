/-
Contracts of functions of the given program, by the abstract walk.
-/
import Derived.Test.YtgblnnodoabdeaaAbsY
import Derived.Test.YtgblnnodoabdeaaTj
namespace Go.Proofs.Ytgblnnodoabdeaa
open Go Go.Abs
set_option linter.unusedVariables false
set_option linter.unusedSectionVars false
set_option linter.unusedSimpArgs false
set_option maxRecDepth 100000
/-! IdempotentsOf: the program, all of it -/
theorem implIdm_yes (N : Nat) (t : List Int) (P : Nat) (ht : Bytes 100 t) (h : limC N t P = 0) :
    ACalls Try.prog 17 [.agg (sqS N t), .i .i64 P] [] (fun v ms ns => v = llV (idmL N t P (P ^ N)) ∧ ms = [] ∧ ns = llN (idmL N t P (P ^ N))) := by
  have hr : rcd0 N t P = 0 := by unfold limC at h; split at h; · omega
                                 · exact h
  have hle : P ^ N ≤ 20000 := by
    apply Decidable.byContradiction; intro hn
    unfold limC at h
    rw [if_pos ⟨hr, by simpa using (show 20000 < P ^ N by omega)⟩] at h
    cases h
  obtain ⟨hs, hlp, hp⟩ := rcd0_zero hr
  obtain ⟨P', hPP, hP1, hP2⟩ := hp.nat
  obtain rfl : P = P' := by omega
  have hS := sums_yes N t P ht hs hp hP1 hP2 hle
  unfold sMs at hS
  refine acalls_of_body mix Try.func17 rfl fok17 (Nat.le_of_ble_eq_true rfl) ?_
  unfold abody
  simp only [absE, absL, absF, reduceCtorEq, ↓reduceIte, Nat.reduceEqDiff, Nat.reduceAdd, Nat.reduceLT, Nat.reduceMul, Nat.reduceSub, Nat.reduceLeDiff, Int.reduceLT, Int.reduceLE, Int.reduceEq, Option.isSome_some, implies_true, false_implies, Prod.mk.injEq, ne_eq, not_false_eq_true, not_true_eq_false, ge_iff_le, gt_iff_lt, Int.toNat_natCast, Int.reduceToNat, Int.cast_ofNat_Int, Int.natCast_nonneg, Try.f17]
  refine CallsVia.none (ringCode0_ok N t P ht) ?_
  rintro _ _ _ ⟨rfl, rfl, rfl⟩
  simp only [absE, absL, absF, reduceCtorEq, ↓reduceIte, Nat.reduceEqDiff, Nat.reduceAdd, Nat.reduceLT, Nat.reduceMul, Nat.reduceSub, Nat.reduceLeDiff, Int.reduceLT, Int.reduceLE, Int.reduceEq, Option.isSome_some, implies_true, false_implies, Prod.mk.injEq, ne_eq, not_false_eq_true, not_true_eq_false, ge_iff_le, gt_iff_lt, Int.toNat_natCast, Int.reduceToNat, Int.cast_ofNat_Int, Int.natCast_nonneg, hr]
  refine CallsVia.args [(1, 0), (2, 0), (12, 0), (11, 0)] hS (by simp) (by simp [Mem.get, assoc]) rfl rfl ?_
  rintro _ _ _ ⟨rfl, rfl, rfl⟩
  generalize idmL N t P (P ^ N) = L
  simp only [absE, absL, absF, reduceCtorEq, ↓reduceIte, Nat.reduceEqDiff, Nat.reduceAdd, Nat.reduceLT, Nat.reduceMul, Nat.reduceSub, Nat.reduceLeDiff, Int.reduceLT, Int.reduceLE, Int.reduceEq, Option.isSome_some, implies_true, false_implies, Prod.mk.injEq, ne_eq, not_false_eq_true, not_true_eq_false, ge_iff_le, gt_iff_lt, Int.toNat_natCast, Int.reduceToNat, Int.cast_ofNat_Int, Int.natCast_nonneg, sqp, llN, newUps_inn, ob_out, Mem.upd_bagU, assoc_rbag_ne, Try.results17]
  refine ⟨(17, 0) :: srcs 17 1 L.length, row_nodup (.inr (by decide)), row_keep (by decide) (by decide), by simp [renV, renVs, renAt, renFin, idx, llV], by simp, ?_⟩
  exact row_map' (p := (17, 0)) (B := 17) (k := 1) (LL := L) (.inr (by decide)) (by decide) (by simp only [Mem.get, assoc]; rw [if_neg (by decide), assoc_rbag_lt (by decide)]; simp [assoc]) fun j hj => by
    simp only [Mem.get]
    rw [if_neg (by decide), assoc_rbag_in hj]
noncomputable def idmOk (n : Int) (t : List Int) (p : Int) : Bool := decide (limC n t p = 0)
theorem idmOk_nat {n : Int} {t : List Int} {p : Int} (h : idmOk n t p = true) : ∃ N P : Nat, n = N ∧ p = P ∧ limC (N : Int) t (P : Int) = 0 ∧ P ^ N ≤ 20000 ∧ N ≤ 10 := by
  have h0 : limC n t p = 0 := of_decide_eq_true h
  have hr : rcd0 n t p = 0 := by
    unfold limC at h0; split at h0
    · omega
    · exact h0
  obtain ⟨hs, _, hp⟩ := rcd0_zero hr
  obtain ⟨N, rfl⟩ : ∃ N : Nat, n = N := ⟨n.toNat, by have := hs.1; omega⟩
  obtain ⟨P, rfl, hP1, hP2⟩ := hp.nat
  refine ⟨N, P, rfl, rfl, h0, ?_, hs.le⟩
  apply Decidable.byContradiction; intro hn
  unfold limC at h0
  rw [if_pos ⟨hr, by simpa using (show 20000 < P ^ N by omega)⟩] at h0
  cases h0
theorem specIdmL_yes (n : Int) (t : List Int) (p : Int) (ht : Bytes 100 t) (hp : -2 ^ 63 ≤ p ∧ p < 2 ^ 63) (h : idmOk n t p = true) :
    ACalls Try.prog 15 [.agg (sqS n t), .i .i64 p] [] (fun v ms ns => v = llV (idmL n.toNat t p.toNat (p.toNat ^ n.toNat)) ∧ ms = [] ∧ ns = llN (idmL n.toNat t p.toNat (p.toNat ^ n.toNat))) := by
  obtain ⟨N, P, rfl, rfl, h0, _, _⟩ := idmOk_nat h
  exact specIdm_yes N t P ht h0
theorem implIdmL_yes (n : Int) (t : List Int) (p : Int) (ht : Bytes 100 t) (hp : -2 ^ 63 ≤ p ∧ p < 2 ^ 63) (h : idmOk n t p = true) :
    ACalls Try.prog 17 [.agg (sqS n t), .i .i64 p] [] (fun v ms ns => v = llV (idmL n.toNat t p.toNat (p.toNat ^ n.toNat)) ∧ ms = [] ∧ ns = llN (idmL n.toNat t p.toNat (p.toNat ^ n.toNat))) := by
  obtain ⟨N, P, rfl, rfl, h0, _, _⟩ := idmOk_nat h
  exact implIdm_yes N t P ht h0
theorem specIdmL_no (n : Int) (t : List Int) (p : Int) (ht : Bytes 100 t) (hp : -2 ^ 63 ≤ p ∧ p < 2 ^ 63) (h : idmOk n t p = false) :
    ACalls Try.prog 15 [.agg (sqS n t), .i .i64 p] [] (fun v ms ns => v = .tup [.ref .nils, .i .i64 (limC n t p)] ∧ ms = [] ∧ ns = []) := specIdm_no n t p ht (of_decide_eq_false h)
theorem implIdmL_no (n : Int) (t : List Int) (p : Int) (ht : Bytes 100 t) (hp : -2 ^ 63 ≤ p ∧ p < 2 ^ 63) (h : idmOk n t p = false) :
    ACalls Try.prog 17 [.agg (sqS n t), .i .i64 p] [] (fun v ms ns => v = .tup [.ref .nils, .i .i64 (limC n t p)] ∧ ms = [] ∧ ns = []) := implIdm_no n t p ht (of_decide_eq_false h)
theorem idm_fits {n : Int} {t : List Int} {p : Int} (h : idmOk n t p = true) : FitsL (idmL n.toNat t p.toNat (p.toNat ^ n.toNat)) := by
  obtain ⟨N, P, rfl, rfl, h0, hle, hN⟩ := idmOk_nat h
  refine ⟨?_, fun i hi => ?_⟩
  · have := idmL_len (N := N) (t := t) (P := P) (k := P ^ N)
    simp only [Int.toNat_natCast]; omega
  · have := idmL_row (N := N) (t := t) (P := P) (k := P ^ N) (at_ (idmL N t P (P ^ N)) i) (by rw [at_lt (LL := idmL N t P (P ^ N)) (by simpa using hi)]; exact List.getElem_mem _)
    simp only [Int.toNat_natCast]; omega

end Go.Proofs.Ytgblnnodoabdeaa
