/-
Contracts of functions of the given program, by the abstract walk.
-/
import Derived.Test.YtjmenocghjggcaaAbsY
import Derived.Test.YtjmenocghjggcaaWw
namespace Go.Proofs.Ytjmenocghjggcaa
open Go Go.Abs
set_option linter.unusedVariables false
set_option linter.unusedSectionVars false
set_option linter.unusedSimpArgs false
set_option maxRecDepth 100000
/-! IsZeroDivisor -/
noncomputable def zdB (N : Nat) (t : List Int) (p : Int) (a : List Int) : Bool := @decide (¬ Triv p N (eqT N t p a N)) (Classical.propDecidable _)
theorem zdB_iff {N : Nat} {t : List Int} {p : Int} {a : List Int} : zdB N t p a = true ↔ ¬ Triv p N (eqT N t p a N) := by unfold zdB; exact @decide_eq_true_iff _ (Classical.propDecidable _)
theorem zd_spec {N : Nat} {t : List Int} {p : Int} {a : List Int} (hp : PrP p) (hs : SqP N t) (ha : RngP p a) : decide (0 < (((sovK p N (imgL N t p a N)).length : Nat) : Int)) = zdB N t p a := by
  have hK := sovK_iff (p := p) (N := N) (m := fun y z => acF t p a y z N) hp fun i _ j _ => acF_rng hp ha
  rw [← imgL_mat hp hs ha, img_eq_triv hp hs ha] at hK
  rw [Bool.eq_iff_iff, decide_eq_true_iff, zdB_iff, ← hK, ← List.length_eq_zero_iff]
  omega
theorem zd_impl {N : Nat} {t : List Int} {p : Int} {a : List Int} (hp : PrP p) (hs : SqP N t) (ha : RngP p a) : decide (0 < ((kerN p N (eqT N t p a N) : Nat) : Int)) = zdB N t p a := by
  have hE := eqT_eqs (N := N) (t := t) hp hs ha (Nat.le_refl N)
  have hk := kerN_iff hp (eq_mat (N := N) (t := t) hp hs ha) hE.len
  rw [Bool.eq_iff_iff, decide_eq_true_iff, zdB_iff, ← hk]
  omega
set_option maxHeartbeats 1000000 in
theorem annihilator_ok (N : Nat) (t : List Int) (p : Int) (a : List Int) (ht : Bytes 100 t) (hs : SqP N t) (hp : PrP p) (ha : RngP p a) (la : a.length = N) :
    ACalls Try.prog 39 [.agg (sqS N t), .i .i64 p, .ref (.sl 0 0 0 0 N 1)] [.lv true [(0, .ints .i64 N a)]]
      (fun v ms ns => v = .ref (.sl 1 0 0 0 (kerN p N (eqT N t p a N)) 1) ∧ ms = [.lv true [(0, .ints .i64 N a)]] ∧ ∃ B, ns = [B]) := by
  have hN := hs.le
  have hN1 := hs.pos
  have hEq := equations_ok N t p a ht hs hp ha la
  have hE := eqT_eqs (N := N) (t := t) hp hs ha (Nat.le_refl N)
  have hm := eq_mat (N := N) (t := t) hp hs ha
  have hKer := kernel_ok N p (eqT N t p a N) hp hN hN1 hE.len hm
  generalize eqT N t p a N = E at hEq hE hm hKer ⊢
  refine acalls_of_body mix Try.func39 rfl fok39 (Nat.le_of_ble_eq_true rfl) ?_
  unfold abody
  simp only [absE, absL, absF, reduceCtorEq, ↓reduceIte, Nat.reduceEqDiff, Nat.reduceAdd, Nat.reduceLT, Nat.reduceMul, Nat.reduceSub, Nat.reduceLeDiff, Int.reduceLT, Int.reduceLE, Int.reduceEq, Option.isSome_some, implies_true, false_implies, Prod.mk.injEq, ne_eq, not_false_eq_true, not_true_eq_false, ge_iff_le, gt_iff_lt, Int.toNat_natCast, Int.reduceToNat, Int.cast_ofNat_Int, Int.natCast_nonneg, Try.f39]
  refine CallsX.args [(0, 0)] hEq (by simp) (by simp [Mem.get]) (by simp [renVs, renV, renAt, renIn, idx, renSegs, renSg]) (by simp [argBlks, Mem.get, renBlk, renSegs, renSg]) ?_
  simp only [absE, absL, absF, reduceCtorEq, ↓reduceIte, Nat.reduceEqDiff, Nat.reduceAdd, Nat.reduceLT, Nat.reduceMul, Nat.reduceSub, Nat.reduceLeDiff, Int.reduceLT, Int.reduceLE, Int.reduceEq, Option.isSome_some, implies_true, false_implies, Prod.mk.injEq, ne_eq, not_false_eq_true, not_true_eq_false, ge_iff_le, gt_iff_lt, Int.toNat_natCast, Int.reduceToNat, Int.cast_ofNat_Int, Int.natCast_nonneg, newUps_inn, ob_out, Mem.upd_bagU, assoc_rbag_ne]
  refine And.intro (chk_m (l := [(0, false)]) rfl (by decide +kernel)) (And.intro (by simp [chk, disj_cons, disj_bag, disj_bag', disj_nl, disj_nr]) ?_)
  refine CallsX.rowG (g := 6) (LL := E) (by decide) (by decide) Row.new (fun σ h0 => by simp [renVs, renV, renAt, h0]) hKer ?_
  intro ups rd loc' hu hl
  have e10 : ∀ j, renOut 10 ((6, 0) :: srcs 6 1 E.length) 1 j = some (10, j) := fun j => rfl
  refine And.intro (chk_w (l := [6, 5, 4, 3, 2, 1, 0]) rfl (by decide +kernel)) ?_
  simp only [renV, renVs, List.map_cons, List.map_nil, renAt, e10, hu]
  simp only [absE, absL, absF, reduceCtorEq, ↓reduceIte, Nat.reduceEqDiff, Nat.reduceAdd, Nat.reduceLT, Nat.reduceMul, Nat.reduceSub, Nat.reduceLeDiff, Int.reduceLT, Int.reduceLE, Int.reduceEq, Option.isSome_some, implies_true, false_implies, Prod.mk.injEq, ne_eq, not_false_eq_true, not_true_eq_false, ge_iff_le, gt_iff_lt, Int.toNat_natCast, Int.reduceToNat, Int.cast_ofNat_Int, Int.natCast_nonneg, Try.results39]
  exact ⟨[(10, 0)], by simp, by simp, by simp [renV, renVs, renAt, renFin, idx], by simp [renBlk, renSegs, renSg], ⟨_, rfl⟩⟩
noncomputable def zdAV (n : Int) (t : List Int) (p : Int) (xs : List Int) (k : Nat) : AV := if rcd1 n t p xs k = 0 then .tup [.b (zdB n.toNat t p xs), .i .i64 0] else .tup [.b false, .i .i64 (rcd1 n t p xs k)]
theorem zd_form (n : Int) (t : List Int) (p : Int) (xs : List Int) (k : Nat) (ht : Bytes 100 t) : ∃ b e, zdAV n t p xs k = .tup [.b b, .i .i64 e] := by
  unfold zdAV; split <;> exact ⟨_, _, rfl⟩
theorem ring_facts {n : Int} {t : List Int} {p : Int} {xs : List Int} {k : Nat} (hx : xs.length = k) (h : rcd1 n t p xs k = 0) : ∃ N : Nat, n = N ∧ k = N ∧ SqP N t ∧ PrP p ∧ RngP p xs := by
  obtain ⟨h1, h2, h3⟩ := rcd1_zero h
  have hs : SqP n t := by simp only [loopB, Bool.and_eq_true] at h1; exact sqB_iff.1 h1.1
  obtain ⟨N, rfl⟩ : ∃ N : Nat, n = N := ⟨n.toNat, by have := hs.1; omega⟩
  refine ⟨N, rfl, by have := h3.2; simpa using this, hs, h2, RngP.of h2 h3 hx⟩
theorem specZero_ok (n : Int) (t : List Int) (p : Int) (xs : List Int) (k : Nat) (ht : Bytes 100 t) (hx : xs.length = k) (hk : k ≤ 2 ^ 20) :
    ACalls Try.prog 17 [.agg (sqS n t), .i .i64 p, .ref (.sl 0 0 0 0 k 1)] [.lv true [(0, .ints .i64 k xs)]] (fun v ms ns => v = zdAV n t p xs k ∧ ms = [.lv true [(0, .ints .i64 k xs)]] ∧ ns = []) := by
  unfold zdAV
  refine acalls_of_body mix Try.func17 rfl fok17 (Nat.le_of_ble_eq_true rfl) ?_
  unfold abody
  simp only [absE, absL, absF, reduceCtorEq, ↓reduceIte, Nat.reduceEqDiff, Nat.reduceAdd, Nat.reduceLT, Nat.reduceMul, Nat.reduceSub, Nat.reduceLeDiff, Int.reduceLT, Int.reduceLE, Int.reduceEq, Option.isSome_some, implies_true, false_implies, Prod.mk.injEq, ne_eq, not_false_eq_true, not_true_eq_false, ge_iff_le, gt_iff_lt, Int.toNat_natCast, Int.reduceToNat, Int.cast_ofNat_Int, Int.natCast_nonneg, Try.f17]
  refine CallsVia.args [(7, 0), (0, 0)] (l10Code1_ok n t p xs k ht hx hk) (by simp) (by simp [Mem.get, assoc]) rfl rfl ?_
  rintro _ _ _ ⟨rfl, rfl, rfl⟩
  by_cases h : rcd1 n t p xs k = 0
  · obtain ⟨N, rfl, rfl, hs, hp, hr⟩ := ring_facts hx h
    have hN := hs.le
    have hz := zd_spec (t := t) (a := xs) hp hs hr
    rw [if_pos h, Int.toNat_natCast, ← hz]
    simp only [absE, absL, absF, reduceCtorEq, ↓reduceIte, Nat.reduceEqDiff, Nat.reduceAdd, Nat.reduceLT, Nat.reduceMul, Nat.reduceSub, Nat.reduceLeDiff, Int.reduceLT, Int.reduceLE, Int.reduceEq, Option.isSome_some, implies_true, false_implies, Prod.mk.injEq, ne_eq, not_false_eq_true, not_true_eq_false, ge_iff_le, gt_iff_lt, Int.toNat_natCast, Int.reduceToNat, Int.cast_ofNat_Int, Int.natCast_nonneg, h]
    refine CallsVia.args [(0, 0)] (l10Kernel_ok k t p xs ht hs hp hr hx) (by simp) (by simp [Mem.get]) (by simp [renVs, renV, renAt, renIn, idx, renSegs, renSg]) (by simp [argBlks, Mem.get, renBlk, renSegs, renSg]) ?_
    rintro _ _ _ ⟨rfl, rfl, rfl⟩
    simp only [absE, absL, absF, reduceCtorEq, ↓reduceIte, Nat.reduceEqDiff, Nat.reduceAdd, Nat.reduceLT, Nat.reduceMul, Nat.reduceSub, Nat.reduceLeDiff, Int.reduceLT, Int.reduceLE, Int.reduceEq, Option.isSome_some, implies_true, false_implies, Prod.mk.injEq, ne_eq, not_false_eq_true, not_true_eq_false, ge_iff_le, gt_iff_lt, Int.toNat_natCast, Int.reduceToNat, Int.cast_ofNat_Int, Int.natCast_nonneg, newUps_inn, ob_out, Mem.upd_bagU, assoc_rbag_ne, Try.results17]
    exact ⟨[], by simp, by simp, by simp [renV, renVs], by simp [renBlk, renSegs, renSg], by simp⟩
  · simp only [absE, absL, absF, reduceCtorEq, ↓reduceIte, Nat.reduceEqDiff, Nat.reduceAdd, Nat.reduceLT, Nat.reduceMul, Nat.reduceSub, Nat.reduceLeDiff, Int.reduceLT, Int.reduceLE, Int.reduceEq, Option.isSome_some, implies_true, false_implies, Prod.mk.injEq, ne_eq, not_false_eq_true, not_true_eq_false, ge_iff_le, gt_iff_lt, Int.toNat_natCast, Int.reduceToNat, Int.cast_ofNat_Int, Int.natCast_nonneg, h, Try.results17]
    exact ⟨[], by simp, by simp, by simp [renV, renVs, renSegs, renSg, h, renBlk]⟩
theorem implZero_ok (n : Int) (t : List Int) (p : Int) (xs : List Int) (k : Nat) (ht : Bytes 100 t) (hx : xs.length = k) (hk : k ≤ 2 ^ 20) :
    ACalls Try.prog 18 [.agg (sqS n t), .i .i64 p, .ref (.sl 0 0 0 0 k 1)] [.lv true [(0, .ints .i64 k xs)]] (fun v ms ns => v = zdAV n t p xs k ∧ ms = [.lv true [(0, .ints .i64 k xs)]] ∧ ns = []) := by
  unfold zdAV
  refine acalls_of_body mix Try.func18 rfl fok18 (Nat.le_of_ble_eq_true rfl) ?_
  unfold abody
  simp only [absE, absL, absF, reduceCtorEq, ↓reduceIte, Nat.reduceEqDiff, Nat.reduceAdd, Nat.reduceLT, Nat.reduceMul, Nat.reduceSub, Nat.reduceLeDiff, Int.reduceLT, Int.reduceLE, Int.reduceEq, Option.isSome_some, implies_true, false_implies, Prod.mk.injEq, ne_eq, not_false_eq_true, not_true_eq_false, ge_iff_le, gt_iff_lt, Int.toNat_natCast, Int.reduceToNat, Int.cast_ofNat_Int, Int.natCast_nonneg, Try.f18]
  refine CallsVia.args [(7, 0), (0, 0)] (ringCode1_ok n t p xs k ht hx hk) (by simp) (by simp [Mem.get, assoc]) rfl rfl ?_
  rintro _ _ _ ⟨rfl, rfl, rfl⟩
  by_cases h : rcd1 n t p xs k = 0
  · obtain ⟨N, rfl, rfl, hs, hp, hr⟩ := ring_facts hx h
    have hN := hs.le
    have hz := zd_impl (t := t) (a := xs) hp hs hr
    rw [if_pos h, Int.toNat_natCast, ← hz]
    simp only [absE, absL, absF, reduceCtorEq, ↓reduceIte, Nat.reduceEqDiff, Nat.reduceAdd, Nat.reduceLT, Nat.reduceMul, Nat.reduceSub, Nat.reduceLeDiff, Int.reduceLT, Int.reduceLE, Int.reduceEq, Option.isSome_some, implies_true, false_implies, Prod.mk.injEq, ne_eq, not_false_eq_true, not_true_eq_false, ge_iff_le, gt_iff_lt, Int.toNat_natCast, Int.reduceToNat, Int.cast_ofNat_Int, Int.natCast_nonneg, h]
    refine CallsVia.args [(0, 0)] (annihilator_ok k t p xs ht hs hp hr hx) (by simp) (by simp [Mem.get]) (by simp [renVs, renV, renAt, renIn, idx, renSegs, renSg]) (by simp [argBlks, Mem.get, renBlk, renSegs, renSg]) ?_
    rintro _ _ _ ⟨rfl, rfl, B, rfl⟩
    simp only [absE, absL, absF, reduceCtorEq, ↓reduceIte, Nat.reduceEqDiff, Nat.reduceAdd, Nat.reduceLT, Nat.reduceMul, Nat.reduceSub, Nat.reduceLeDiff, Int.reduceLT, Int.reduceLE, Int.reduceEq, Option.isSome_some, implies_true, false_implies, Prod.mk.injEq, ne_eq, not_false_eq_true, not_true_eq_false, ge_iff_le, gt_iff_lt, Int.toNat_natCast, Int.reduceToNat, Int.cast_ofNat_Int, Int.natCast_nonneg, Try.results18]
    exact ⟨[], by simp, by simp, by simp [renV, renVs], by simp [renBlk, renSegs, renSg], by simp⟩
  · simp only [absE, absL, absF, reduceCtorEq, ↓reduceIte, Nat.reduceEqDiff, Nat.reduceAdd, Nat.reduceLT, Nat.reduceMul, Nat.reduceSub, Nat.reduceLeDiff, Int.reduceLT, Int.reduceLE, Int.reduceEq, Option.isSome_some, implies_true, false_implies, Prod.mk.injEq, ne_eq, not_false_eq_true, not_true_eq_false, ge_iff_le, gt_iff_lt, Int.toNat_natCast, Int.reduceToNat, Int.cast_ofNat_Int, Int.natCast_nonneg, h, Try.results18]
    exact ⟨[], by simp, by simp, by simp [renV, renVs, renSegs, renSg, h, renBlk]⟩

end Go.Proofs.Ytjmenocghjggcaa
