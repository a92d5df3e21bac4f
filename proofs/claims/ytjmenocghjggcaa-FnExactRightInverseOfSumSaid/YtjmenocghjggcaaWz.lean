/-
Contracts of functions of the given program, by the abstract walk.
-/
import Derived.Test.YtjmenocghjggcaaAbsY
import Derived.Test.YtjmenocghjggcaaWu
import Derived.Test.YtjmenocghjggcaaWv
namespace Go.Proofs.Ytjmenocghjggcaa
open Go Go.Abs
set_option linter.unusedVariables false
set_option linter.unusedSectionVars false
set_option linter.unusedSimpArgs false
set_option maxRecDepth 100000
/-! RightInverseOfSum: plain, and the reference -/
noncomputable def riC (n : Int) (t : List Int) (p : Int) (xs : List Int) (k : Nat) : Int := if rcd1 n t p xs k = 0 then (@ite _ (Triv p n.toNat (eqT n.toNat t p xs n.toNat)) (Classical.propDecidable _) 0 4) else rcd1 n t p xs k
def riL (n : Int) (t : List Int) (p : Int) (xs : List Int) : List Int := (sovS p n.toNat (sovD p n.toNat (imgL n.toNat t p xs n.toNat)) (unitK n.toNat 0) n.toNat).2
theorem ring_factsR {n : Int} {t : List Int} {p : Int} {xs : List Int} {k : Nat} (hx : xs.length = k) (h : rcd1 n t p xs k = 0) : ∃ N : Nat, n = N ∧ k = N ∧ SqP N t ∧ PrP p ∧ RngP p xs := by
  obtain ⟨h1, h2, h3⟩ := rcd1_zero h
  have hs : SqP n t := by simp only [loopB, Bool.and_eq_true] at h1; exact sqB_iff.1 h1.1
  obtain ⟨N, rfl⟩ : ∃ N : Nat, n = N := ⟨n.toNat, by have := hs.1; omega⟩
  refine ⟨N, rfl, by have := h3.2; simpa using this, hs, h2, RngP.of h2 h3 hx⟩
theorem riC_zero {n : Int} {t : List Int} {p : Int} {xs : List Int} {k : Nat} (h : riC n t p xs k = 0) : rcd1 n t p xs k = 0 ∧ Triv p n.toNat (eqT n.toNat t p xs n.toNat) := by
  unfold riC at h
  split at h
  · rename_i h1
    split at h
    · rename_i h2; exact ⟨h1, h2⟩
    · omega
  · rename_i h1; exact absurd h h1
theorem riC_four {n : Int} {t : List Int} {p : Int} {xs : List Int} {k : Nat} (h1 : rcd1 n t p xs k = 0) (h2 : ¬ Triv p n.toNat (eqT n.toNat t p xs n.toNat)) : riC n t p xs k = 4 := by
  unfold riC; rw [if_pos h1, if_neg h2]
theorem riC_code {n : Int} {t : List Int} {p : Int} {xs : List Int} {k : Nat} (h1 : rcd1 n t p xs k ≠ 0) : riC n t p xs k = rcd1 n t p xs k := by
  unfold riC; rw [if_neg h1]
theorem riL_len {n : Int} {t : List Int} {p : Int} {xs : List Int} {k : Nat} (hx : xs.length = k) (h : decide (riC n t p xs k = 0) = true) : (riL n t p xs).length < 2 ^ 40 := by
  obtain ⟨h1, _⟩ := riC_zero (of_decide_eq_true h)
  obtain ⟨N, rfl, rfl, hs, hp, hr⟩ := ring_factsR hx h1
  have hN := hs.le
  have hpos := hs.pos
  have := (sovS_facts (p := p) (N := k) (D := sovD p k (imgL k t p xs k)) (i := k) hp (unitK_len (N := k) (k := 0)) (unitK_rng (N := k) hp hpos)).2.1
  unfold riL
  simp only [Int.toNat_natCast]
  omega
theorem ri_K {N : Nat} {t : List Int} {p : Int} {a : List Int} (hp : PrP p) (hs : SqP N t) (ha : RngP p a) : sovK p N (imgL N t p a N) = [] ↔ Triv p N (eqT N t p a N) := by
  have hK := sovK_iff (p := p) (N := N) (m := fun y z => acF t p a y z N) hp fun i _ j _ => acF_rng hp ha
  rwa [← imgL_mat hp hs ha, img_eq_triv hp hs ha] at hK
theorem ri_ok {N : Nat} {t : List Int} {p : Int} {a : List Int} (hp : PrP p) (hs : SqP N t) (ha : RngP p a) (ht : Triv p N (eqT N t p a N)) :
    (sovD p N (imgL N t p a N)).length = N ∧ fsP N (sovS p N (sovD p N (imgL N t p a N)) (unitK N 0) N).1 = N ∧ ∀ z, z < N → p ∣ (unitK N 0).getD z 0 - sumF (fun k => (sovS p N (sovD p N (imgL N t p a N)) (unitK N 0) N).2.getD k 0 * acF t p a k z N) N := by
  have hpos := hs.pos
  have ht2 := (img_eq_triv hp hs ha).2 ht
  rw [imgL_mat hp hs ha] at ht2 ⊢
  obtain ⟨h1, h2, h3⟩ := sovS_solves hp (fun i _ j _ => acF_rng (t := t) (a := a) (y := i) (z := j) (x := N) hp ha) ht2 (unitK_rng (N := N) (k := 0) hp hpos)
  exact ⟨h1, fsP_zero h2, h3⟩
set_option maxHeartbeats 1000000 in
theorem specRi_yes (n : Int) (t : List Int) (p : Int) (xs : List Int) (k : Nat) (ht : Bytes 100 t) (hx : xs.length = k) (hk : k ≤ 2 ^ 20) (h : decide (riC n t p xs k = 0) = true) :
    ACalls Try.prog 11 [.agg (sqS n t), .i .i64 p, .ref (.sl 0 0 0 0 k 1)] [.lv true [(0, .ints .i64 k xs)]] (fun v ms ns => v = .tup [.ref (.sl 1 0 0 0 (riL n t p xs).length 1), .i .i64 0] ∧ ms = [.lv true [(0, .ints .i64 k xs)]] ∧ ns = [.lv true [(0, .ints .i64 (riL n t p xs).length (riL n t p xs))]]) := by
  obtain ⟨h1, h2⟩ := riC_zero (of_decide_eq_true h)
  obtain ⟨N, rfl, rfl, hs, hp, hr⟩ := ring_factsR hx h1
  have hN := hs.le
  have hN1 := hs.pos
  have hT := l10Images_ok k t p xs ht hs hp hr hx
  have hmI := img_mat (N := k) (t := t) hp hs hr
  have hIl := imgL_len (N := k) (t := t) (p := p) (a := xs) (k := k)
  rw [Int.toNat_natCast] at h2
  have hK := (ri_K hp hs hr).2 h2
  obtain ⟨hD, hok, _⟩ := ri_ok hp hs hr h2
  have hlS := (sovS_facts (p := p) (N := k) (D := sovD p k (imgL k t p xs k)) (i := k) hp (unitK_len (N := k) (k := 0)) (unitK_rng (N := k) hp hN1)).2.1
  unfold riL
  simp only [Int.toNat_natCast]
  generalize imgL k t p xs k = I at hT hmI hIl hK hD hok hlS ⊢
  rw [hlS]
  have hU := l10UnitK_ok k 0 hN hN1
  rw [show ((0 : Nat) : Int) = 0 from rfl] at hU
  refine acalls_of_body mix Try.func11 rfl fok11 (Nat.le_of_ble_eq_true rfl) ?_
  unfold abody
  simp only [absE, absL, absF, reduceCtorEq, ↓reduceIte, Nat.reduceEqDiff, Nat.reduceAdd, Nat.reduceLT, Nat.reduceMul, Nat.reduceSub, Nat.reduceLeDiff, Int.reduceLT, Int.reduceLE, Int.reduceEq, Option.isSome_some, implies_true, false_implies, Prod.mk.injEq, ne_eq, not_false_eq_true, not_true_eq_false, ge_iff_le, gt_iff_lt, Int.toNat_natCast, Int.reduceToNat, Int.cast_ofNat_Int, Int.natCast_nonneg, Try.f11]
  refine CallsVia.args [(7, 0), (0, 0)] (l10Code1_ok k t p xs k ht hx hk) (by simp) (by simp [Mem.get, assoc]) rfl rfl ?_
  rintro _ _ _ ⟨rfl, rfl, rfl⟩
  simp only [absE, absL, absF, reduceCtorEq, ↓reduceIte, Nat.reduceEqDiff, Nat.reduceAdd, Nat.reduceLT, Nat.reduceMul, Nat.reduceSub, Nat.reduceLeDiff, Int.reduceLT, Int.reduceLE, Int.reduceEq, Option.isSome_some, implies_true, false_implies, Prod.mk.injEq, ne_eq, not_false_eq_true, not_true_eq_false, ge_iff_le, gt_iff_lt, Int.toNat_natCast, Int.reduceToNat, Int.cast_ofNat_Int, Int.natCast_nonneg, h1]
  refine CallsX.args [(0, 0)] hT (by simp) (by simp [Mem.get]) (by simp [renVs, renV, renAt, renIn, idx, renSegs, renSg]) (by simp [argBlks, Mem.get, renBlk, renSegs, renSg]) ?_
  simp only [absE, absL, absF, reduceCtorEq, ↓reduceIte, Nat.reduceEqDiff, Nat.reduceAdd, Nat.reduceLT, Nat.reduceMul, Nat.reduceSub, Nat.reduceLeDiff, Int.reduceLT, Int.reduceLE, Int.reduceEq, Option.isSome_some, implies_true, false_implies, Prod.mk.injEq, ne_eq, not_false_eq_true, not_true_eq_false, ge_iff_le, gt_iff_lt, Int.toNat_natCast, Int.reduceToNat, Int.cast_ofNat_Int, Int.natCast_nonneg, newUps_inn, ob_out, Mem.upd_bagU, assoc_rbag_ne]
  refine And.intro (chk_m (l := [(1, false), (0, true)]) rfl (by decide +kernel)) (And.intro (by simp [chk, disj_cons, disj_bag, disj_bag', disj_nl, disj_nr]) ?_)
  refine CallsX.none hU ?_
  simp only [absE, absL, absF, reduceCtorEq, ↓reduceIte, Nat.reduceEqDiff, Nat.reduceAdd, Nat.reduceLT, Nat.reduceMul, Nat.reduceSub, Nat.reduceLeDiff, Int.reduceLT, Int.reduceLE, Int.reduceEq, Option.isSome_some, implies_true, false_implies, Prod.mk.injEq, ne_eq, not_false_eq_true, not_true_eq_false, ge_iff_le, gt_iff_lt, Int.toNat_natCast, Int.reduceToNat, Int.cast_ofNat_Int, Int.natCast_nonneg]
  refine And.intro (by simp [chk, disj_cons, disj_bag, disj_bag', disj_nl, disj_nr]) ?_
  refine solve_x (g := 16) (d := 19) (due := unitK k 0) (by decide) (by decide) (by decide) (by decide) (by decide) (by decide) (Row.cons (by decide) Row.new) (by simp [assoc, ib, unitK_len]) hp hN hN1 hIl hmI unitK_len (unitK_rng hp hN1) ?_
  intro ups rd loc' hu hl f0 f1 f2
  refine And.intro (chk_w (l := [7, 6, 5, 4, 3, 2, 1, 0]) rfl (by decide +kernel)) ?_
  rw [hD, hK] at f2
  rw [hD, hK, hok]
  have hz : ¬ (0 : Int) < (([] : LLs).length : Nat) := by decide
  simp only [hu]
  simp only [absE, absL, absF, reduceCtorEq, ↓reduceIte, Nat.reduceEqDiff, Nat.reduceAdd, Nat.reduceLT, Nat.reduceMul, Nat.reduceSub, Nat.reduceLeDiff, Int.reduceLT, Int.reduceLE, Int.reduceEq, Option.isSome_some, implies_true, false_implies, Prod.mk.injEq, ne_eq, not_false_eq_true, not_true_eq_false, ge_iff_le, gt_iff_lt, Int.toNat_natCast, Int.reduceToNat, Int.cast_ofNat_Int, Int.natCast_nonneg, decide_true, hz, Try.results11]
  exact ⟨[(20, ([] : LLs).length + 1)], by simp, by simp, by simp [renV, renVs, renAt, renFin, idx], by simp [renBlk, renSegs, renSg], by
    simp only [List.map_cons, List.map_nil, Mem.get]
    rw [if_neg (by decide), f2]
    simp [ib, renBlk, renSegs, renSg, hlS]⟩
theorem specRi_no (n : Int) (t : List Int) (p : Int) (xs : List Int) (k : Nat) (ht : Bytes 100 t) (hx : xs.length = k) (hk : k ≤ 2 ^ 20) (h : decide (riC n t p xs k = 0) = false) :
    ACalls Try.prog 11 [.agg (sqS n t), .i .i64 p, .ref (.sl 0 0 0 0 k 1)] [.lv true [(0, .ints .i64 k xs)]] (fun v ms ns => v = .tup [.ref .nils, .i .i64 (riC n t p xs k)] ∧ ms = [.lv true [(0, .ints .i64 k xs)]] ∧ ns = []) := by
  have h := of_decide_eq_false h
  by_cases h1 : rcd1 n t p xs k = 0
  · obtain ⟨N, rfl, rfl, hs, hp, hr⟩ := ring_factsR hx h1
    have h2 : ¬ Triv p k (eqT k t p xs k) := fun ht => h (by unfold riC; rw [if_pos h1, if_pos (by simpa using ht)])
    rw [riC_four h1 (by simpa using h2)]
    have hN := hs.le
    have hN1 := hs.pos
    have hT := l10Images_ok k t p xs ht hs hp hr hx
    have hmI := img_mat (N := k) (t := t) hp hs hr
    have hIl := imgL_len (N := k) (t := t) (p := p) (a := xs) (k := k)
    have hK : sovK p k (imgL k t p xs k) ≠ [] := fun e => h2 ((ri_K hp hs hr).1 e)
    generalize imgL k t p xs k = I at hT hmI hIl hK ⊢
    have hU := l10UnitK_ok k 0 hN hN1
    rw [show ((0 : Nat) : Int) = 0 from rfl] at hU
    refine acalls_of_body mix Try.func11 rfl fok11 (Nat.le_of_ble_eq_true rfl) ?_
    unfold abody
    simp only [absE, absL, absF, reduceCtorEq, ↓reduceIte, Nat.reduceEqDiff, Nat.reduceAdd, Nat.reduceLT, Nat.reduceMul, Nat.reduceSub, Nat.reduceLeDiff, Int.reduceLT, Int.reduceLE, Int.reduceEq, Option.isSome_some, implies_true, false_implies, Prod.mk.injEq, ne_eq, not_false_eq_true, not_true_eq_false, ge_iff_le, gt_iff_lt, Int.toNat_natCast, Int.reduceToNat, Int.cast_ofNat_Int, Int.natCast_nonneg, Try.f11]
    refine CallsVia.args [(7, 0), (0, 0)] (l10Code1_ok k t p xs k ht hx hk) (by simp) (by simp [Mem.get, assoc]) rfl rfl ?_
    rintro _ _ _ ⟨rfl, rfl, rfl⟩
    simp only [absE, absL, absF, reduceCtorEq, ↓reduceIte, Nat.reduceEqDiff, Nat.reduceAdd, Nat.reduceLT, Nat.reduceMul, Nat.reduceSub, Nat.reduceLeDiff, Int.reduceLT, Int.reduceLE, Int.reduceEq, Option.isSome_some, implies_true, false_implies, Prod.mk.injEq, ne_eq, not_false_eq_true, not_true_eq_false, ge_iff_le, gt_iff_lt, Int.toNat_natCast, Int.reduceToNat, Int.cast_ofNat_Int, Int.natCast_nonneg, h1]
    refine CallsX.args [(0, 0)] hT (by simp) (by simp [Mem.get]) (by simp [renVs, renV, renAt, renIn, idx, renSegs, renSg]) (by simp [argBlks, Mem.get, renBlk, renSegs, renSg]) ?_
    simp only [absE, absL, absF, reduceCtorEq, ↓reduceIte, Nat.reduceEqDiff, Nat.reduceAdd, Nat.reduceLT, Nat.reduceMul, Nat.reduceSub, Nat.reduceLeDiff, Int.reduceLT, Int.reduceLE, Int.reduceEq, Option.isSome_some, implies_true, false_implies, Prod.mk.injEq, ne_eq, not_false_eq_true, not_true_eq_false, ge_iff_le, gt_iff_lt, Int.toNat_natCast, Int.reduceToNat, Int.cast_ofNat_Int, Int.natCast_nonneg, newUps_inn, ob_out, Mem.upd_bagU, assoc_rbag_ne]
    refine And.intro (chk_m (l := [(1, false), (0, true)]) rfl (by decide +kernel)) (And.intro (by simp [chk, disj_cons, disj_bag, disj_bag', disj_nl, disj_nr]) ?_)
    refine CallsX.none hU ?_
    simp only [absE, absL, absF, reduceCtorEq, ↓reduceIte, Nat.reduceEqDiff, Nat.reduceAdd, Nat.reduceLT, Nat.reduceMul, Nat.reduceSub, Nat.reduceLeDiff, Int.reduceLT, Int.reduceLE, Int.reduceEq, Option.isSome_some, implies_true, false_implies, Prod.mk.injEq, ne_eq, not_false_eq_true, not_true_eq_false, ge_iff_le, gt_iff_lt, Int.toNat_natCast, Int.reduceToNat, Int.cast_ofNat_Int, Int.natCast_nonneg]
    refine And.intro (by simp [chk, disj_cons, disj_bag, disj_bag', disj_nl, disj_nr]) ?_
    refine solve_x (g := 16) (d := 19) (due := unitK k 0) (by decide) (by decide) (by decide) (by decide) (by decide) (by decide) (Row.cons (by decide) Row.new) (by simp [assoc, ib, unitK_len]) hp hN hN1 hIl hmI unitK_len (unitK_rng hp hN1) ?_
    intro ups rd loc' hu hl f0 f1 f2
    refine And.intro (chk_w (l := [7, 6, 5, 4, 3, 2, 1, 0]) rfl (by decide +kernel)) ?_
    have hKl : (0 : Int) < ((sovK p k I).length : Nat) := by have := List.length_pos_iff.2 hK; omega
    simp only [hu]
    cases hokk : decide (fsP k (sovS p k (sovD p k I) (unitK k 0) (sovD p k I).length).1 = k)
    · simp only [absE, absL, absF, reduceCtorEq, ↓reduceIte, Nat.reduceEqDiff, Nat.reduceAdd, Nat.reduceLT, Nat.reduceMul, Nat.reduceSub, Nat.reduceLeDiff, Int.reduceLT, Int.reduceLE, Int.reduceEq, Option.isSome_some, implies_true, false_implies, Prod.mk.injEq, ne_eq, not_false_eq_true, not_true_eq_false, ge_iff_le, gt_iff_lt, Int.toNat_natCast, Int.reduceToNat, Int.cast_ofNat_Int, Int.natCast_nonneg, hKl, Try.results11]
      exact ⟨[], by simp, by simp, by simp [renV, renVs, renAt], by simp [renBlk, renSegs, renSg], by simp⟩
    · simp only [absE, absL, absF, reduceCtorEq, ↓reduceIte, Nat.reduceEqDiff, Nat.reduceAdd, Nat.reduceLT, Nat.reduceMul, Nat.reduceSub, Nat.reduceLeDiff, Int.reduceLT, Int.reduceLE, Int.reduceEq, Option.isSome_some, implies_true, false_implies, Prod.mk.injEq, ne_eq, not_false_eq_true, not_true_eq_false, ge_iff_le, gt_iff_lt, Int.toNat_natCast, Int.reduceToNat, Int.cast_ofNat_Int, Int.natCast_nonneg, hKl, Try.results11]
      exact ⟨[], by simp, by simp, by simp [renV, renVs, renAt], by simp [renBlk, renSegs, renSg], by simp⟩
  · have e := riC_code h1
    refine acalls_of_body mix Try.func11 rfl fok11 (Nat.le_of_ble_eq_true rfl) ?_
    unfold abody
    simp only [absE, absL, absF, reduceCtorEq, ↓reduceIte, Nat.reduceEqDiff, Nat.reduceAdd, Nat.reduceLT, Nat.reduceMul, Nat.reduceSub, Nat.reduceLeDiff, Int.reduceLT, Int.reduceLE, Int.reduceEq, Option.isSome_some, implies_true, false_implies, Prod.mk.injEq, ne_eq, not_false_eq_true, not_true_eq_false, ge_iff_le, gt_iff_lt, Int.toNat_natCast, Int.reduceToNat, Int.cast_ofNat_Int, Int.natCast_nonneg, Try.f11]
    refine CallsVia.args [(7, 0), (0, 0)] (l10Code1_ok n t p xs k ht hx hk) (by simp) (by simp [Mem.get, assoc]) rfl rfl ?_
    rintro _ _ _ ⟨rfl, rfl, rfl⟩
    simp only [absE, absL, absF, reduceCtorEq, ↓reduceIte, Nat.reduceEqDiff, Nat.reduceAdd, Nat.reduceLT, Nat.reduceMul, Nat.reduceSub, Nat.reduceLeDiff, Int.reduceLT, Int.reduceLE, Int.reduceEq, Option.isSome_some, implies_true, false_implies, Prod.mk.injEq, ne_eq, not_false_eq_true, not_true_eq_false, ge_iff_le, gt_iff_lt, Int.toNat_natCast, Int.reduceToNat, Int.cast_ofNat_Int, Int.natCast_nonneg, h1, Try.results11]
    exact ⟨[], by simp, by simp, by simp [renV, renVs, renAt, e], by simp [renBlk, renSegs, renSg], by simp⟩

end Go.Proofs.Ytjmenocghjggcaa
