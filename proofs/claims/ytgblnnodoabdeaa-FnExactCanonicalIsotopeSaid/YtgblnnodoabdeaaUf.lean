/-
Contracts of functions of the given program, by the abstract walk.
-/
import Derived.Test.YtgblnnodoabdeaaAbsY
import Derived.Test.YtgblnnodoabdeaaUe
import Derived.Test.YtgblnnodoabdeaaDi
namespace Go.Proofs.Ytgblnnodoabdeaa
open Go Go.Abs
set_option linter.unusedVariables false
set_option linter.unusedSectionVars false
set_option linter.unusedSimpArgs false
set_option maxRecDepth 100000
/-! canonical; CanonicalLoop, CanonicalIsotope -/
theorem mask_id {N : Nat} (h1 : 1 ≤ N) (hN : N ≤ 10) : mask (pl (idL N)) 1 = 1 := by
  have e : pl (idL N) 0 = 0 := pl_mapL hN h1
  simp [mask, e]
theorem pre_id {N : Nat} (h1 : 1 ≤ N) (hN : N ≤ 10) : Pre N 1 (idL N) := by
  have pf := permP_f (idL_perm h1 hN)
  exact ⟨idL_bytes hN, fun j hj => pf.lt hN (by omega), fun a b ha hb _ => by omega, fun j hj h10 => pf.zero h10 (by omega)⟩
theorem orders1Id_ok (N : Nat) (t : List Int) (ht : Bytes 100 t) (hs : SqP N t) :
    ACalls Try.prog 157 [.i .i64 1, .i .i64 1, .ref (.ptr 0 0 0 0), .ref (.ptr 0 1 0 0), .ref (.ptr 0 2 0 0), .ref (.ptr 0 3 0 0)] (oArgs N t (idL N) t)
      (fun v ms ns => v = .tup [] ∧ ms = oArgs N t (lstP N (N - 1) 1 (idL N)) (canT N t) ∧ ns = []) := by
  have h1 := hs.pos
  have hN := hs.le
  have h := orders1_ok N t ht hs (N - 1) (by omega) (idL N) t (by rw [show N - (N - 1) = 1 by omega]; exact pre_id h1 hN) ht
  rw [show N - (N - 1) = 1 by omega, mask_id h1 hN] at h
  refine h.mono ?_
  rintro _ _ _ ⟨b, ⟨_, _, _, hL⟩, rfl, rfl, rfl⟩
  rw [canT_eq hL]
  exact ⟨rfl, rfl, rfl⟩
theorem canT_ok (N : Nat) (t : List Int) (ht : Bytes 100 t) (hs : SqP N t) : Bytes 100 (canT N t) := by
  obtain ⟨hB, hL⟩ : ∃ b, Bytes 100 b ∧ Least (extS N t (idL N) 1) t b := by
    have h1 := hs.pos
    have hN := hs.le
    -- the least of finitely many: by the recursion over the places
    have key : ∀ d, d ≤ N → ∀ (p b : List Int), Bytes 10 p → PermP N p → Bytes 100 b → ∃ c, Bytes 100 c ∧ Least (extS N t p (N - d)) b c := by
      intro d
      induction d with
      | zero =>
        intro _ p b hp pp hb
        refine ⟨if cmpR (isoT N t p p p N) b < 0 then isoT N t p p p N else b, ?_, Least.one.congr (extS_all hp pp)⟩
        split
        · exact isoT_bytes hp
        · exact hb
      | succ d ih =>
        intro hd p b hp pp hb
        rw [show N - d = N - (d + 1) + 1 by omega] at ih
        replace ih := ih (by omega)
        generalize hk : N - (d + 1) = k at ih ⊢
        have hkN : k < N := by omega
        have step : ∀ x, k ≤ x → x ≤ N → ∃ c, Bytes 100 c ∧ Least (swS N t p k x) b c := by
          intro x hx
          induction x with
          | zero => intro _; obtain rfl : k = 0 := by omega
                    exact ⟨b, hb, Least.nil swS_none⟩
          | succ x ihx =>
            intro hxN
            by_cases e : k = x + 1
            · subst e; exact ⟨b, hb, Least.nil swS_none⟩
            · obtain ⟨c, hc, hL⟩ := ihx (by omega) (by omega)
              obtain ⟨c', hc', hL'⟩ := ih (swp p k x) c (swp_bytes hp) (swp_perm hp pp hkN (by omega)) hc
              exact ⟨c', hc', hL.trans hL' (swS_next (by omega))⟩
        obtain ⟨c, hc, hL⟩ := step N (by omega) (Nat.le_refl N)
        exact ⟨c, hc, hL.congr (swS_all hp pp hkN)⟩
    have := key (N - 1) (by omega) (idL N) t (idL_bytes hN) (idL_perm h1 hN) ht
    rwa [show N - (N - 1) = 1 by omega] at this
  exact canT_bytes ht ⟨hB, hL⟩
theorem orders_ok (N : Nat) (t : List Int) (ht : Bytes 100 t) (hs : SqP N t) :
    ACalls Try.prog 122 [.i .i64 N, .i .i64 1, .ref (.fn 123 [(0, 0, 0, 0), (0, 1, 0, 0)])] [.lv true (sqS N t), .lv true (sqS N t)]
      (fun v ms ns => v = .tup [] ∧ ms = [.lv true (sqS N t), .lv true (sqS N (canT N t))] ∧ ns = []) := by
  have hN := hs.le
  have hO := orders1Id_ok N t ht hs
  unfold oArgs at hO
  refine acalls_of_body mix Try.func122 rfl fok122 (Nat.le_of_ble_eq_true rfl) ?_
  unfold abody
  simp only [absE, absL, absF, reduceCtorEq, ↓reduceIte, Nat.reduceEqDiff, Nat.reduceAdd, Nat.reduceLT, Nat.reduceMul, Nat.reduceSub, Nat.reduceLeDiff, Int.reduceLT, Int.reduceLE, Int.reduceEq, Option.isSome_some, implies_true, false_implies, Prod.mk.injEq, ne_eq, not_false_eq_true, not_true_eq_false, ge_iff_le, gt_iff_lt, Int.toNat_natCast, Int.reduceToNat, Int.cast_ofNat_Int, Int.natCast_nonneg, Try.f122]
  refine CallsVia.none (implIdentity_ok N hN) ?_
  rintro _ _ _ ⟨rfl, rfl, rfl⟩
  simp only [absE, absL, absF, reduceCtorEq, ↓reduceIte, Nat.reduceEqDiff, Nat.reduceAdd, Nat.reduceLT, Nat.reduceMul, Nat.reduceSub, Nat.reduceLeDiff, Int.reduceLT, Int.reduceLE, Int.reduceEq, Option.isSome_some, implies_true, false_implies, Prod.mk.injEq, ne_eq, not_false_eq_true, not_true_eq_false, ge_iff_le, gt_iff_lt, Int.toNat_natCast, Int.reduceToNat, Int.cast_ofNat_Int, Int.natCast_nonneg]
  have w1 : IntKind.i64.wrap (IntKind.i64.wrap (1 * 2 ^ min 1 IntKind.i64.bits) - 1) = 1 := by decide
  simp only [w1]
  refine CallsX.args [(1, 0), (2, 0), (5, 0), (7, 0), (0, 0), (0, 1)] hO (by simp) (by simp [Mem.get, assoc]) rfl rfl ?_
  simp only [absE, absL, absF, reduceCtorEq, ↓reduceIte, Nat.reduceEqDiff, Nat.reduceAdd, Nat.reduceLT, Nat.reduceMul, Nat.reduceSub, Nat.reduceLeDiff, Int.reduceLT, Int.reduceLE, Int.reduceEq, Option.isSome_some, implies_true, false_implies, Prod.mk.injEq, ne_eq, not_false_eq_true, not_true_eq_false, ge_iff_le, gt_iff_lt, Int.toNat_natCast, Int.reduceToNat, Int.cast_ofNat_Int, Int.natCast_nonneg, Try.results122]
  repeat refine And.intro (by decide +kernel) ?_
  exact ⟨[], by simp, by simp, by simp [renV, renVs], by simp [renBlk, renSegs, renSg], by simp⟩
theorem canonical_ok (N : Nat) (t : List Int) (ht : Bytes 100 t) (hs : SqP N t) :
    ACalls Try.prog 77 [.agg (sqS N t)] [] (fun v ms ns => v = .agg (sqS N (canT N t)) ∧ ms = [] ∧ ns = []) := by
  have hO := orders_ok N t ht hs
  refine acalls_of_body mix Try.func77 rfl fok77 (Nat.le_of_ble_eq_true rfl) ?_
  unfold abody
  simp only [absE, absL, absF, reduceCtorEq, ↓reduceIte, Nat.reduceEqDiff, Nat.reduceAdd, Nat.reduceLT, Nat.reduceMul, Nat.reduceSub, Nat.reduceLeDiff, Int.reduceLT, Int.reduceLE, Int.reduceEq, Option.isSome_some, implies_true, false_implies, Prod.mk.injEq, ne_eq, not_false_eq_true, not_true_eq_false, ge_iff_le, gt_iff_lt, Int.toNat_natCast, Int.reduceToNat, Int.cast_ofNat_Int, Int.natCast_nonneg, Try.f77]
  refine CallsVia.args [(1, 0), (4, 0)] hO (by simp) (by simp [Mem.get, assoc]) rfl rfl ?_
  rintro _ _ _ ⟨rfl, rfl, rfl⟩
  simp only [absE, absL, absF, reduceCtorEq, ↓reduceIte, Nat.reduceEqDiff, Nat.reduceAdd, Nat.reduceLT, Nat.reduceMul, Nat.reduceSub, Nat.reduceLeDiff, Int.reduceLT, Int.reduceLE, Int.reduceEq, Option.isSome_some, implies_true, false_implies, Prod.mk.injEq, ne_eq, not_false_eq_true, not_true_eq_false, ge_iff_le, gt_iff_lt, Int.toNat_natCast, Int.reduceToNat, Int.cast_ofNat_Int, Int.natCast_nonneg, Try.results77]
  exact ⟨[], by simp, by simp, by simp [renV, renVs, renSegs, renSg]⟩
noncomputable def cnlC (n : Int) (t : List Int) : Int := if sqB n t then (if loopB n t then (if 7 < n then 3 else 0) else 5) else 1
noncomputable def cnlR (n : Int) (t : List Int) : AV := resSq (cnlC n t) n (if cnlC n t = 0 then canT n.toNat t else List.replicate 100 0)
theorem cnl_form (n : Int) (t : List Int) (ht : Bytes 100 t) : ∃ k s e, s.length = 100 ∧ cnlR n t = .tup [.agg (sqS k s), .i .i64 e] := by
  refine resSq_form _ _ ?_
  split
  · rename_i h
    have hs : SqP n t := by
      unfold cnlC at h
      split at h
      · rename_i h1; exact sqB_iff.1 h1
      · cases h
    obtain ⟨N, rfl⟩ : ∃ N : Nat, n = N := ⟨n.toNat, by have := hs.1; omega⟩
    exact (canT_ok N t ht hs).len
  · simp
theorem implCnl_ok (n : Int) (t : List Int) (ht : Bytes 100 t) : ACalls Try.prog 34 [.agg (sqS n t)] [] (fun v ms ns => v = cnlR n t ∧ ms = [] ∧ ns = []) := by
  refine acalls_of_body mix Try.func34 rfl fok34 (Nat.le_of_ble_eq_true rfl) ?_
  unfold abody
  simp only [absE, absL, absF, reduceCtorEq, ↓reduceIte, Nat.reduceEqDiff, Nat.reduceAdd, Nat.reduceLT, Nat.reduceMul, Nat.reduceSub, Nat.reduceLeDiff, Int.reduceLT, Int.reduceLE, Int.reduceEq, Option.isSome_some, implies_true, false_implies, Prod.mk.injEq, ne_eq, not_false_eq_true, not_true_eq_false, ge_iff_le, gt_iff_lt, Int.toNat_natCast, Int.reduceToNat, Int.cast_ofNat_Int, Int.natCast_nonneg, Try.f34]
  refine CallsVia.none (isSquare_ok n t ht) ?_
  rintro _ _ _ ⟨rfl, rfl, rfl⟩
  cases h1 : sqB n t
  · have e : cnlC n t = 1 := by unfold cnlC; rw [h1]; rfl
    have e2 : cnlR n t = .tup [.agg (sqS 0 (List.replicate 100 0)), .i .i64 1] := by unfold cnlR; rw [resSqN (by rw [e]; decide), e]
    simp only [absE, absL, absF, reduceCtorEq, ↓reduceIte, Nat.reduceEqDiff, Nat.reduceAdd, Nat.reduceLT, Nat.reduceMul, Nat.reduceSub, Nat.reduceLeDiff, Int.reduceLT, Int.reduceLE, Int.reduceEq, Option.isSome_some, implies_true, false_implies, Prod.mk.injEq, ne_eq, not_false_eq_true, not_true_eq_false, ge_iff_le, gt_iff_lt, Int.toNat_natCast, Int.reduceToNat, Int.cast_ofNat_Int, Int.natCast_nonneg, h1, Try.results34]
    exact ⟨[], by simp, by simp, by simp [renV, renVs, renSegs, renSg, e2]⟩
  · simp only [absE, absL, absF, reduceCtorEq, ↓reduceIte, Nat.reduceEqDiff, Nat.reduceAdd, Nat.reduceLT, Nat.reduceMul, Nat.reduceSub, Nat.reduceLeDiff, Int.reduceLT, Int.reduceLE, Int.reduceEq, Option.isSome_some, implies_true, false_implies, Prod.mk.injEq, ne_eq, not_false_eq_true, not_true_eq_false, ge_iff_le, gt_iff_lt, Int.toNat_natCast, Int.reduceToNat, Int.cast_ofNat_Int, Int.natCast_nonneg, h1]
    refine CallsVia.none (isLoop_ok n t ht) ?_
    rintro _ _ _ ⟨rfl, rfl, rfl⟩
    cases h2 : loopB n t
    · have e : cnlC n t = 5 := by unfold cnlC; rw [h1, h2]; rfl
      have e2 : cnlR n t = .tup [.agg (sqS 0 (List.replicate 100 0)), .i .i64 5] := by unfold cnlR; rw [resSqN (by rw [e]; decide), e]
      simp only [absE, absL, absF, reduceCtorEq, ↓reduceIte, Nat.reduceEqDiff, Nat.reduceAdd, Nat.reduceLT, Nat.reduceMul, Nat.reduceSub, Nat.reduceLeDiff, Int.reduceLT, Int.reduceLE, Int.reduceEq, Option.isSome_some, implies_true, false_implies, Prod.mk.injEq, ne_eq, not_false_eq_true, not_true_eq_false, ge_iff_le, gt_iff_lt, Int.toNat_natCast, Int.reduceToNat, Int.cast_ofNat_Int, Int.natCast_nonneg, h2, Try.results34]
      exact ⟨[], by simp, by simp, by simp [renV, renVs, renSegs, renSg, e2]⟩
    · have hs := sqB_iff.1 h1
      obtain ⟨N, rfl⟩ : ∃ N : Nat, n = N := ⟨n.toNat, by have := hs.1; omega⟩
      by_cases h3 : (7 : Int) < N
      · have e : cnlC N t = 3 := by unfold cnlC; rw [h1, h2, if_pos h3]; rfl
        have e2 : cnlR N t = .tup [.agg (sqS 0 (List.replicate 100 0)), .i .i64 3] := by unfold cnlR; rw [resSqN (by rw [e]; decide), e]
        simp only [absE, absL, absF, reduceCtorEq, ↓reduceIte, Nat.reduceEqDiff, Nat.reduceAdd, Nat.reduceLT, Nat.reduceMul, Nat.reduceSub, Nat.reduceLeDiff, Int.reduceLT, Int.reduceLE, Int.reduceEq, Option.isSome_some, implies_true, false_implies, Prod.mk.injEq, ne_eq, not_false_eq_true, not_true_eq_false, ge_iff_le, gt_iff_lt, Int.toNat_natCast, Int.reduceToNat, Int.cast_ofNat_Int, Int.natCast_nonneg, h2, h3, Try.results34]
        exact ⟨[], by simp, by simp, by simp [renV, renVs, renSegs, renSg, e2]⟩
      · have e : cnlC N t = 0 := by unfold cnlC; rw [h1, h2, if_neg h3]; rfl
        have e2 : cnlR N t = .tup [.agg (sqS N (canT N t)), .i .i64 0] := by unfold cnlR; rw [resSq0 e, if_pos e, Int.toNat_natCast]
        simp only [absE, absL, absF, reduceCtorEq, ↓reduceIte, Nat.reduceEqDiff, Nat.reduceAdd, Nat.reduceLT, Nat.reduceMul, Nat.reduceSub, Nat.reduceLeDiff, Int.reduceLT, Int.reduceLE, Int.reduceEq, Option.isSome_some, implies_true, false_implies, Prod.mk.injEq, ne_eq, not_false_eq_true, not_true_eq_false, ge_iff_le, gt_iff_lt, Int.toNat_natCast, Int.reduceToNat, Int.cast_ofNat_Int, Int.natCast_nonneg, h2, h3]
        refine CallsVia.none (canonical_ok N t ht hs) ?_
        rintro _ _ _ ⟨rfl, rfl, rfl⟩
        simp only [absE, absL, absF, reduceCtorEq, ↓reduceIte, Nat.reduceEqDiff, Nat.reduceAdd, Nat.reduceLT, Nat.reduceMul, Nat.reduceSub, Nat.reduceLeDiff, Int.reduceLT, Int.reduceLE, Int.reduceEq, Option.isSome_some, implies_true, false_implies, Prod.mk.injEq, ne_eq, not_false_eq_true, not_true_eq_false, ge_iff_le, gt_iff_lt, Int.toNat_natCast, Int.reduceToNat, Int.cast_ofNat_Int, Int.natCast_nonneg, Try.results34]
        exact ⟨[], by simp, by simp, by simp [renV, renVs, renSegs, renSg, e2]⟩
theorem specCnl_ok (n : Int) (t : List Int) (ht : Bytes 100 t) : ACalls Try.prog 33 [.agg (sqS n t)] [] (fun v ms ns => v = cnlR n t ∧ ms = [] ∧ ns = []) := by
  refine acalls_of_body mix Try.func33 rfl fok33 (Nat.le_of_ble_eq_true rfl) ?_
  unfold abody
  simp only [absE, absL, absF, reduceCtorEq, ↓reduceIte, Nat.reduceEqDiff, Nat.reduceAdd, Nat.reduceLT, Nat.reduceMul, Nat.reduceSub, Nat.reduceLeDiff, Int.reduceLT, Int.reduceLE, Int.reduceEq, Option.isSome_some, implies_true, false_implies, Prod.mk.injEq, ne_eq, not_false_eq_true, not_true_eq_false, ge_iff_le, gt_iff_lt, Int.toNat_natCast, Int.reduceToNat, Int.cast_ofNat_Int, Int.natCast_nonneg, Try.f33]
  refine CallsVia.none (l01Is_ok n t ht) ?_
  rintro _ _ _ ⟨rfl, rfl, rfl⟩
  cases h1 : sqB n t
  · have e : cnlC n t = 1 := by unfold cnlC; rw [h1]; rfl
    have e2 : cnlR n t = .tup [.agg (sqS 0 (List.replicate 100 0)), .i .i64 1] := by unfold cnlR; rw [resSqN (by rw [e]; decide), e]
    simp only [absE, absL, absF, reduceCtorEq, ↓reduceIte, Nat.reduceEqDiff, Nat.reduceAdd, Nat.reduceLT, Nat.reduceMul, Nat.reduceSub, Nat.reduceLeDiff, Int.reduceLT, Int.reduceLE, Int.reduceEq, Option.isSome_some, implies_true, false_implies, Prod.mk.injEq, ne_eq, not_false_eq_true, not_true_eq_false, ge_iff_le, gt_iff_lt, Int.toNat_natCast, Int.reduceToNat, Int.cast_ofNat_Int, Int.natCast_nonneg, h1, Try.results33]
    exact ⟨[], by simp, by simp, by simp [renV, renVs, renSegs, renSg, e2]⟩
  · simp only [absE, absL, absF, reduceCtorEq, ↓reduceIte, Nat.reduceEqDiff, Nat.reduceAdd, Nat.reduceLT, Nat.reduceMul, Nat.reduceSub, Nat.reduceLeDiff, Int.reduceLT, Int.reduceLE, Int.reduceEq, Option.isSome_some, implies_true, false_implies, Prod.mk.injEq, ne_eq, not_false_eq_true, not_true_eq_false, ge_iff_le, gt_iff_lt, Int.toNat_natCast, Int.reduceToNat, Int.cast_ofNat_Int, Int.natCast_nonneg, h1]
    refine CallsVia.none (l01Loop_ok n t ht) ?_
    rintro _ _ _ ⟨rfl, rfl, rfl⟩
    cases h2 : loopB n t
    · have e : cnlC n t = 5 := by unfold cnlC; rw [h1, h2]; rfl
      have e2 : cnlR n t = .tup [.agg (sqS 0 (List.replicate 100 0)), .i .i64 5] := by unfold cnlR; rw [resSqN (by rw [e]; decide), e]
      simp only [absE, absL, absF, reduceCtorEq, ↓reduceIte, Nat.reduceEqDiff, Nat.reduceAdd, Nat.reduceLT, Nat.reduceMul, Nat.reduceSub, Nat.reduceLeDiff, Int.reduceLT, Int.reduceLE, Int.reduceEq, Option.isSome_some, implies_true, false_implies, Prod.mk.injEq, ne_eq, not_false_eq_true, not_true_eq_false, ge_iff_le, gt_iff_lt, Int.toNat_natCast, Int.reduceToNat, Int.cast_ofNat_Int, Int.natCast_nonneg, h2, Try.results33]
      exact ⟨[], by simp, by simp, by simp [renV, renVs, renSegs, renSg, e2]⟩
    · have hs := sqB_iff.1 h1
      obtain ⟨N, rfl⟩ : ∃ N : Nat, n = N := ⟨n.toNat, by have := hs.1; omega⟩
      by_cases h3 : (7 : Int) < N
      · have e : cnlC N t = 3 := by unfold cnlC; rw [h1, h2, if_pos h3]; rfl
        have e2 : cnlR N t = .tup [.agg (sqS 0 (List.replicate 100 0)), .i .i64 3] := by unfold cnlR; rw [resSqN (by rw [e]; decide), e]
        simp only [absE, absL, absF, reduceCtorEq, ↓reduceIte, Nat.reduceEqDiff, Nat.reduceAdd, Nat.reduceLT, Nat.reduceMul, Nat.reduceSub, Nat.reduceLeDiff, Int.reduceLT, Int.reduceLE, Int.reduceEq, Option.isSome_some, implies_true, false_implies, Prod.mk.injEq, ne_eq, not_false_eq_true, not_true_eq_false, ge_iff_le, gt_iff_lt, Int.toNat_natCast, Int.reduceToNat, Int.cast_ofNat_Int, Int.natCast_nonneg, h2, h3, Try.results33]
        exact ⟨[], by simp, by simp, by simp [renV, renVs, renSegs, renSg, e2]⟩
      · have e : cnlC N t = 0 := by unfold cnlC; rw [h1, h2, if_neg h3]; rfl
        have e2 : cnlR N t = .tup [.agg (sqS N (canT N t)), .i .i64 0] := by unfold cnlR; rw [resSq0 e, if_pos e, Int.toNat_natCast]
        simp only [absE, absL, absF, reduceCtorEq, ↓reduceIte, Nat.reduceEqDiff, Nat.reduceAdd, Nat.reduceLT, Nat.reduceMul, Nat.reduceSub, Nat.reduceLeDiff, Int.reduceLT, Int.reduceLE, Int.reduceEq, Option.isSome_some, implies_true, false_implies, Prod.mk.injEq, ne_eq, not_false_eq_true, not_true_eq_false, ge_iff_le, gt_iff_lt, Int.toNat_natCast, Int.reduceToNat, Int.cast_ofNat_Int, Int.natCast_nonneg, h2, h3]
        refine CallsVia.none (l02Canonical_ok N t ht hs) ?_
        rintro _ _ _ ⟨rfl, rfl, rfl⟩
        simp only [absE, absL, absF, reduceCtorEq, ↓reduceIte, Nat.reduceEqDiff, Nat.reduceAdd, Nat.reduceLT, Nat.reduceMul, Nat.reduceSub, Nat.reduceLeDiff, Int.reduceLT, Int.reduceLE, Int.reduceEq, Option.isSome_some, implies_true, false_implies, Prod.mk.injEq, ne_eq, not_false_eq_true, not_true_eq_false, ge_iff_le, gt_iff_lt, Int.toNat_natCast, Int.reduceToNat, Int.cast_ofNat_Int, Int.natCast_nonneg, Try.results33]
        exact ⟨[], by simp, by simp, by simp [renV, renVs, renSegs, renSg, e2]⟩

end Go.Proofs.Ytgblnnodoabdeaa
