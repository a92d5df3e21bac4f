/-
Contracts of functions of the given program, by the abstract walk.
-/
import Derived.Test.YtgblnnodoabdeaaAbsY
import Derived.Test.YtgblnnodoabdeaaUn
import Derived.Test.YtgblnnodoabdeaaMd
namespace Go.Proofs.Ytgblnnodoabdeaa
open Go Go.Abs
set_option linter.unusedVariables false
set_option linter.unusedSectionVars false
set_option linter.unusedSimpArgs false
set_option maxRecDepth 100000
/-! isomorphisms: the reference -/
noncomputable def isoM (most N : Nat) (t s : List Int) : List (List Int) := ism N t s (ltM most) (N + 1) freeL []
def nlV (L : List (List Int)) : AV := match L with | [] => .ref .nils | _ => .ref (.sl 1 0 0 0 L.length 10)
def nlN (L : List (List Int)) : List Blk := match L with | [] => [] | _ => [plB L]
theorem mapsD_ok (N : Nat) (t s : List Int) (most : Nat) (ht : Bytes 100 t) (hs : Bytes 100 s) (st : SqP N t) (ss : SqP N s) (hm0 : 0 < most) (hm : most ≤ 1000000) :
    ACalls Try.prog 111 [.agg (sqS N t), .agg (sqS N s), .agg (lmS N freeL), .i .i64 most, .ref .nils] [] (fun v ms ns => v = nlV (isoM most N t s) ∧ ms = [] ∧ ns = nlN (isoM most N t s)) := by
  have h := mapsN_ok N t s most ht hs st ss hm0 hm (N + 1) freeL (free_good st.le) (by omega)
  refine h.mono ?_
  rintro v ms ns (⟨h1, rfl, rfl, rfl⟩ | ⟨h1, rfl, rfl, rfl⟩)
  · have h1 : isoM most N t s = [] := h1
    rw [h1]; exact ⟨rfl, rfl, rfl⟩
  · have e : ∀ L : List (List Int), L ≠ [] → AV.ref (.sl 1 0 0 0 L.length 10) = nlV L ∧ [plB L] = nlN L := fun L hL => by
      cases L with
      | nil => exact absurd rfl hL
      | cons a r => exact ⟨rfl, rfl⟩
    have := e (isoM most N t s) h1
    exact ⟨this.1, rfl, this.2⟩
theorem l02All_ne (n m : Int) (t s : List Int) (most : Nat) (h : n ≠ m) :
    ACalls Try.prog 66 [.agg (sqS n t), .agg (sqS m s), .i .i64 most] [] (fun v ms ns => v = .ref .nils ∧ ms = [] ∧ ns = []) := by
  refine acalls_of_body mix Try.func66 rfl fok66 (Nat.le_of_ble_eq_true rfl) ?_
  unfold abody
  simp only [absE, absL, absF, reduceCtorEq, ↓reduceIte, Nat.reduceEqDiff, Nat.reduceAdd, Nat.reduceLT, Nat.reduceMul, Nat.reduceSub, Nat.reduceLeDiff, Int.reduceLT, Int.reduceLE, Int.reduceEq, Option.isSome_some, implies_true, false_implies, Prod.mk.injEq, ne_eq, not_false_eq_true, not_true_eq_false, ge_iff_le, gt_iff_lt, Int.toNat_natCast, Int.reduceToNat, Int.cast_ofNat_Int, Int.natCast_nonneg, h, Try.f66, Try.results66]
  exact ⟨[], by simp, by simp, by simp [renV, renVs, renSegs, renSg, renAt]⟩
theorem l02All_eq (N : Nat) (t s : List Int) (most : Nat) (ht : Bytes 100 t) (hs : Bytes 100 s) (st : SqP N t) (ss : SqP N s) (hm0 : 0 < most) (hm : most ≤ 1000000) :
    ACalls Try.prog 66 [.agg (sqS N t), .agg (sqS N s), .i .i64 most] [] (fun v ms ns => (isoM most N t s = [] ∧ v = .ref .nils ∧ ms = [] ∧ ns = []) ∨ (isoM most N t s ≠ [] ∧ v = .ref (.sl 1 0 0 0 (isoM most N t s).length 10) ∧ ms = [] ∧ ns = [plB (isoM most N t s)])) := by
  have hN := st.le
  have hM := mapsD_ok N t s most ht hs st ss hm0 hm
  refine acalls_of_body mix Try.func66 rfl fok66 (Nat.le_of_ble_eq_true rfl) ?_
  unfold abody
  simp only [absE, absL, absF, reduceCtorEq, ↓reduceIte, Nat.reduceEqDiff, Nat.reduceAdd, Nat.reduceLT, Nat.reduceMul, Nat.reduceSub, Nat.reduceLeDiff, Int.reduceLT, Int.reduceLE, Int.reduceEq, Option.isSome_some, implies_true, false_implies, Prod.mk.injEq, ne_eq, not_false_eq_true, not_true_eq_false, ge_iff_le, gt_iff_lt, Int.toNat_natCast, Int.reduceToNat, Int.cast_ofNat_Int, Int.natCast_nonneg, Try.f66]
  refine CallsX.none (l02Start_ok N hN) ?_
  simp only [absE, absL, absF, reduceCtorEq, ↓reduceIte, Nat.reduceEqDiff, Nat.reduceAdd, Nat.reduceLT, Nat.reduceMul, Nat.reduceSub, Nat.reduceLeDiff, Int.reduceLT, Int.reduceLE, Int.reduceEq, Option.isSome_some, implies_true, false_implies, Prod.mk.injEq, ne_eq, not_false_eq_true, not_true_eq_false, ge_iff_le, gt_iff_lt, Int.toNat_natCast, Int.reduceToNat, Int.cast_ofNat_Int, Int.natCast_nonneg]
  repeat refine And.intro (by decide +kernel) ?_
  cases hL : isoM most N t s with
  | nil =>
    rw [hL] at hM
    refine CallsX.none (hM) ?_
    simp only [absE, absL, absF, reduceCtorEq, ↓reduceIte, Nat.reduceEqDiff, Nat.reduceAdd, Nat.reduceLT, Nat.reduceMul, Nat.reduceSub, Nat.reduceLeDiff, Int.reduceLT, Int.reduceLE, Int.reduceEq, Option.isSome_some, implies_true, false_implies, Prod.mk.injEq, ne_eq, not_false_eq_true, not_true_eq_false, ge_iff_le, gt_iff_lt, Int.toNat_natCast, Int.reduceToNat, Int.cast_ofNat_Int, Int.natCast_nonneg, nlV, nlN, Try.results66]
    repeat refine And.intro (by decide +kernel) ?_
    exact ⟨[], by simp, by simp, .inl ⟨rfl, by simp [renV, renAt], by simp, by simp⟩⟩
  | cons p r =>
    rw [hL] at hM
    refine CallsX.none (hM) ?_
    simp only [absE, absL, absF, reduceCtorEq, ↓reduceIte, Nat.reduceEqDiff, Nat.reduceAdd, Nat.reduceLT, Nat.reduceMul, Nat.reduceSub, Nat.reduceLeDiff, Int.reduceLT, Int.reduceLE, Int.reduceEq, Option.isSome_some, implies_true, false_implies, Prod.mk.injEq, ne_eq, not_false_eq_true, not_true_eq_false, ge_iff_le, gt_iff_lt, Int.toNat_natCast, Int.reduceToNat, Int.cast_ofNat_Int, Int.natCast_nonneg, nlV, nlN, Try.results66]
    repeat refine And.intro (by decide +kernel) ?_
    exact ⟨[(13, 0)], by simp, by simp, .inr ⟨by simp, by simp [renV, renAt, renOut, renFin, idx], by simp, by simp [plB, Mem.get, assoc, renBlk, renSegs, renSg]⟩⟩
theorem isoM_all {N : Nat} {t s : List Int} (st : SqP N t) (ss : SqP N s) : isoM 1000000 N t s = ism N t s noM (N + 1) freeL [] := ism_million st.le st ss
noncomputable def autC (n : Int) (t : List Int) : Int := if sqB n t then 0 else 1
noncomputable def autR (n : Int) (t : List Int) : List (List Int) := isoM 1000000 n.toNat t t
theorem autC_zero {n : Int} {t : List Int} (h : autC n t = 0) : SqP n t := by
  unfold autC at h
  split at h
  · rename_i h1; exact sqB_iff.1 h1
  · cases h
theorem autC_one {n : Int} {t : List Int} (h : autC n t ≠ 0) : sqB n t = false ∧ autC n t = 1 := by
  unfold autC at h ⊢
  cases h1 : sqB n t
  · exact ⟨rfl, rfl⟩
  · rw [h1] at h; exact absurd rfl h
def STup (L : List (List Int)) (v : AV) (ms ns : List Blk) : Prop :=
  (L = [] ∧ v = .tup [.ref .nils, .i .i64 0] ∧ ms = [] ∧ ns = []) ∨ (v = .tup [.ref (.sl 1 0 0 0 L.length 10), .i .i64 0] ∧ ms = [] ∧ ns = [plB L])
theorem specAut_no (n : Int) (t : List Int) (ht : Bytes 100 t) (h : autC n t ≠ 0) : ACalls Try.prog 28 [.agg (sqS n t)] [] (fun v ms ns => v = .tup [.ref .nils, .i .i64 (autC n t)] ∧ ms = [] ∧ ns = []) := by
  obtain ⟨h1, h2⟩ := autC_one h
  refine acalls_of_body mix Try.func28 rfl fok28 (Nat.le_of_ble_eq_true rfl) ?_
  unfold abody
  simp only [absE, absL, absF, reduceCtorEq, ↓reduceIte, Nat.reduceEqDiff, Nat.reduceAdd, Nat.reduceLT, Nat.reduceMul, Nat.reduceSub, Nat.reduceLeDiff, Int.reduceLT, Int.reduceLE, Int.reduceEq, Option.isSome_some, implies_true, false_implies, Prod.mk.injEq, ne_eq, not_false_eq_true, not_true_eq_false, ge_iff_le, gt_iff_lt, Int.toNat_natCast, Int.reduceToNat, Int.cast_ofNat_Int, Int.natCast_nonneg, Try.f28]
  refine CallsVia.none (l01Is_ok n t ht) ?_
  rintro _ _ _ ⟨rfl, rfl, rfl⟩
  simp only [absE, absL, absF, reduceCtorEq, ↓reduceIte, Nat.reduceEqDiff, Nat.reduceAdd, Nat.reduceLT, Nat.reduceMul, Nat.reduceSub, Nat.reduceLeDiff, Int.reduceLT, Int.reduceLE, Int.reduceEq, Option.isSome_some, implies_true, false_implies, Prod.mk.injEq, ne_eq, not_false_eq_true, not_true_eq_false, ge_iff_le, gt_iff_lt, Int.toNat_natCast, Int.reduceToNat, Int.cast_ofNat_Int, Int.natCast_nonneg, h1, Try.results28]
  exact ⟨[], by simp, by simp, by simp [renV, renVs, renSegs, renSg, h2, renAt]⟩
theorem specAut_yes (n : Int) (t : List Int) (ht : Bytes 100 t) (h : autC n t = 0) : ACalls Try.prog 28 [.agg (sqS n t)] [] (fun v ms ns => STup (autR n t) v ms ns) := by
  have hs := autC_zero h
  have hb := sqB_true hs
  obtain ⟨N, rfl⟩ : ∃ N : Nat, n = N := ⟨n.toNat, by have := hs.1; omega⟩
  have hA := l02All_eq N t t 1000000 ht ht hs hs (by decide) (by decide)
  refine acalls_of_body mix Try.func28 rfl fok28 (Nat.le_of_ble_eq_true rfl) ?_
  unfold abody
  simp only [absE, absL, absF, reduceCtorEq, ↓reduceIte, Nat.reduceEqDiff, Nat.reduceAdd, Nat.reduceLT, Nat.reduceMul, Nat.reduceSub, Nat.reduceLeDiff, Int.reduceLT, Int.reduceLE, Int.reduceEq, Option.isSome_some, implies_true, false_implies, Prod.mk.injEq, ne_eq, not_false_eq_true, not_true_eq_false, ge_iff_le, gt_iff_lt, Int.toNat_natCast, Int.reduceToNat, Int.cast_ofNat_Int, Int.natCast_nonneg, Try.f28]
  refine CallsVia.none (l01Is_ok N t ht) ?_
  rintro _ _ _ ⟨rfl, rfl, rfl⟩
  simp only [absE, absL, absF, reduceCtorEq, ↓reduceIte, Nat.reduceEqDiff, Nat.reduceAdd, Nat.reduceLT, Nat.reduceMul, Nat.reduceSub, Nat.reduceLeDiff, Int.reduceLT, Int.reduceLE, Int.reduceEq, Option.isSome_some, implies_true, false_implies, Prod.mk.injEq, ne_eq, not_false_eq_true, not_true_eq_false, ge_iff_le, gt_iff_lt, Int.toNat_natCast, Int.reduceToNat, Int.cast_ofNat_Int, Int.natCast_nonneg, hb]
  refine CallsVia.none hA ?_
  unfold autR
  rw [Int.toNat_natCast]
  rintro _ _ _ (⟨h1, rfl, rfl, rfl⟩ | ⟨h1, rfl, rfl, rfl⟩)
  · simp only [absE, absL, absF, reduceCtorEq, ↓reduceIte, Nat.reduceEqDiff, Nat.reduceAdd, Nat.reduceLT, Nat.reduceMul, Nat.reduceSub, Nat.reduceLeDiff, Int.reduceLT, Int.reduceLE, Int.reduceEq, Option.isSome_some, implies_true, false_implies, Prod.mk.injEq, ne_eq, not_false_eq_true, not_true_eq_false, ge_iff_le, gt_iff_lt, Int.toNat_natCast, Int.reduceToNat, Int.cast_ofNat_Int, Int.natCast_nonneg, Try.results28]
    exact ⟨[], by simp, by simp, .inl ⟨h1, by simp [renV, renVs, renAt], by simp, by simp⟩⟩
  · simp only [absE, absL, absF, reduceCtorEq, ↓reduceIte, Nat.reduceEqDiff, Nat.reduceAdd, Nat.reduceLT, Nat.reduceMul, Nat.reduceSub, Nat.reduceLeDiff, Int.reduceLT, Int.reduceLE, Int.reduceEq, Option.isSome_some, implies_true, false_implies, Prod.mk.injEq, ne_eq, not_false_eq_true, not_true_eq_false, ge_iff_le, gt_iff_lt, Int.toNat_natCast, Int.reduceToNat, Int.cast_ofNat_Int, Int.natCast_nonneg, Try.results28]
    exact ⟨[(9, 0)], by simp, by simp, .inr ⟨by simp [renV, renVs, renAt, renFin, idx], by simp, by simp [plB, Mem.get, assoc, renBlk, renSegs, renSg]⟩⟩
noncomputable def autN (n : Int) (t : List Int) : AV := .tup [.i .i64 (if autC n t = 0 then (((autR n t).length : Nat) : Int) else 0), .i .i64 (autC n t)]
theorem specCntA_ok (n : Int) (t : List Int) (ht : Bytes 100 t) : ACalls Try.prog 21 [.agg (sqS n t)] [] (fun v ms ns => v = autN n t ∧ ms = [] ∧ ns = []) := by
  by_cases h : autC n t = 0
  · have hA := specAut_yes n t ht h
    have e : autN n t = .tup [.i .i64 (((autR n t).length : Nat) : Int), .i .i64 0] := by unfold autN; rw [if_pos h, h]
    rw [e]
    refine acalls_of_body mix Try.func21 rfl fok21 (Nat.le_of_ble_eq_true rfl) ?_
    unfold abody
    simp only [absE, absL, absF, reduceCtorEq, ↓reduceIte, Nat.reduceEqDiff, Nat.reduceAdd, Nat.reduceLT, Nat.reduceMul, Nat.reduceSub, Nat.reduceLeDiff, Int.reduceLT, Int.reduceLE, Int.reduceEq, Option.isSome_some, implies_true, false_implies, Prod.mk.injEq, ne_eq, not_false_eq_true, not_true_eq_false, ge_iff_le, gt_iff_lt, Int.toNat_natCast, Int.reduceToNat, Int.cast_ofNat_Int, Int.natCast_nonneg, Try.f21]
    refine CallsVia.none hA ?_
    rintro _ _ _ (⟨h1, rfl, rfl, rfl⟩ | ⟨rfl, rfl, rfl⟩)
    · rw [h1]
      simp only [absE, absL, absF, reduceCtorEq, ↓reduceIte, Nat.reduceEqDiff, Nat.reduceAdd, Nat.reduceLT, Nat.reduceMul, Nat.reduceSub, Nat.reduceLeDiff, Int.reduceLT, Int.reduceLE, Int.reduceEq, Option.isSome_some, implies_true, false_implies, Prod.mk.injEq, ne_eq, not_false_eq_true, not_true_eq_false, ge_iff_le, gt_iff_lt, Int.toNat_natCast, Int.reduceToNat, Int.cast_ofNat_Int, Int.natCast_nonneg, Try.results21]
      exact ⟨[], by simp, by simp, by simp [renV, renVs, renSegs, renSg]⟩
    · simp only [absE, absL, absF, reduceCtorEq, ↓reduceIte, Nat.reduceEqDiff, Nat.reduceAdd, Nat.reduceLT, Nat.reduceMul, Nat.reduceSub, Nat.reduceLeDiff, Int.reduceLT, Int.reduceLE, Int.reduceEq, Option.isSome_some, implies_true, false_implies, Prod.mk.injEq, ne_eq, not_false_eq_true, not_true_eq_false, ge_iff_le, gt_iff_lt, Int.toNat_natCast, Int.reduceToNat, Int.cast_ofNat_Int, Int.natCast_nonneg, Try.results21]
      exact ⟨[], by simp, by simp, by simp [renV, renVs, renSegs, renSg]⟩
  · have hA := specAut_no n t ht h
    have e : autN n t = .tup [.i .i64 0, .i .i64 (autC n t)] := by unfold autN; rw [if_neg h]
    rw [e]
    refine acalls_of_body mix Try.func21 rfl fok21 (Nat.le_of_ble_eq_true rfl) ?_
    unfold abody
    simp only [absE, absL, absF, reduceCtorEq, ↓reduceIte, Nat.reduceEqDiff, Nat.reduceAdd, Nat.reduceLT, Nat.reduceMul, Nat.reduceSub, Nat.reduceLeDiff, Int.reduceLT, Int.reduceLE, Int.reduceEq, Option.isSome_some, implies_true, false_implies, Prod.mk.injEq, ne_eq, not_false_eq_true, not_true_eq_false, ge_iff_le, gt_iff_lt, Int.toNat_natCast, Int.reduceToNat, Int.cast_ofNat_Int, Int.natCast_nonneg, Try.f21]
    refine CallsVia.none (hA) ?_
    rintro _ _ _ ⟨rfl, rfl, rfl⟩
    simp only [absE, absL, absF, reduceCtorEq, ↓reduceIte, Nat.reduceEqDiff, Nat.reduceAdd, Nat.reduceLT, Nat.reduceMul, Nat.reduceSub, Nat.reduceLeDiff, Int.reduceLT, Int.reduceLE, Int.reduceEq, Option.isSome_some, implies_true, false_implies, Prod.mk.injEq, ne_eq, not_false_eq_true, not_true_eq_false, ge_iff_le, gt_iff_lt, Int.toNat_natCast, Int.reduceToNat, Int.cast_ofNat_Int, Int.natCast_nonneg, Try.results21]
    exact ⟨[], by simp, by simp, by simp [renV, renVs, renSegs, renSg]⟩
theorem isoM_one {N : Nat} {t s : List Int} : (isoM 1 N t s).length ≤ 1 := ism_len (by simp)
theorem l02Both_ok (n m : Int) (t s : List Int) (ht : Bytes 100 t) (hs : Bytes 100 s) :
    ACalls Try.prog 65 [.agg (sqS n t), .agg (sqS m s)] [] (fun v ms ns => v = .i .i64 (if sqB n t && sqB m s then 0 else 1) ∧ ms = [] ∧ ns = []) := by
  refine acalls_of_body mix Try.func65 rfl fok65 (Nat.le_of_ble_eq_true rfl) ?_
  unfold abody
  simp only [absE, absL, absF, reduceCtorEq, ↓reduceIte, Nat.reduceEqDiff, Nat.reduceAdd, Nat.reduceLT, Nat.reduceMul, Nat.reduceSub, Nat.reduceLeDiff, Int.reduceLT, Int.reduceLE, Int.reduceEq, Option.isSome_some, implies_true, false_implies, Prod.mk.injEq, ne_eq, not_false_eq_true, not_true_eq_false, ge_iff_le, gt_iff_lt, Int.toNat_natCast, Int.reduceToNat, Int.cast_ofNat_Int, Int.natCast_nonneg, Try.f65]
  refine CallsVia.none (l01Is_ok n t ht) ?_
  rintro _ _ _ ⟨rfl, rfl, rfl⟩
  cases h1 : sqB n t
  · simp only [absE, absL, absF, reduceCtorEq, ↓reduceIte, Nat.reduceEqDiff, Nat.reduceAdd, Nat.reduceLT, Nat.reduceMul, Nat.reduceSub, Nat.reduceLeDiff, Int.reduceLT, Int.reduceLE, Int.reduceEq, Option.isSome_some, implies_true, false_implies, Prod.mk.injEq, ne_eq, not_false_eq_true, not_true_eq_false, ge_iff_le, gt_iff_lt, Int.toNat_natCast, Int.reduceToNat, Int.cast_ofNat_Int, Int.natCast_nonneg, h1, Try.results65]
    exact ⟨[], by simp, by simp, by simp [renV, renVs, renSegs, renSg]⟩
  · simp only [absE, absL, absF, reduceCtorEq, ↓reduceIte, Nat.reduceEqDiff, Nat.reduceAdd, Nat.reduceLT, Nat.reduceMul, Nat.reduceSub, Nat.reduceLeDiff, Int.reduceLT, Int.reduceLE, Int.reduceEq, Option.isSome_some, implies_true, false_implies, Prod.mk.injEq, ne_eq, not_false_eq_true, not_true_eq_false, ge_iff_le, gt_iff_lt, Int.toNat_natCast, Int.reduceToNat, Int.cast_ofNat_Int, Int.natCast_nonneg, h1]
    refine CallsVia.none (l01Is_ok m s hs) ?_
    rintro _ _ _ ⟨rfl, rfl, rfl⟩
    cases h2 : sqB m s
    · simp only [absE, absL, absF, reduceCtorEq, ↓reduceIte, Nat.reduceEqDiff, Nat.reduceAdd, Nat.reduceLT, Nat.reduceMul, Nat.reduceSub, Nat.reduceLeDiff, Int.reduceLT, Int.reduceLE, Int.reduceEq, Option.isSome_some, implies_true, false_implies, Prod.mk.injEq, ne_eq, not_false_eq_true, not_true_eq_false, ge_iff_le, gt_iff_lt, Int.toNat_natCast, Int.reduceToNat, Int.cast_ofNat_Int, Int.natCast_nonneg, h2, Try.results65]
      exact ⟨[], by simp, by simp, by simp [renV, renVs, renSegs, renSg]⟩
    · simp only [absE, absL, absF, reduceCtorEq, ↓reduceIte, Nat.reduceEqDiff, Nat.reduceAdd, Nat.reduceLT, Nat.reduceMul, Nat.reduceSub, Nat.reduceLeDiff, Int.reduceLT, Int.reduceLE, Int.reduceEq, Option.isSome_some, implies_true, false_implies, Prod.mk.injEq, ne_eq, not_false_eq_true, not_true_eq_false, ge_iff_le, gt_iff_lt, Int.toNat_natCast, Int.reduceToNat, Int.cast_ofNat_Int, Int.natCast_nonneg, h2, Try.results65]
      exact ⟨[], by simp, by simp, by simp [renV, renVs, renSegs, renSg]⟩
def zP : List Int := List.replicate 10 0
noncomputable def isoP (n m : Int) (t s : List Int) : List (List Int) := if n = m then isoM 1 n.toNat t s else []
def isoV : List (List Int) → AV
  | [] => .tup [.agg (plS (List.replicate 10 0)), .i .i64 4]
  | p :: _ => .tup [.agg (plS p), .i .i64 0]
noncomputable def isoR (n : Int) (t : List Int) (m : Int) (s : List Int) : AV := if sqB n t && sqB m s then isoV (isoP n m t s) else .tup [.agg (plS (List.replicate 10 0)), .i .i64 1]
theorem specIso_ok (n : Int) (t : List Int) (m : Int) (s : List Int) (ht : Bytes 100 t) (hs : Bytes 100 s) : ACalls Try.prog 23 [.agg (sqS n t), .agg (sqS m s)] [] (fun v ms ns => v = isoR n t m s ∧ ms = [] ∧ ns = []) := by
  cases hb : (sqB n t && sqB m s)
  · have e : isoR n t m s = .tup [.agg (plS (List.replicate 10 0)), .i .i64 1] := by unfold isoR; rw [hb]; rfl
    have hB := l02Both_ok n m t s ht hs
    rw [hb] at hB
    rw [e]
    refine acalls_of_body mix Try.func23 rfl fok23 (Nat.le_of_ble_eq_true rfl) ?_
    unfold abody
    simp only [absE, absL, absF, reduceCtorEq, ↓reduceIte, Nat.reduceEqDiff, Nat.reduceAdd, Nat.reduceLT, Nat.reduceMul, Nat.reduceSub, Nat.reduceLeDiff, Int.reduceLT, Int.reduceLE, Int.reduceEq, Option.isSome_some, implies_true, false_implies, Prod.mk.injEq, ne_eq, not_false_eq_true, not_true_eq_false, ge_iff_le, gt_iff_lt, Int.toNat_natCast, Int.reduceToNat, Int.cast_ofNat_Int, Int.natCast_nonneg, Try.f23]
    refine CallsVia.none (hB) ?_
    rintro _ _ _ ⟨rfl, rfl, rfl⟩
    simp only [absE, absL, absF, reduceCtorEq, ↓reduceIte, Nat.reduceEqDiff, Nat.reduceAdd, Nat.reduceLT, Nat.reduceMul, Nat.reduceSub, Nat.reduceLeDiff, Int.reduceLT, Int.reduceLE, Int.reduceEq, Option.isSome_some, implies_true, false_implies, Prod.mk.injEq, ne_eq, not_false_eq_true, not_true_eq_false, ge_iff_le, gt_iff_lt, Int.toNat_natCast, Int.reduceToNat, Int.cast_ofNat_Int, Int.natCast_nonneg, Try.results23]
    exact ⟨[], by simp, by simp, by simp [renV, renVs, renSegs, renSg]⟩
  · have e : isoR n t m s = isoV (isoP n m t s) := by unfold isoR; rw [hb]; rfl
    have hB := l02Both_ok n m t s ht hs
    rw [hb] at hB
    have hb2 := hb
    rw [Bool.and_eq_true] at hb2
    have hst := sqB_iff.1 hb2.1
    have hss := sqB_iff.1 hb2.2
    obtain ⟨N, rfl⟩ : ∃ N : Nat, n = N := ⟨n.toNat, by have := hst.1; omega⟩
    rw [e]
    by_cases hnm : (N : Int) = m
    · subst hnm
      have hA := l02All_eq N t s 1 ht hs hst hss (by decide) (by decide)
      have e2 : isoP N N t s = isoM 1 N t s := by unfold isoP; rw [if_pos rfl, Int.toNat_natCast]
      have hl := isoM_one (N := N) (t := t) (s := s)
      rw [e2]
      generalize isoM 1 N t s = L at hA hl
      refine acalls_of_body mix Try.func23 rfl fok23 (Nat.le_of_ble_eq_true rfl) ?_
      unfold abody
      simp only [absE, absL, absF, reduceCtorEq, ↓reduceIte, Nat.reduceEqDiff, Nat.reduceAdd, Nat.reduceLT, Nat.reduceMul, Nat.reduceSub, Nat.reduceLeDiff, Int.reduceLT, Int.reduceLE, Int.reduceEq, Option.isSome_some, implies_true, false_implies, Prod.mk.injEq, ne_eq, not_false_eq_true, not_true_eq_false, ge_iff_le, gt_iff_lt, Int.toNat_natCast, Int.reduceToNat, Int.cast_ofNat_Int, Int.natCast_nonneg, Try.f23]
      refine CallsVia.none (hB) ?_
      rintro _ _ _ ⟨rfl, rfl, rfl⟩
      simp only [absE, absL, absF, reduceCtorEq, ↓reduceIte, Nat.reduceEqDiff, Nat.reduceAdd, Nat.reduceLT, Nat.reduceMul, Nat.reduceSub, Nat.reduceLeDiff, Int.reduceLT, Int.reduceLE, Int.reduceEq, Option.isSome_some, implies_true, false_implies, Prod.mk.injEq, ne_eq, not_false_eq_true, not_true_eq_false, ge_iff_le, gt_iff_lt, Int.toNat_natCast, Int.reduceToNat, Int.cast_ofNat_Int, Int.natCast_nonneg]
      refine CallsVia.none hA ?_
      rintro _ _ _ (⟨h1, rfl, rfl, rfl⟩ | ⟨h1, rfl, rfl, rfl⟩)
      · subst h1
        simp only [absE, absL, absF, reduceCtorEq, ↓reduceIte, Nat.reduceEqDiff, Nat.reduceAdd, Nat.reduceLT, Nat.reduceMul, Nat.reduceSub, Nat.reduceLeDiff, Int.reduceLT, Int.reduceLE, Int.reduceEq, Option.isSome_some, implies_true, false_implies, Prod.mk.injEq, ne_eq, not_false_eq_true, not_true_eq_false, ge_iff_le, gt_iff_lt, Int.toNat_natCast, Int.reduceToNat, Int.cast_ofNat_Int, Int.natCast_nonneg, isoV, Try.results23]
        exact ⟨[], by simp, by simp, by simp [renV, renVs, renSegs, renSg, isoV]⟩
      · match L, h1, hl with
        | [p], _, _ =>
          simp only [absE, absL, absF, reduceCtorEq, ↓reduceIte, Nat.reduceEqDiff, Nat.reduceAdd, Nat.reduceLT, Nat.reduceMul, Nat.reduceSub, Nat.reduceLeDiff, Int.reduceLT, Int.reduceLE, Int.reduceEq, Option.isSome_some, implies_true, false_implies, Prod.mk.injEq, ne_eq, not_false_eq_true, not_true_eq_false, ge_iff_le, gt_iff_lt, Int.toNat_natCast, Int.reduceToNat, Int.cast_ofNat_Int, Int.natCast_nonneg, isoV, plB, List.length_cons, List.length_nil, List.flatten_cons, List.flatten_nil, Try.results23]
          exact ⟨[], by simp, by simp, by simp [renV, renVs, renSegs, renSg, isoV]⟩
    · have hA := l02All_ne N m t s 1 hnm
      have e2 : isoP N m t s = [] := by unfold isoP; rw [if_neg hnm]
      rw [e2]
      refine acalls_of_body mix Try.func23 rfl fok23 (Nat.le_of_ble_eq_true rfl) ?_
      unfold abody
      simp only [absE, absL, absF, reduceCtorEq, ↓reduceIte, Nat.reduceEqDiff, Nat.reduceAdd, Nat.reduceLT, Nat.reduceMul, Nat.reduceSub, Nat.reduceLeDiff, Int.reduceLT, Int.reduceLE, Int.reduceEq, Option.isSome_some, implies_true, false_implies, Prod.mk.injEq, ne_eq, not_false_eq_true, not_true_eq_false, ge_iff_le, gt_iff_lt, Int.toNat_natCast, Int.reduceToNat, Int.cast_ofNat_Int, Int.natCast_nonneg, Try.f23]
      refine CallsVia.none (hB) ?_
      rintro _ _ _ ⟨rfl, rfl, rfl⟩
      simp only [absE, absL, absF, reduceCtorEq, ↓reduceIte, Nat.reduceEqDiff, Nat.reduceAdd, Nat.reduceLT, Nat.reduceMul, Nat.reduceSub, Nat.reduceLeDiff, Int.reduceLT, Int.reduceLE, Int.reduceEq, Option.isSome_some, implies_true, false_implies, Prod.mk.injEq, ne_eq, not_false_eq_true, not_true_eq_false, ge_iff_le, gt_iff_lt, Int.toNat_natCast, Int.reduceToNat, Int.cast_ofNat_Int, Int.natCast_nonneg]
      refine CallsVia.none (hA) ?_
      rintro _ _ _ ⟨rfl, rfl, rfl⟩
      simp only [absE, absL, absF, reduceCtorEq, ↓reduceIte, Nat.reduceEqDiff, Nat.reduceAdd, Nat.reduceLT, Nat.reduceMul, Nat.reduceSub, Nat.reduceLeDiff, Int.reduceLT, Int.reduceLE, Int.reduceEq, Option.isSome_some, implies_true, false_implies, Prod.mk.injEq, ne_eq, not_false_eq_true, not_true_eq_false, ge_iff_le, gt_iff_lt, Int.toNat_natCast, Int.reduceToNat, Int.cast_ofNat_Int, Int.natCast_nonneg, isoV, Try.results23]
      exact ⟨[], by simp, by simp, by simp [renV, renVs, renSegs, renSg, isoV]⟩

end Go.Proofs.Ytgblnnodoabdeaa
