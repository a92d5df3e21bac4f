/-
Contracts of functions of the given program, by the abstract walk.
-/
import Derived.Test.YtgblnnodoabdeaaAbsY
import Derived.Test.YtgblnnodoabdeaaTd
import Derived.Test.YtgblnnodoabdeaaJj
namespace Go.Proofs.Ytgblnnodoabdeaa
open Go Go.Abs
set_option linter.unusedVariables false
set_option linter.unusedSectionVars false
set_option linter.unusedSimpArgs false
set_option maxRecDepth 100000
/-! IdempotentsOf -/
theorem wk_keepO {m : Mem} {pre : Pairs} {B : Nat} {LL : LLs} {o O : Abs.Id} (hB0 : B ≠ 0) (hpre : ∀ x ∈ pre, x.1.1 ≠ B) (ho : o.1 ≠ B) (hO : m.get o.1 o.2 = ob B 0 LL) (hB : ∀ j, j < LL.length → m.get B (0 + j) = ib (at_ LL j)) :
    wkLoc m (renTo (pre ++ (o, O) :: stdR B LL.length)) (pre ++ (o, O) :: stdR B LL.length) = wkLoc m (renTo (pre ++ (o, O) :: stdR B LL.length)) pre ++ (O, ob B 0 LL) :: rbag B 0 LL := by
  have e : pre ++ (o, O) :: stdR B LL.length = (pre ++ [(o, O)]) ++ stdR B LL.length := by simp
  rw [e, wk_keep rfl hB, wkLoc_app, wkLoc, wkLoc, hO, ob_ren (a' := B) (k' := 0) fun j hj => keep_at hB0 (fun x hx => by
    rcases List.mem_append.1 hx with hx | hx
    · exact hpre x hx
    · simp at hx; subst hx; exact ho) hj]
  simp
theorem wkOk_keepO {pre : Pairs} {B n next : Nat} {o O : Abs.Id} (h : wkOk (pre ++ [(o, O)]) next = true) (hB0 : B ≠ 0) (hBn : B < next) (hpre : ∀ x ∈ pre ++ [(o, O)], x.1.1 ≠ B ∧ x.2.1 ≠ B) : wkOk (pre ++ (o, O) :: stdR B n) next = true := by
  have e : pre ++ (o, O) :: stdR B n = (pre ++ [(o, O)]) ++ stdR B n := by simp
  rw [e]; exact wkOk_keep h hB0 hBn hpre
def idmB (N : Nat) (t : List Int) (P i : Nat) : Bool := decide (tmT N t P (digL P N i) (digL P N i) N = digL P N i)
def idmL (N : Nat) (t : List Int) (P : Nat) : Nat → LLs
  | 0 => []
  | k + 1 => if idmB N t P k then idmL N t P k ++ [digL P N k] else idmL N t P k
theorem idmL_len {N : Nat} {t : List Int} {P : Nat} : ∀ {k}, (idmL N t P k).length ≤ k
  | 0 => by simp [idmL]
  | k + 1 => by
    have := idmL_len (N := N) (t := t) (P := P) (k := k)
    rw [idmL]; split
    · rw [List.length_append]; simp; omega
    · omega
theorem idmL_row {N : Nat} {t : List Int} {P : Nat} : ∀ {k}, ∀ xs ∈ idmL N t P k, xs.length = N
  | 0, xs, h => by simp [idmL] at h
  | k + 1, xs, h => by
    rw [idmL] at h
    split at h
    · rcases List.mem_append.1 h with h | h
      · exact idmL_row xs h
      · simp at h; subst h; exact digL_len
    · exact idmL_row xs h
theorem digL_rng {P N i : Nat} (hP : 0 < P) : RngP P (digL P N i) := fun j => by
  by_cases h : j < N
  · rw [digL_get h]; have := dg_lt (P := P) (i := i) (m := N - 1 - j) hP; omega
  · rw [List.getD_eq_getElem?_getD, List.getElem?_eq_none (by rw [digL_len]; omega)]; simp; omega
theorem specIdm_yes (N : Nat) (t : List Int) (P : Nat) (ht : Bytes 100 t) (h : limC N t P = 0) :
    ACalls Try.prog 15 [.agg (sqS N t), .i .i64 P] [] (fun v ms ns => v = llV (idmL N t P (P ^ N)) ∧ ms = [] ∧ ns = llN (idmL N t P (P ^ N))) := by
  have hr : rcd0 N t P = 0 := by unfold limC at h; split at h; · omega
                                 · exact h
  have hle : P ^ N ≤ 20000 := by
    apply Decidable.byContradiction; intro hn
    unfold limC at h
    rw [if_pos ⟨hr, by simpa using (show 20000 < P ^ N by omega)⟩] at h
    cases h
  obtain ⟨hs, hlp, hp⟩ := rcd0_zero hr
  obtain ⟨P', hPP, hP1, hP2⟩ := hp.nat
  obtain rfl : P = P' := by omega
  have hN := hs.le
  have hN1 := hs.1
  have m1 : N * 1 = N := Nat.mul_one N
  have hk8 : (N : Int) * 8 ≤ 140737488355328 := by omega
  have em : ((min (P ^ N) 20001 : Nat) : Int) = ((P ^ N : Nat) : Int) := by omega
  refine acalls_of_body mix Try.func15 rfl fok15 (Nat.le_of_ble_eq_true rfl) ?_
  unfold abody
  simp only [absE, absL, absF, reduceCtorEq, ↓reduceIte, Nat.reduceEqDiff, Nat.reduceAdd, Nat.reduceLT, Nat.reduceMul, Nat.reduceSub, Nat.reduceLeDiff, Int.reduceLT, Int.reduceLE, Int.reduceEq, Option.isSome_some, implies_true, false_implies, Prod.mk.injEq, ne_eq, not_false_eq_true, not_true_eq_false, ge_iff_le, gt_iff_lt, Int.toNat_natCast, Int.reduceToNat, Int.cast_ofNat_Int, Int.natCast_nonneg, Try.f15]
  refine CallsVia.none (l10Limit_ok N t P ht) ?_
  rintro _ _ _ ⟨rfl, rfl, rfl⟩
  simp only [absE, absL, absF, reduceCtorEq, ↓reduceIte, Nat.reduceEqDiff, Nat.reduceAdd, Nat.reduceLT, Nat.reduceMul, Nat.reduceSub, Nat.reduceLeDiff, Int.reduceLT, Int.reduceLE, Int.reduceEq, Option.isSome_some, implies_true, false_implies, Prod.mk.injEq, ne_eq, not_false_eq_true, not_true_eq_false, ge_iff_le, gt_iff_lt, Int.toNat_natCast, Int.reduceToNat, Int.cast_ofNat_Int, Int.natCast_nonneg, h, hk8, m1]
  repeat first | refine And.intro (by decide +kernel) ?_ | refine And.intro (by omega) ?_
  refine CallsVia.none (l10Many_ok N P hP1 (by omega) hN) ?_
  rintro _ _ _ ⟨rfl, rfl, rfl⟩
  simp only [absE, absL, absF, reduceCtorEq, ↓reduceIte, Nat.reduceEqDiff, Nat.reduceAdd, Nat.reduceLT, Nat.reduceMul, Nat.reduceSub, Nat.reduceLeDiff, Int.reduceLT, Int.reduceLE, Int.reduceEq, Option.isSome_some, implies_true, false_implies, Prod.mk.injEq, ne_eq, not_false_eq_true, not_true_eq_false, ge_iff_le, gt_iff_lt, Int.toNat_natCast, Int.reduceToNat, Int.cast_ofNat_Int, Int.natCast_nonneg, em]
  refine awpLoop.intro (fun k : Nat => [(1, .i .i64 P), (2, .ref (.ptr 1 0 0 0)), (7, .ref (.sl 12 0 0 0 N 1)), (8, .ref (.sl 13 0 0 0 (idmL N t P k).length 1)), (9, .i .i64 (((P ^ N : Nat) : Int) - k))]) (fun k => ⟨[], [((1, 0), .lv true (sqS N t)), ((12, 0), .lv true ([(0, .ints .i64 N (digL P N k))])), ((13, 0), .lv true ([(0, .cells (idmL N t P k).length (outs 14 0 (idmL N t P k)))]))] ++ rbag 14 0 (idmL N t P k), 100⟩)
    (fun k => k ≤ P ^ N) (fun k => P ^ N - k) 0 (by omega) ⟨[((1,0),(1,0)), ((12,0),(12,0)), ((13,0),(13,0))], rfl, ?_, ?_⟩ ?_
  · simp [wkEnv, lk, renV, renAt, renTo, idmL]
  · simp [wkMem, wkLoc, Mem.get, assoc, renBlk, renSegs, renSg, renTo, rbag_nil, outs_nil, zeroArr, idmL, digL_zero]
  · intro k hk
    have hLl := idmL_len (N := N) (t := t) (P := P) (k := k)
    have hLs : idmL N t P (k + 1) = if idmB N t P k then idmL N t P k ++ [digL P N k] else idmL N t P k := rfl
    generalize hLd : idmL N t P k = L at hLl hLs ⊢
    by_cases h2 : k < P ^ N
    · have g1 : (0 : Int) < ((P ^ N : Nat) : Int) - k := by omega
      have wn : IntKind.i64.wrap (((P ^ N : Nat) : Int) - k - 1) = ((P ^ N : Nat) : Int) - ((k + 1 : Nat) : Int) := by rw [wrap_i64 (by omega) (by omega)]; omega
      have hT := l10TimesS_ok N t P (digL P N k) ht hs hp (digL_rng (by omega)) digL_len
      have hS := sameL_ok (tmT N t P (digL P N k) (digL P N k) N) (digL P N k) (by rw [tmT_len]; omega) (by rw [digL_len]; omega)
      rw [tmT_len, digL_len] at hS
      have hX := l10Next_ok P N k hP1 (by omega) hN (by omega)
      unfold nkL at hX
      have mL : L.length * 1 = L.length := Nat.mul_one _
      simp only [absE, absL, absF, reduceCtorEq, ↓reduceIte, Nat.reduceEqDiff, Nat.reduceAdd, Nat.reduceLT, Nat.reduceMul, Nat.reduceSub, Nat.reduceLeDiff, Int.reduceLT, Int.reduceLE, Int.reduceEq, Option.isSome_some, implies_true, false_implies, Prod.mk.injEq, ne_eq, not_false_eq_true, not_true_eq_false, ge_iff_le, gt_iff_lt, Int.toNat_natCast, Int.reduceToNat, Int.cast_ofNat_Int, Int.natCast_nonneg, g1]
      refine CallsVia.args [(12, 0)] hT (by simp) (by simp [Mem.get, assoc]) rfl rfl ?_
      rintro _ _ _ ⟨rfl, rfl, rfl⟩
      simp only [absE, absL, absF, reduceCtorEq, ↓reduceIte, Nat.reduceEqDiff, Nat.reduceAdd, Nat.reduceLT, Nat.reduceMul, Nat.reduceSub, Nat.reduceLeDiff, Int.reduceLT, Int.reduceLE, Int.reduceEq, Option.isSome_some, implies_true, false_implies, Prod.mk.injEq, ne_eq, not_false_eq_true, not_true_eq_false, ge_iff_le, gt_iff_lt, Int.toNat_natCast, Int.reduceToNat, Int.cast_ofNat_Int, Int.natCast_nonneg]
      refine CallsVia.args [(106, 0), (12, 0)] hS (by simp) (by simp [Mem.get, assoc]) rfl rfl ?_
      rintro _ _ _ ⟨rfl, rfl, rfl⟩
      rw [show decide (tmT N t P (digL P N k) (digL P N k) N = digL P N k) = idmB N t P k from rfl]
      cases hb : idmB N t P k
      · rw [hb, if_neg (by simp)] at hLs
        simp only [absE, absL, absF, reduceCtorEq, ↓reduceIte, Nat.reduceEqDiff, Nat.reduceAdd, Nat.reduceLT, Nat.reduceMul, Nat.reduceSub, Nat.reduceLeDiff, Int.reduceLT, Int.reduceLE, Int.reduceEq, Option.isSome_some, implies_true, false_implies, Prod.mk.injEq, ne_eq, not_false_eq_true, not_true_eq_false, ge_iff_le, gt_iff_lt, Int.toNat_natCast, Int.reduceToNat, Int.cast_ofNat_Int, Int.natCast_nonneg]
        refine CallsVia.args [(12, 0)] hX (by simp) (by simp [Mem.get, assoc]) rfl rfl ?_
        rintro _ _ _ ⟨rfl, rfl, rfl⟩
        simp only [absE, absL, absF, reduceCtorEq, ↓reduceIte, Nat.reduceEqDiff, Nat.reduceAdd, Nat.reduceLT, Nat.reduceMul, Nat.reduceSub, Nat.reduceLeDiff, Int.reduceLT, Int.reduceLE, Int.reduceEq, Option.isSome_some, implies_true, false_implies, Prod.mk.injEq, ne_eq, not_false_eq_true, not_true_eq_false, ge_iff_le, gt_iff_lt, Int.toNat_natCast, Int.reduceToNat, Int.cast_ofNat_Int, Int.natCast_nonneg, wn]
        refine LoopNext.intro (k + 1) (by omega) (by omega) ⟨[((1, 0), (1, 0)), ((111, 0), (12, 0))] ++ ((13, 0), (13, 0)) :: stdR 14 L.length, wkOk_keepO (next := 100) (by simp [wkOk]) (by decide) (by decide) (by simp), ?_, ?_⟩
        · simp [wkEnv, lk, renV, renAt, renTo, hLs]
        · simp only [wkMem]
          rw [hLs, wk_keepO (LL := L) (by decide) (by simp) (by decide) (by simp [Mem.get, assoc, ob]) (fun j hj => by
            simp only [Mem.get, assoc]
            simp
            have q := assoc_rbag_in' (a := 14) (k := 0) (i := j) (LL := L) hj
            rwa [Nat.zero_add] at q)]
          simp [wkLoc, ob, Mem.get, assoc, renBlk, renSegs, renSg]
      · rw [hb, if_pos rfl] at hLs
        simp only [absE, absL, absF, reduceCtorEq, ↓reduceIte, Nat.reduceEqDiff, Nat.reduceAdd, Nat.reduceLT, Nat.reduceMul, Nat.reduceSub, Nat.reduceLeDiff, Int.reduceLT, Int.reduceLE, Int.reduceEq, Option.isSome_some, implies_true, false_implies, Prod.mk.injEq, ne_eq, not_false_eq_true, not_true_eq_false, ge_iff_le, gt_iff_lt, Int.toNat_natCast, Int.reduceToNat, Int.cast_ofNat_Int, Int.natCast_nonneg, mL]
        repeat first | refine And.intro (by decide +kernel) ?_ | refine And.intro (by omega) ?_
        refine CallsVia.args [(12, 0)] hX (by simp) (by simp [Mem.get, assoc]) rfl rfl ?_
        rintro _ _ _ ⟨rfl, rfl, rfl⟩
        simp only [absE, absL, absF, reduceCtorEq, ↓reduceIte, Nat.reduceEqDiff, Nat.reduceAdd, Nat.reduceLT, Nat.reduceMul, Nat.reduceSub, Nat.reduceLeDiff, Int.reduceLT, Int.reduceLE, Int.reduceEq, Option.isSome_some, implies_true, false_implies, Prod.mk.injEq, ne_eq, not_false_eq_true, not_true_eq_false, ge_iff_le, gt_iff_lt, Int.toNat_natCast, Int.reduceToNat, Int.cast_ofNat_Int, Int.natCast_nonneg, wn]
        refine LoopNext.intro (k + 1) (by omega) (by omega) ⟨[((1, 0), (1, 0)), ((116, 0), (12, 0))] ++ snocS (112, 0) 13 12 14 L.length, wkOk_snoc (next := 100) (by simp [wkOk]) (by decide) (by decide) (by decide) (by decide) (by simp) (by decide), ?_, ?_⟩
        · simp [wkEnv, lk, renV, renAt, snocS, renTo, hLs]
        · simp only [wkMem]
          rw [hLs, wk_snoc (LL := L) (xs := digL P N k) rfl (by decide) (by decide) (by decide) (by simp) (by decide) (by simp [Mem.get, assoc, digL_len]) (by simp [Mem.get, assoc, ib, digL_len]) (fun j hj => by
            simp only [Mem.get, assoc]
            simp
            have q := assoc_rbag_in' (a := 14) (k := 0) (i := j) (LL := L) hj
            rwa [Nat.zero_add] at q)]
          simp [wkLoc, ob, Mem.get, assoc, renBlk, renSegs, renSg]
    · have hkN : k = P ^ N := by omega
      subst hkN
      have g1 : ¬ (0 : Int) < ((P ^ N : Nat) : Int) - ((P ^ N : Nat) : Int) := by omega
      rw [hLd]
      simp only [absE, absL, absF, reduceCtorEq, ↓reduceIte, Nat.reduceEqDiff, Nat.reduceAdd, Nat.reduceLT, Nat.reduceMul, Nat.reduceSub, Nat.reduceLeDiff, Int.reduceLT, Int.reduceLE, Int.reduceEq, Option.isSome_some, implies_true, false_implies, Prod.mk.injEq, ne_eq, not_false_eq_true, not_true_eq_false, ge_iff_le, gt_iff_lt, Int.toNat_natCast, Int.reduceToNat, Int.cast_ofNat_Int, Int.natCast_nonneg, g1, Try.results15]
      refine ⟨(13, 0) :: srcs 14 0 L.length, row_nodup (.inl (by decide)), row_keep (by decide) (by decide), ?_, by simp, ?_⟩
      · simp [renV, renVs, renAt, renFin, idx, llV]
      · exact row_map (p := (13, 0)) (B := 14) (LL := L) (by decide) (by decide) (by simp [Mem.get, assoc, ob]) fun j hj => by
          simp only [Mem.get, assoc]
          simp
          have q := assoc_rbag_in' (a := 14) (k := 0) (i := j) (LL := L) hj
          rwa [Nat.zero_add] at q
theorem specIdm_no (n : Int) (t : List Int) (p : Int) (ht : Bytes 100 t) (h : limC n t p ≠ 0) :
    ACalls Try.prog 15 [.agg (sqS n t), .i .i64 p] [] (fun v ms ns => v = .tup [.ref .nils, .i .i64 (limC n t p)] ∧ ms = [] ∧ ns = []) := by
  refine acalls_of_body mix Try.func15 rfl fok15 (Nat.le_of_ble_eq_true rfl) ?_
  unfold abody
  simp only [absE, absL, absF, reduceCtorEq, ↓reduceIte, Nat.reduceEqDiff, Nat.reduceAdd, Nat.reduceLT, Nat.reduceMul, Nat.reduceSub, Nat.reduceLeDiff, Int.reduceLT, Int.reduceLE, Int.reduceEq, Option.isSome_some, implies_true, false_implies, Prod.mk.injEq, ne_eq, not_false_eq_true, not_true_eq_false, ge_iff_le, gt_iff_lt, Int.toNat_natCast, Int.reduceToNat, Int.cast_ofNat_Int, Int.natCast_nonneg, Try.f15]
  refine CallsVia.none (l10Limit_ok n t p ht) ?_
  rintro _ _ _ ⟨rfl, rfl, rfl⟩
  simp only [absE, absL, absF, reduceCtorEq, ↓reduceIte, Nat.reduceEqDiff, Nat.reduceAdd, Nat.reduceLT, Nat.reduceMul, Nat.reduceSub, Nat.reduceLeDiff, Int.reduceLT, Int.reduceLE, Int.reduceEq, Option.isSome_some, implies_true, false_implies, Prod.mk.injEq, ne_eq, not_false_eq_true, not_true_eq_false, ge_iff_le, gt_iff_lt, Int.toNat_natCast, Int.reduceToNat, Int.cast_ofNat_Int, Int.natCast_nonneg, h, Try.results15]
  exact ⟨[], by simp, by simp, by simp [renV, renVs, renAt]⟩

end Go.Proofs.Ytgblnnodoabdeaa
