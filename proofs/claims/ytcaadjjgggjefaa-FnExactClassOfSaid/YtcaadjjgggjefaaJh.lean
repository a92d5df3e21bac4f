/-
Contracts of functions of the given program, by the abstract walk.
-/
import Derived.Test.YtcaadjjgggjefaaAbsY
import Derived.Test.YtcaadjjgggjefaaJg
import Derived.Test.YtcaadjjgggjefaaJk
namespace Go.Proofs.Ytcaadjjgggjefaa
open Go Go.Abs
set_option linter.unusedVariables false
set_option linter.unusedSectionVars false
set_option linter.unusedSimpArgs false
set_option maxRecDepth 100000
theorem upM_congr {N : Nat} {t : List Int} {p q : Nat → Bool} : ∀ {k}, (∀ a, a < k → upB N t p a = upB N t q a) → upM N t p k = upM N t q k
  | 0, _ => rfl
  | k + 1, h => by rw [upM, upM, upM_congr fun a ha => h a (by omega), h k (by omega)]
noncomputable def mkS (N : Nat) (t : List Int) (k : Nat) : List Bool := upM N t (prevP N t k) N
theorem mkS_len {N : Nat} {t : List Int} {k : Nat} : (mkS N t k).length = 10 := upM_len
theorem mkS_get {N : Nat} {t : List Int} {k z : Nat} (hN : N ≤ 10) : (mkS N t k).getD z false = (decide (z < N) && prevP N t (k + 1) z) := upM_get hN
theorem mkS_next {N : Nat} {t : List Int} {k : Nat} (hs : SqP N t) : upM N t (fun z => (mkS N t k).getD z false) N = mkS N t (k + 1) :=
  upM_congr fun a ha => upB_congr hs ha fun z hz => by simp only [mkS_get hs.le, decide_eq_true hz, Bool.true_and]
theorem mkS_zero {N : Nat} {t : List Int} (hs : SqP N t) : upM N t (fun z => (mkB [0] 1).getD z false) N = mkS N t 0 :=
  upM_congr fun a ha => upB_congr hs ha fun z hz => by
    have hN := hs.le
    show (mkB [0] 1).getD z false = decide (z = 0)
    match z, (show z < 10 by omega) with
    | 0, _ => decide
    | 1, _ => decide
    | 2, _ => decide
    | 3, _ => decide
    | 4, _ => decide
    | 5, _ => decide
    | 6, _ => decide
    | 7, _ => decide
    | 8, _ => decide
    | 9, _ => decide
theorem told_mkS {N : Nat} {t : List Int} {k : Nat} (hN : N ≤ 10) : memL (fun z => (mkS N t k).getD z false) 10 = memL (prevP N t (k + 1)) N := by
  rw [memL_more (n := N) hN fun i hi => by rw [mkS_get hN, decide_eq_false (by omega), Bool.false_and]]
  exact memL_congr fun i hi => by rw [mkS_get hN, decide_eq_true hi, Bool.true_and]
theorem mkS_same {N : Nat} {t : List Int} {k : Nat} (hN : N ≤ 10) : mkS N t (k + 1) = mkS N t k ↔ sN N t (k + 1) = sN N t k := by
  constructor
  · intro h
    refine setM_congr fun i hi => ?_
    have := congrArg (fun m => m.getD i false) h
    simpa only [mkS_get hN, decide_eq_true hi, Bool.true_and] using this
  · intro h
    refine boolsExt (by rw [mkS_len, mkS_len]) fun i hi => ?_
    rw [mkS_get hN, mkS_get hN]
    by_cases hi' : i < N
    · rw [show prevP N t (k + 1 + 1) i = prevP N t (k + 1) i from setM_inj h hi']
    · rw [decide_eq_false hi', Bool.false_and, Bool.false_and]
noncomputable def serL (N : Nat) (t : List Int) (k : Nat) : LLs := (List.range (k + 1)).map fun i => memL (prevP N t (i + 1)) N
theorem serL_len {N : Nat} {t : List Int} {k : Nat} : (serL N t k).length = k + 1 := by simp [serL]
theorem serL_next {N : Nat} {t : List Int} {k : Nat} : serL N t (k + 1) = serL N t k ++ [memL (prevP N t (k + 2)) N] := by
  unfold serL; rw [List.range_succ, List.map_append]; rfl
theorem serL_at {N : Nat} {t : List Int} {k i : Nat} (h : i ≤ k) : at_ (serL N t k) i = memL (prevP N t (i + 1)) N := by
  rw [at_lt (by rw [serL_len]; omega)]; simp [serL]
theorem serL_bits {N : Nat} {t : List Int} {k : Nat} (hN : N ≤ 10) : bitsL ((List.range (k + 1)).map (sN N t)) = serL N t k := by
  unfold bitsL serL
  rw [List.map_map]
  exact List.map_congr_left fun i _ => setM_list hN
def llV (LL : LLs) : AV := .tup [.ref (.sl 1 0 0 0 LL.length 1), .i .i64 0]
def llN (LL : LLs) : List Blk := ob 1 1 LL :: inn LL
theorem l05Series_ok (N : Nat) (t : List Int) (ht : Bytes 100 t) (hs : SqP N t) (hu : UnitP N t 0) :
    ACalls Try.prog 56 [.agg (sqS N t)] [] (fun v ms ns => v = .ref (.sl 1 0 0 0 (serK N t + 1) 1) ∧ ms = [] ∧ ns = llN (serL N t (serK N t))) := by
  have hN := hs.le
  have hset := l05Set_ok N [0] 1 hN (by decide) (fun i hi => by
    obtain rfl : i = 0 := by omega
    exact ⟨⟨by decide, by have := hs.pos; show (0 : Int) ≤ (N : Int) - 1; omega⟩, fun h => absurd h (by omega)⟩)
  refine acalls_of_body mix Try.func56 rfl fok56 (Nat.le_of_ble_eq_true rfl) ?_
  unfold abody
  simp only [absE, absL, absF, reduceCtorEq, ↓reduceIte, Nat.reduceEqDiff, Nat.reduceAdd, Nat.reduceLT, Nat.reduceMul, Nat.reduceSub, Nat.reduceLeDiff, Int.reduceLT, Int.reduceLE, Int.reduceEq, Option.isSome_some, implies_true, false_implies, Prod.mk.injEq, ne_eq, not_false_eq_true, not_true_eq_false, ge_iff_le, gt_iff_lt, Int.toNat_natCast, Int.reduceToNat, Int.cast_ofNat_Int, Int.natCast_nonneg, Try.f56]
  repeat refine And.intro (by decide +kernel) ?_
  refine CallsX.args [(4, 0)] hset (by simp) (by simp [Mem.get, assoc]) rfl rfl ?_
  simp only [absE, absL, absF, reduceCtorEq, ↓reduceIte, Nat.reduceEqDiff, Nat.reduceAdd, Nat.reduceLT, Nat.reduceMul, Nat.reduceSub, Nat.reduceLeDiff, Int.reduceLT, Int.reduceLE, Int.reduceEq, Option.isSome_some, implies_true, false_implies, Prod.mk.injEq, ne_eq, not_false_eq_true, not_true_eq_false, ge_iff_le, gt_iff_lt, Int.toNat_natCast, Int.reduceToNat, Int.cast_ofNat_Int, Int.natCast_nonneg]
  repeat refine And.intro (by decide +kernel) ?_
  refine CallsX.none (l05Next_ok N t (mkB [0] 1) ht hs mkB_len) ?_
  simp only [absE, absL, absF, reduceCtorEq, ↓reduceIte, Nat.reduceEqDiff, Nat.reduceAdd, Nat.reduceLT, Nat.reduceMul, Nat.reduceSub, Nat.reduceLeDiff, Int.reduceLT, Int.reduceLE, Int.reduceEq, Option.isSome_some, implies_true, false_implies, Prod.mk.injEq, ne_eq, not_false_eq_true, not_true_eq_false, ge_iff_le, gt_iff_lt, Int.toNat_natCast, Int.reduceToNat, Int.cast_ofNat_Int, Int.natCast_nonneg, mkS_zero hs]
  repeat refine And.intro (by decide +kernel) ?_
  refine CallsVia.none (l05Told_ok (mkS N t 0) mkS_len) ?_
  rintro _ _ _ ⟨rfl, rfl, rfl⟩
  simp only [absE, absL, absF, reduceCtorEq, ↓reduceIte, Nat.reduceEqDiff, Nat.reduceAdd, Nat.reduceLT, Nat.reduceMul, Nat.reduceSub, Nat.reduceLeDiff, Int.reduceLT, Int.reduceLE, Int.reduceEq, Option.isSome_some, implies_true, false_implies, Prod.mk.injEq, ne_eq, not_false_eq_true, not_true_eq_false, ge_iff_le, gt_iff_lt, Int.toNat_natCast, Int.reduceToNat, Int.cast_ofNat_Int, Int.natCast_nonneg, told_mkS hN]
  repeat refine And.intro (by omega) ?_
  refine awpLoop.intro (fun k : Nat => [(1, .ref (.ptr 1 0 0 0)), (3, .ref (.ptr 7 0 0 0)), (4, .ref (.sl 11 0 0 0 (k + 1) 1))]) (fun k => ⟨[], [((1, 0), .lv true (sqS N t)), ((7, 0), .lv true ([(0, .bools 10 (mkS N t k))])), ((11, 0), .lv true ([(0, .cells (k + 1) (outs 6 0 (serL N t k)))]))] ++ rbag 6 0 (serL N t k), 13⟩)
    (fun k => ∀ j, j < k → sN N t (j + 1) ≠ sN N t j) (fun k => 1100 - k) 0 (fun j hj => absurd hj (by omega)) ⟨[((1, 0), (1, 0)), ((7, 0), (7, 0))] ++ snocS (11, 0) 11 10 6 0, wkOk_snoc (next := 13) (by simp [wkOk]) (by decide) (by decide) (by decide) (by decide) (by simp) (by decide), ?_, ?_⟩ ?_
  · simp [wkEnv, lk, renV, renAt, snocS, renTo]
  · simp only [wkMem]
    have e0 : serL N t 0 = [] ++ [memL (prevP N t 1) N] := rfl
    rw [e0, wk_snoc (n := 0) (LL := []) (xs := memL (prevP N t 1) N) rfl (by decide) (by decide) (by decide) (by simp) (by decide) (by simp [Mem.get, assoc, outs_nil, zeroArr]) (by simp [Mem.get, assoc, ib]) (fun j hj => absurd hj (by omega))]
    simp [wkLoc, ob, Mem.get, assoc, renBlk, renSegs, renSg]
  · intro k hk
    have g := sN_grow hs hu k hk
    have g2 := sN_lt (t := t) (k := k) hN
    simp only [absE, absL, absF, reduceCtorEq, ↓reduceIte, Nat.reduceEqDiff, Nat.reduceAdd, Nat.reduceLT, Nat.reduceMul, Nat.reduceSub, Nat.reduceLeDiff, Int.reduceLT, Int.reduceLE, Int.reduceEq, Option.isSome_some, implies_true, false_implies, Prod.mk.injEq, ne_eq, not_false_eq_true, not_true_eq_false, ge_iff_le, gt_iff_lt, Int.toNat_natCast, Int.reduceToNat, Int.cast_ofNat_Int, Int.natCast_nonneg]
    refine CallsVia.none (l05Next_ok N t (mkS N t k) ht hs mkS_len) ?_
    rintro _ _ _ ⟨rfl, rfl, rfl⟩
    simp only [absE, absL, absF, reduceCtorEq, ↓reduceIte, Nat.reduceEqDiff, Nat.reduceAdd, Nat.reduceLT, Nat.reduceMul, Nat.reduceSub, Nat.reduceLeDiff, Int.reduceLT, Int.reduceLE, Int.reduceEq, Option.isSome_some, implies_true, false_implies, Prod.mk.injEq, ne_eq, not_false_eq_true, not_true_eq_false, ge_iff_le, gt_iff_lt, Int.toNat_natCast, Int.reduceToNat, Int.cast_ofNat_Int, Int.natCast_nonneg, mkS_next hs]
    by_cases he : sN N t (k + 1) = sN N t k
    · have hi : mkS N t (k + 1) = mkS N t k := (mkS_same hN).2 he
      have ek := serK_eq (by omega) he hk
      simp only [absE, absL, absF, reduceCtorEq, ↓reduceIte, Nat.reduceEqDiff, Nat.reduceAdd, Nat.reduceLT, Nat.reduceMul, Nat.reduceSub, Nat.reduceLeDiff, Int.reduceLT, Int.reduceLE, Int.reduceEq, Option.isSome_some, implies_true, false_implies, Prod.mk.injEq, ne_eq, not_false_eq_true, not_true_eq_false, ge_iff_le, gt_iff_lt, Int.toNat_natCast, Int.reduceToNat, Int.cast_ofNat_Int, Int.natCast_nonneg, hi, eq_self, Try.results56]
      rw [ek]
      refine ⟨(11, 0) :: srcs 6 0 (serL N t k).length, row_nodup (.inl (by decide)), row_keep (by decide) (by decide), by simp [renV, renAt, renFin, idx], by simp [renBlk, renSegs, renSg], ?_⟩
      exact row_map (p := (11, 0)) (B := 6) (LL := serL N t k) (by decide) (by decide) (by simp [Mem.get, assoc, ob, serL_len]) fun j hj => by simp only [Mem.get, assoc]; simp; have q := assoc_rbag_in' (a := 6) (k := 0) hj; rwa [Nat.zero_add] at q
    · have hi : ¬ mkS N t (k + 1) = mkS N t k := fun h => he ((mkS_same hN).1 h)
      have m1 : (k + 1) * 1 = k + 1 := Nat.mul_one _
      simp only [absE, absL, absF, reduceCtorEq, ↓reduceIte, Nat.reduceEqDiff, Nat.reduceAdd, Nat.reduceLT, Nat.reduceMul, Nat.reduceSub, Nat.reduceLeDiff, Int.reduceLT, Int.reduceLE, Int.reduceEq, Option.isSome_some, implies_true, false_implies, Prod.mk.injEq, ne_eq, not_false_eq_true, not_true_eq_false, ge_iff_le, gt_iff_lt, Int.toNat_natCast, Int.reduceToNat, Int.cast_ofNat_Int, Int.natCast_nonneg, hi]
      refine CallsVia.none (l05Told_ok (mkS N t (k + 1)) mkS_len) ?_
      rintro _ _ _ ⟨rfl, rfl, rfl⟩
      simp only [absE, absL, absF, reduceCtorEq, ↓reduceIte, Nat.reduceEqDiff, Nat.reduceAdd, Nat.reduceLT, Nat.reduceMul, Nat.reduceSub, Nat.reduceLeDiff, Int.reduceLT, Int.reduceLE, Int.reduceEq, Option.isSome_some, implies_true, false_implies, Prod.mk.injEq, ne_eq, not_false_eq_true, not_true_eq_false, ge_iff_le, gt_iff_lt, Int.toNat_natCast, Int.reduceToNat, Int.cast_ofNat_Int, Int.natCast_nonneg, told_mkS hN, m1]
      repeat refine And.intro (by omega) ?_
      refine LoopNext.intro (k + 1) (fun j hj => ?_) (by omega) ⟨[((1, 0), (1, 0)), ((7, 0), (7, 0))] ++ snocS (27, 0) 11 25 6 (k + 1), wkOk_snoc (next := 13) (by simp [wkOk]) (by decide) (by decide) (by decide) (by decide) (by simp) (by decide), ?_, ?_⟩
      · by_cases e : j = k
        · subst e; exact he
        · exact hk j (by omega)
      · simp [wkEnv, lk, renV, renAt, snocS, renTo]
      · simp only [wkMem]
        rw [serL_next, wk_snoc (LL := serL N t k) (xs := memL (prevP N t (k + 2)) N) (by rw [serL_len]) (by decide) (by decide) (by decide) (by simp) (by decide) (by simp [Mem.get, assoc]) (by simp [Mem.get, assoc, ib]) (fun j hj => by
          simp only [Mem.get, assoc]
          simp
          have q := assoc_rbag_in' (a := 6) (k := 0) (i := j) (LL := serL N t k) (by rw [serL_len]; omega)
          rwa [Nat.zero_add] at q)]
        simp [wkLoc, ob, serL_len, Mem.get, assoc, renBlk, renSegs, renSg]
noncomputable def upsL (N : Nat) (t : List Int) : LLs := serL N t (serK N t)
theorem implUpper_yes (n : Int) (t : List Int) (ht : Bytes 100 t) (h : loopB n t = true) :
    ACalls Try.prog 31 [.agg (sqS n t)] [] (fun v ms ns => v = llV (upsL n.toNat t) ∧ ms = [] ∧ ns = llN (upsL n.toNat t)) := by
  have hb : sqB n t = true ∧ unitB n.toNat t 0 = true := by simpa only [loopB, Bool.and_eq_true] using h
  have hs : SqP n t := sqB_iff.1 hb.1
  obtain ⟨N, rfl⟩ : ∃ N : Nat, n = N := ⟨n.toNat, by have := hs.1; omega⟩
  have hu : UnitP N t 0 := unitB_iff.1 hb.2
  have hN := hs.le
  rw [show (N : Int).toNat = N by omega]
  have hK : serK N t ≤ 1100 := fnd_le
  have hser := series_ok N t ht hs hu
  unfold upsL
  generalize serK N t = K at hK hser ⊢
  have hlo := listsOf_ok ((List.range (K + 1)).map (sN N t)) (fun v hv => by
    obtain ⟨i, _, rfl⟩ := List.mem_map.1 hv
    have := sN_lt (t := t) (k := i) hN; omega) (by simp; omega)
  rw [serL_bits hN, List.map_map, List.length_map, List.length_range] at hlo
  refine acalls_of_body mix Try.func31 rfl fok31 (Nat.le_of_ble_eq_true rfl) ?_
  unfold abody
  simp only [absE, absL, absF, reduceCtorEq, ↓reduceIte, Nat.reduceEqDiff, Nat.reduceAdd, Nat.reduceLT, Nat.reduceMul, Nat.reduceSub, Nat.reduceLeDiff, Int.reduceLT, Int.reduceLE, Int.reduceEq, Option.isSome_some, implies_true, false_implies, Prod.mk.injEq, ne_eq, not_false_eq_true, not_true_eq_false, ge_iff_le, gt_iff_lt, Int.toNat_natCast, Int.reduceToNat, Int.cast_ofNat_Int, Int.natCast_nonneg, Try.f31]
  refine CallsVia.none (isLoop_ok N t ht) ?_
  rintro _ _ _ ⟨rfl, rfl, rfl⟩
  simp only [absE, absL, absF, reduceCtorEq, ↓reduceIte, Nat.reduceEqDiff, Nat.reduceAdd, Nat.reduceLT, Nat.reduceMul, Nat.reduceSub, Nat.reduceLeDiff, Int.reduceLT, Int.reduceLE, Int.reduceEq, Option.isSome_some, implies_true, false_implies, Prod.mk.injEq, ne_eq, not_false_eq_true, not_true_eq_false, ge_iff_le, gt_iff_lt, Int.toNat_natCast, Int.reduceToNat, Int.cast_ofNat_Int, Int.natCast_nonneg, h]
  refine CallsVia.none (hser) ?_
  rintro _ _ _ ⟨rfl, rfl, rfl⟩
  simp only [absE, absL, absF, reduceCtorEq, ↓reduceIte, Nat.reduceEqDiff, Nat.reduceAdd, Nat.reduceLT, Nat.reduceMul, Nat.reduceSub, Nat.reduceLeDiff, Int.reduceLT, Int.reduceLE, Int.reduceEq, Option.isSome_some, implies_true, false_implies, Prod.mk.injEq, ne_eq, not_false_eq_true, not_true_eq_false, ge_iff_le, gt_iff_lt, Int.toNat_natCast, Int.reduceToNat, Int.cast_ofNat_Int, Int.natCast_nonneg]
  refine CallsVia.args [(8, 0)] hlo (by simp) (by simp [Mem.get, assoc]) rfl rfl ?_
  rintro _ _ _ ⟨rfl, rfl, rfl⟩
  simp only [absE, absL, absF, reduceCtorEq, ↓reduceIte, Nat.reduceEqDiff, Nat.reduceAdd, Nat.reduceLT, Nat.reduceMul, Nat.reduceSub, Nat.reduceLeDiff, Int.reduceLT, Int.reduceLE, Int.reduceEq, Option.isSome_some, implies_true, false_implies, Prod.mk.injEq, ne_eq, not_false_eq_true, not_true_eq_false, ge_iff_le, gt_iff_lt, Int.toNat_natCast, Int.reduceToNat, Int.cast_ofNat_Int, Int.natCast_nonneg, newUps_inn, ob_out, Mem.upd_bagU, Try.results31]
  refine ⟨(9, 0) :: srcs 9 1 (serL N t K).length, row_nodup (.inr (by decide)), row_keep (by decide) (by decide), ?_, by simp, ?_⟩
  · simp [renV, renVs, renAt, renFin, idx, llV, serL_len]
  · exact row_map' (p := (9, 0)) (B := 9) (k := 1) (LL := serL N t K) (.inr (by decide)) (by decide) (show assoc (rbag 9 1 _ ++ _) 9 0 = _ by rw [assoc_rbag_lt (by decide)]; rfl) fun j hj => show assoc (rbag 9 1 _ ++ _) 9 (1 + j) = _ from assoc_rbag_in hj
theorem specUpper_yes (n : Int) (t : List Int) (ht : Bytes 100 t) (h : loopB n t = true) :
    ACalls Try.prog 30 [.agg (sqS n t)] [] (fun v ms ns => v = llV (upsL n.toNat t) ∧ ms = [] ∧ ns = llN (upsL n.toNat t)) := by
  have hb : sqB n t = true ∧ unitB n.toNat t 0 = true := by simpa only [loopB, Bool.and_eq_true] using h
  have hs : SqP n t := sqB_iff.1 hb.1
  obtain ⟨N, rfl⟩ : ∃ N : Nat, n = N := ⟨n.toNat, by have := hs.1; omega⟩
  have hu : UnitP N t 0 := unitB_iff.1 hb.2
  rw [show (N : Int).toNat = N by omega]
  have hser := l05Series_ok N t ht hs hu
  unfold upsL
  generalize serK N t = K at hser ⊢
  refine acalls_of_body mix Try.func30 rfl fok30 (Nat.le_of_ble_eq_true rfl) ?_
  unfold abody
  simp only [absE, absL, absF, reduceCtorEq, ↓reduceIte, Nat.reduceEqDiff, Nat.reduceAdd, Nat.reduceLT, Nat.reduceMul, Nat.reduceSub, Nat.reduceLeDiff, Int.reduceLT, Int.reduceLE, Int.reduceEq, Option.isSome_some, implies_true, false_implies, Prod.mk.injEq, ne_eq, not_false_eq_true, not_true_eq_false, ge_iff_le, gt_iff_lt, Int.toNat_natCast, Int.reduceToNat, Int.cast_ofNat_Int, Int.natCast_nonneg, Try.f30]
  refine CallsVia.none (l01Loop_ok N t ht) ?_
  rintro _ _ _ ⟨rfl, rfl, rfl⟩
  simp only [absE, absL, absF, reduceCtorEq, ↓reduceIte, Nat.reduceEqDiff, Nat.reduceAdd, Nat.reduceLT, Nat.reduceMul, Nat.reduceSub, Nat.reduceLeDiff, Int.reduceLT, Int.reduceLE, Int.reduceEq, Option.isSome_some, implies_true, false_implies, Prod.mk.injEq, ne_eq, not_false_eq_true, not_true_eq_false, ge_iff_le, gt_iff_lt, Int.toNat_natCast, Int.reduceToNat, Int.cast_ofNat_Int, Int.natCast_nonneg, h]
  refine CallsVia.none (hser) ?_
  rintro _ _ _ ⟨rfl, rfl, rfl⟩
  simp only [llN]
  simp only [absE, absL, absF, reduceCtorEq, ↓reduceIte, Nat.reduceEqDiff, Nat.reduceAdd, Nat.reduceLT, Nat.reduceMul, Nat.reduceSub, Nat.reduceLeDiff, Int.reduceLT, Int.reduceLE, Int.reduceEq, Option.isSome_some, implies_true, false_implies, Prod.mk.injEq, ne_eq, not_false_eq_true, not_true_eq_false, ge_iff_le, gt_iff_lt, Int.toNat_natCast, Int.reduceToNat, Int.cast_ofNat_Int, Int.natCast_nonneg, newUps_inn, ob_out, Mem.upd_bagU, Try.results30]
  refine ⟨(8, 0) :: srcs 8 1 (serL N t K).length, row_nodup (.inr (by decide)), row_keep (by decide) (by decide), ?_, by simp, ?_⟩
  · simp [renV, renVs, renAt, renFin, idx, llV, serL_len]
  · exact row_map' (p := (8, 0)) (B := 8) (k := 1) (LL := serL N t K) (.inr (by decide)) (by decide) (show assoc (rbag 8 1 _ ++ _) 8 0 = _ by rw [assoc_rbag_lt (by decide)]; rfl) fun j hj => show assoc (rbag 8 1 _ ++ _) 8 (1 + j) = _ from assoc_rbag_in hj
theorem specUpper_no (n : Int) (t : List Int) (ht : Bytes 100 t) (h : loopB n t = false) :
    ACalls Try.prog 30 [.agg (sqS n t)] [] (fun v ms ns => v = .tup [.ref .nils, .i .i64 1] ∧ ms = [] ∧ ns = []) := by
  refine acalls_of_body mix Try.func30 rfl fok30 (Nat.le_of_ble_eq_true rfl) ?_
  unfold abody
  simp only [absE, absL, absF, reduceCtorEq, ↓reduceIte, Nat.reduceEqDiff, Nat.reduceAdd, Nat.reduceLT, Nat.reduceMul, Nat.reduceSub, Nat.reduceLeDiff, Int.reduceLT, Int.reduceLE, Int.reduceEq, Option.isSome_some, implies_true, false_implies, Prod.mk.injEq, ne_eq, not_false_eq_true, not_true_eq_false, ge_iff_le, gt_iff_lt, Int.toNat_natCast, Int.reduceToNat, Int.cast_ofNat_Int, Int.natCast_nonneg, Try.f30]
  refine CallsVia.none (l01Loop_ok n t ht) ?_
  rintro _ _ _ ⟨rfl, rfl, rfl⟩
  simp only [absE, absL, absF, reduceCtorEq, ↓reduceIte, Nat.reduceEqDiff, Nat.reduceAdd, Nat.reduceLT, Nat.reduceMul, Nat.reduceSub, Nat.reduceLeDiff, Int.reduceLT, Int.reduceLE, Int.reduceEq, Option.isSome_some, implies_true, false_implies, Prod.mk.injEq, ne_eq, not_false_eq_true, not_true_eq_false, ge_iff_le, gt_iff_lt, Int.toNat_natCast, Int.reduceToNat, Int.cast_ofNat_Int, Int.natCast_nonneg, h, Try.results30]
  exact ⟨[], by simp, by simp, by simp [renV, renVs, renAt]⟩
theorem implUpper_no (n : Int) (t : List Int) (ht : Bytes 100 t) (h : loopB n t = false) :
    ACalls Try.prog 31 [.agg (sqS n t)] [] (fun v ms ns => v = .tup [.ref .nils, .i .i64 1] ∧ ms = [] ∧ ns = []) := by
  refine acalls_of_body mix Try.func31 rfl fok31 (Nat.le_of_ble_eq_true rfl) ?_
  unfold abody
  simp only [absE, absL, absF, reduceCtorEq, ↓reduceIte, Nat.reduceEqDiff, Nat.reduceAdd, Nat.reduceLT, Nat.reduceMul, Nat.reduceSub, Nat.reduceLeDiff, Int.reduceLT, Int.reduceLE, Int.reduceEq, Option.isSome_some, implies_true, false_implies, Prod.mk.injEq, ne_eq, not_false_eq_true, not_true_eq_false, ge_iff_le, gt_iff_lt, Int.toNat_natCast, Int.reduceToNat, Int.cast_ofNat_Int, Int.natCast_nonneg, Try.f31]
  refine CallsVia.none (isLoop_ok n t ht) ?_
  rintro _ _ _ ⟨rfl, rfl, rfl⟩
  simp only [absE, absL, absF, reduceCtorEq, ↓reduceIte, Nat.reduceEqDiff, Nat.reduceAdd, Nat.reduceLT, Nat.reduceMul, Nat.reduceSub, Nat.reduceLeDiff, Int.reduceLT, Int.reduceLE, Int.reduceEq, Option.isSome_some, implies_true, false_implies, Prod.mk.injEq, ne_eq, not_false_eq_true, not_true_eq_false, ge_iff_le, gt_iff_lt, Int.toNat_natCast, Int.reduceToNat, Int.cast_ofNat_Int, Int.natCast_nonneg, h, Try.results31]
  exact ⟨[], by simp, by simp, by simp [renV, renVs, renAt]⟩
theorem memL_full {p : Nat → Bool} : ∀ {N : Nat}, (memL p N).length = N ↔ ∀ i, i < N → p i = true
  | 0 => ⟨fun _ i hi => absurd hi (by omega), fun _ => rfl⟩
  | N + 1 => by
    have hl := memL_len (p := p) (k := N)
    unfold memL
    split
    · rename_i h
      rw [List.length_append, List.length_singleton]
      constructor
      · intro e i hi
        by_cases e2 : i = N
        · subst e2; exact h
        · exact (memL_full (N := N)).1 (by omega) i (by omega)
      · intro hh; rw [(memL_full (N := N)).2 fun i hi => hh i (by omega)]
    · rename_i h
      constructor
      · intro e; omega
      · intro hh; exact absurd (hh N (by omega)) h
theorem setM_full {p : Nat → Bool} {N : Nat} : setM p N = 2 ^ N - 1 ↔ ∀ i, i < N → p i = true := by
  constructor
  · intro h i hi
    have := congrArg (fun s => s.testBit i) h
    simpa [setM_bit, Nat.testBit_two_pow_sub_one, hi] using this
  · intro h
    apply Nat.eq_of_testBit_eq
    intro i
    rw [setM_bit, Nat.testBit_two_pow_sub_one]
    by_cases hi : i < N
    · rw [h i hi]; simp
    · simp [hi]
theorem ser_full {N : Nat} {t : List Int} {k : Nat} : sN N t k = 2 ^ N - 1 ↔ (memL (prevP N t (k + 1)) N).length = N := by rw [memL_full]; exact setM_full
noncomputable def clsR (n : Int) (t : List Int) : AV := if loopB n t then (if n = 1 then .tup [.i .i64 0, .i .i64 0] else if sN n.toNat t (serK n.toNat t) = 2 ^ n.toNat - 1 then .tup [.i .i64 ((serK n.toNat t + 1 : Nat) : Int), .i .i64 0] else .tup [.i .i64 0, .i .i64 4]) else .tup [.i .i64 0, .i .i64 1]
theorem cls_form (n : Int) (t : List Int) (ht : Bytes 100 t) : ∃ s e, clsR n t = .tup [.i .i64 s, .i .i64 e] := by
  unfold clsR
  split
  · split
    · exact ⟨_, _, rfl⟩
    · split
      · exact ⟨_, _, rfl⟩
      · exact ⟨_, _, rfl⟩
  · exact ⟨_, _, rfl⟩
theorem all_ok (N : Nat) (t : List Int) (hN : N ≤ 10) : ACalls Try.prog 58 [.agg (sqS N t)] [] (fun v ms ns => v = .i .i64 ((2 ^ N - 1 : Nat) : Int) ∧ ms = [] ∧ ns = []) := by
  have h2 : (2 : Nat) ^ N ≤ 2 ^ 10 := Nat.pow_le_pow_right (by decide) hN
  have h3 := Nat.two_pow_pos N
  have s1 := wrap_shl (c := N) (by omega)
  have s2 : IntKind.i64.wrap (((2 ^ N : Nat) : Int) - 1) = ((2 ^ N - 1 : Nat) : Int) := by rw [wrap_i64 (by omega) (by omega)]; omega
  have z1 : (0 : Int) ≤ (N : Int) := by omega
  refine acalls_of_body mix Try.func58 rfl fok58 (Nat.le_of_ble_eq_true rfl) ?_
  unfold abody
  simp only [absE, absL, absF, reduceCtorEq, ↓reduceIte, Nat.reduceEqDiff, Nat.reduceAdd, Nat.reduceLT, Nat.reduceMul, Nat.reduceSub, Nat.reduceLeDiff, Int.reduceLT, Int.reduceLE, Int.reduceEq, Option.isSome_some, implies_true, false_implies, Prod.mk.injEq, ne_eq, not_false_eq_true, not_true_eq_false, ge_iff_le, gt_iff_lt, Int.toNat_natCast, Int.reduceToNat, Int.cast_ofNat_Int, Int.natCast_nonneg, z1, s1, s2, Try.f58, Try.results58]
  exact ⟨[], by simp, by simp, by simp [renV, renVs, renSegs, renSg]⟩
theorem implClass_ok (n : Int) (t : List Int) (ht : Bytes 100 t) : ACalls Try.prog 24 [.agg (sqS n t)] [] (fun v ms ns => v = clsR n t ∧ ms = [] ∧ ns = []) := by
  refine acalls_of_body mix Try.func24 rfl fok24 (Nat.le_of_ble_eq_true rfl) ?_
  unfold abody
  simp only [absE, absL, absF, reduceCtorEq, ↓reduceIte, Nat.reduceEqDiff, Nat.reduceAdd, Nat.reduceLT, Nat.reduceMul, Nat.reduceSub, Nat.reduceLeDiff, Int.reduceLT, Int.reduceLE, Int.reduceEq, Option.isSome_some, implies_true, false_implies, Prod.mk.injEq, ne_eq, not_false_eq_true, not_true_eq_false, ge_iff_le, gt_iff_lt, Int.toNat_natCast, Int.reduceToNat, Int.cast_ofNat_Int, Int.natCast_nonneg, Try.f24]
  refine CallsVia.none (isLoop_ok n t ht) ?_
  rintro _ _ _ ⟨rfl, rfl, rfl⟩
  cases h : loopB n t
  · simp only [absE, absL, absF, reduceCtorEq, ↓reduceIte, Nat.reduceEqDiff, Nat.reduceAdd, Nat.reduceLT, Nat.reduceMul, Nat.reduceSub, Nat.reduceLeDiff, Int.reduceLT, Int.reduceLE, Int.reduceEq, Option.isSome_some, implies_true, false_implies, Prod.mk.injEq, ne_eq, not_false_eq_true, not_true_eq_false, ge_iff_le, gt_iff_lt, Int.toNat_natCast, Int.reduceToNat, Int.cast_ofNat_Int, Int.natCast_nonneg, Try.results24]
    exact ⟨[], by simp, by simp, by simp [renV, renVs, renSegs, renSg, clsR, h]⟩
  · have hb : sqB n t = true ∧ unitB n.toNat t 0 = true := by simpa only [loopB, Bool.and_eq_true] using h
    have hs : SqP n t := sqB_iff.1 hb.1
    obtain ⟨N, rfl⟩ : ∃ N : Nat, n = N := ⟨n.toNat, by have := hs.1; omega⟩
    have hu : UnitP N t 0 := unitB_iff.1 hb.2
    have hN := hs.le
    by_cases h1 : (N : Int) = 1
    · have e : clsR N t = .tup [.i .i64 0, .i .i64 0] := by unfold clsR; rw [if_pos h, if_pos h1]
      rw [e]
      simp only [absE, absL, absF, reduceCtorEq, ↓reduceIte, Nat.reduceEqDiff, Nat.reduceAdd, Nat.reduceLT, Nat.reduceMul, Nat.reduceSub, Nat.reduceLeDiff, Int.reduceLT, Int.reduceLE, Int.reduceEq, Option.isSome_some, implies_true, false_implies, Prod.mk.injEq, ne_eq, not_false_eq_true, not_true_eq_false, ge_iff_le, gt_iff_lt, Int.toNat_natCast, Int.reduceToNat, Int.cast_ofNat_Int, Int.natCast_nonneg, h1, Try.results24]
      exact ⟨[], by simp, by simp, by simp [renV, renVs, renSegs, renSg]⟩
    · simp only [absE, absL, absF, reduceCtorEq, ↓reduceIte, Nat.reduceEqDiff, Nat.reduceAdd, Nat.reduceLT, Nat.reduceMul, Nat.reduceSub, Nat.reduceLeDiff, Int.reduceLT, Int.reduceLE, Int.reduceEq, Option.isSome_some, implies_true, false_implies, Prod.mk.injEq, ne_eq, not_false_eq_true, not_true_eq_false, ge_iff_le, gt_iff_lt, Int.toNat_natCast, Int.reduceToNat, Int.cast_ofNat_Int, Int.natCast_nonneg, h1]
      have hser := series_ok N t ht hs hu
      have hK : serK N t ≤ 1100 := fnd_le
      have tn : (N : Int).toNat = N := by omega
      have hR : clsR N t = if sN N t (serK N t) = 2 ^ N - 1 then .tup [.i .i64 ((serK N t + 1 : Nat) : Int), .i .i64 0] else .tup [.i .i64 0, .i .i64 4] := by unfold clsR; rw [if_pos h, if_neg h1, tn]
      rw [hR]
      generalize serK N t = K at hK hser ⊢
      refine CallsVia.none (hser) ?_
      rintro _ _ _ ⟨rfl, rfl, rfl⟩
      have w : IntKind.i64.wrap (((K + 1 : Nat) : Int) - 1) = K := by rw [show ((K + 1 : Nat) : Int) - 1 = (K : Nat) by omega]; exact wrap_i64n (by omega)
      have i1 : (K : Int) < ((K + 1 : Nat) : Int) := by omega
      have v1 : 0 + K * 1 < K + 1 := by omega
      have e0 : (serI N t (K)).getD (0 + K * 1) 0 = ((sN N t (K) : Nat) : Int) := by rw [Nat.zero_add, Nat.mul_one]; exact serI_get (Nat.le_refl _)
      simp only [absE, absL, absF, reduceCtorEq, ↓reduceIte, Nat.reduceEqDiff, Nat.reduceAdd, Nat.reduceLT, Nat.reduceMul, Nat.reduceSub, Nat.reduceLeDiff, Int.reduceLT, Int.reduceLE, Int.reduceEq, Option.isSome_some, implies_true, false_implies, Prod.mk.injEq, ne_eq, not_false_eq_true, not_true_eq_false, ge_iff_le, gt_iff_lt, Int.toNat_natCast, Int.reduceToNat, Int.cast_ofNat_Int, Int.natCast_nonneg, w, i1, v1, e0]
      repeat refine And.intro (by decide +kernel) ?_
      refine CallsX.none (all_ok N t hN) ?_
      by_cases h2 : sN N t (K) = 2 ^ N - 1
      · have g2 : ((sN N t (K) : Nat) : Int) = ((2 ^ N - 1 : Nat) : Int) := by rw [h2]
        simp only [absE, absL, absF, reduceCtorEq, ↓reduceIte, Nat.reduceEqDiff, Nat.reduceAdd, Nat.reduceLT, Nat.reduceMul, Nat.reduceSub, Nat.reduceLeDiff, Int.reduceLT, Int.reduceLE, Int.reduceEq, Option.isSome_some, implies_true, false_implies, Prod.mk.injEq, ne_eq, not_false_eq_true, not_true_eq_false, ge_iff_le, gt_iff_lt, Int.toNat_natCast, Int.reduceToNat, Int.cast_ofNat_Int, Int.natCast_nonneg, g2, eq_self, Try.results24]
        repeat refine And.intro (by decide +kernel) ?_
        exact ⟨[], by simp, by simp, by simp [renV, renVs, renSegs, renSg, h2]⟩
      · have g2 : ¬((sN N t (K) : Nat) : Int) = ((2 ^ N - 1 : Nat) : Int) := by omega
        simp only [absE, absL, absF, reduceCtorEq, ↓reduceIte, Nat.reduceEqDiff, Nat.reduceAdd, Nat.reduceLT, Nat.reduceMul, Nat.reduceSub, Nat.reduceLeDiff, Int.reduceLT, Int.reduceLE, Int.reduceEq, Option.isSome_some, implies_true, false_implies, Prod.mk.injEq, ne_eq, not_false_eq_true, not_true_eq_false, ge_iff_le, gt_iff_lt, Int.toNat_natCast, Int.reduceToNat, Int.cast_ofNat_Int, Int.natCast_nonneg, g2, Try.results24]
        repeat refine And.intro (by decide +kernel) ?_
        exact ⟨[], by simp, by simp, by simp [renV, renVs, renSegs, renSg, h2]⟩
theorem specClass_ok (n : Int) (t : List Int) (ht : Bytes 100 t) : ACalls Try.prog 23 [.agg (sqS n t)] [] (fun v ms ns => v = clsR n t ∧ ms = [] ∧ ns = []) := by
  refine acalls_of_body mix Try.func23 rfl fok23 (Nat.le_of_ble_eq_true rfl) ?_
  unfold abody
  simp only [absE, absL, absF, reduceCtorEq, ↓reduceIte, Nat.reduceEqDiff, Nat.reduceAdd, Nat.reduceLT, Nat.reduceMul, Nat.reduceSub, Nat.reduceLeDiff, Int.reduceLT, Int.reduceLE, Int.reduceEq, Option.isSome_some, implies_true, false_implies, Prod.mk.injEq, ne_eq, not_false_eq_true, not_true_eq_false, ge_iff_le, gt_iff_lt, Int.toNat_natCast, Int.reduceToNat, Int.cast_ofNat_Int, Int.natCast_nonneg, Try.f23]
  refine CallsVia.none (l01Loop_ok n t ht) ?_
  rintro _ _ _ ⟨rfl, rfl, rfl⟩
  cases h : loopB n t
  · simp only [absE, absL, absF, reduceCtorEq, ↓reduceIte, Nat.reduceEqDiff, Nat.reduceAdd, Nat.reduceLT, Nat.reduceMul, Nat.reduceSub, Nat.reduceLeDiff, Int.reduceLT, Int.reduceLE, Int.reduceEq, Option.isSome_some, implies_true, false_implies, Prod.mk.injEq, ne_eq, not_false_eq_true, not_true_eq_false, ge_iff_le, gt_iff_lt, Int.toNat_natCast, Int.reduceToNat, Int.cast_ofNat_Int, Int.natCast_nonneg, Try.results23]
    exact ⟨[], by simp, by simp, by simp [renV, renVs, renSegs, renSg, clsR, h]⟩
  · have hb : sqB n t = true ∧ unitB n.toNat t 0 = true := by simpa only [loopB, Bool.and_eq_true] using h
    have hs : SqP n t := sqB_iff.1 hb.1
    obtain ⟨N, rfl⟩ : ∃ N : Nat, n = N := ⟨n.toNat, by have := hs.1; omega⟩
    have hu : UnitP N t 0 := unitB_iff.1 hb.2
    have hN := hs.le
    by_cases h1 : (N : Int) = 1
    · have e : clsR N t = .tup [.i .i64 0, .i .i64 0] := by unfold clsR; rw [if_pos h, if_pos h1]
      rw [e]
      simp only [absE, absL, absF, reduceCtorEq, ↓reduceIte, Nat.reduceEqDiff, Nat.reduceAdd, Nat.reduceLT, Nat.reduceMul, Nat.reduceSub, Nat.reduceLeDiff, Int.reduceLT, Int.reduceLE, Int.reduceEq, Option.isSome_some, implies_true, false_implies, Prod.mk.injEq, ne_eq, not_false_eq_true, not_true_eq_false, ge_iff_le, gt_iff_lt, Int.toNat_natCast, Int.reduceToNat, Int.cast_ofNat_Int, Int.natCast_nonneg, h1, Try.results23]
      exact ⟨[], by simp, by simp, by simp [renV, renVs, renSegs, renSg]⟩
    · simp only [absE, absL, absF, reduceCtorEq, ↓reduceIte, Nat.reduceEqDiff, Nat.reduceAdd, Nat.reduceLT, Nat.reduceMul, Nat.reduceSub, Nat.reduceLeDiff, Int.reduceLT, Int.reduceLE, Int.reduceEq, Option.isSome_some, implies_true, false_implies, Prod.mk.injEq, ne_eq, not_false_eq_true, not_true_eq_false, ge_iff_le, gt_iff_lt, Int.toNat_natCast, Int.reduceToNat, Int.cast_ofNat_Int, Int.natCast_nonneg, h1]
      have hser := l05Series_ok N t ht hs hu
      have hK : serK N t ≤ 1100 := fnd_le
      have tn : (N : Int).toNat = N := by omega
      have hR : clsR N t = if sN N t (serK N t) = 2 ^ N - 1 then .tup [.i .i64 ((serK N t + 1 : Nat) : Int), .i .i64 0] else .tup [.i .i64 0, .i .i64 4] := by unfold clsR; rw [if_pos h, if_neg h1, tn]
      rw [hR]
      generalize serK N t = K at hK hser ⊢
      refine CallsVia.none (hser) ?_
      rintro _ _ _ ⟨rfl, rfl, rfl⟩
      have w : IntKind.i64.wrap (((K + 1 : Nat) : Int) - 1) = K := by rw [show ((K + 1 : Nat) : Int) - 1 = (K : Nat) by omega]; exact wrap_i64n (by omega)
      have i1 : (K : Int) < ((K + 1 : Nat) : Int) := by omega
      have v1 : 0 + K * 1 < (serL N t K).length := by rw [serL_len]; omega
      have e0 : ∀ a, (outs a 1 (serL N t K)).getD (0 + K * 1) .top = .sl a (1 + K) 0 0 (memL (prevP N t (K + 1)) N).length 1 := fun a => by rw [Nat.zero_add, Nat.mul_one, outs_get (by rw [serL_len]; omega), serL_at (Nat.le_refl _)]
      have a0 : ∀ r, assoc (rbag 11 1 (serL N t K) ++ ((11, 0), ob 11 1 (serL N t K)) :: r) 11 0 = .lv true [(0, .cells (serL N t K).length (outs 11 1 (serL N t K)))] := fun r => by rw [assoc_rbag_lt (by decide)]; rfl
      have a1 : ∀ r, assoc (rbag 11 1 (serL N t K) ++ r) 1 0 = assoc r 1 0 := fun r => assoc_rbag_ne (by decide)
      have hml := memL_len (p := prevP N t (K + 1)) (k := N)
      simp only [llN]
      simp only [absE, absL, absF, reduceCtorEq, ↓reduceIte, Nat.reduceEqDiff, Nat.reduceAdd, Nat.reduceLT, Nat.reduceMul, Nat.reduceSub, Nat.reduceLeDiff, Int.reduceLT, Int.reduceLE, Int.reduceEq, Option.isSome_some, implies_true, false_implies, Prod.mk.injEq, ne_eq, not_false_eq_true, not_true_eq_false, ge_iff_le, gt_iff_lt, Int.toNat_natCast, Int.reduceToNat, Int.cast_ofNat_Int, Int.natCast_nonneg, newUps_inn, ob_out, Mem.upd_bagU, w, i1, v1, e0, a0, a1]
      by_cases h2 : sN N t (K) = 2 ^ N - 1
      · have g2 : ¬((memL (prevP N t (K + 1)) N).length : Int) < N := by have := ser_full.1 h2; omega
        simp only [absE, absL, absF, reduceCtorEq, ↓reduceIte, Nat.reduceEqDiff, Nat.reduceAdd, Nat.reduceLT, Nat.reduceMul, Nat.reduceSub, Nat.reduceLeDiff, Int.reduceLT, Int.reduceLE, Int.reduceEq, Option.isSome_some, implies_true, false_implies, Prod.mk.injEq, ne_eq, not_false_eq_true, not_true_eq_false, ge_iff_le, gt_iff_lt, Int.toNat_natCast, Int.reduceToNat, Int.cast_ofNat_Int, Int.natCast_nonneg, g2, Try.results23]
        repeat refine And.intro (by decide +kernel) ?_
        exact ⟨[], by simp, by simp, by simp [renV, renVs, renSegs, renSg, h2]⟩
      · have g2 : ((memL (prevP N t (K + 1)) N).length : Int) < N := by have hx : (memL (prevP N t (K + 1)) N).length ≠ N := fun e => h2 (ser_full.2 e); omega
        simp only [absE, absL, absF, reduceCtorEq, ↓reduceIte, Nat.reduceEqDiff, Nat.reduceAdd, Nat.reduceLT, Nat.reduceMul, Nat.reduceSub, Nat.reduceLeDiff, Int.reduceLT, Int.reduceLE, Int.reduceEq, Option.isSome_some, implies_true, false_implies, Prod.mk.injEq, ne_eq, not_false_eq_true, not_true_eq_false, ge_iff_le, gt_iff_lt, Int.toNat_natCast, Int.reduceToNat, Int.cast_ofNat_Int, Int.natCast_nonneg, g2, Try.results23]
        repeat refine And.intro (by decide +kernel) ?_
        exact ⟨[], by simp, by simp, by simp [renV, renVs, renSegs, renSg, h2]⟩
theorem ups_fits {n : Int} {t : List Int} (h : loopB n t = true) : FitsL (upsL n.toNat t) := by
  have hs : SqP n t := by simp only [loopB, Bool.and_eq_true] at h; exact sqB_iff.1 h.1
  have hn := hs.2.1
  have hK : serK n.toNat t ≤ 1100 := fnd_le
  unfold upsL
  generalize serK n.toNat t = K at hK
  refine ⟨by rw [serL_len]; omega, fun i hi => ?_⟩
  rw [serL_len] at hi
  rw [serL_at (by omega)]
  have := memL_len (p := prevP n.toNat t (i + 1)) (k := n.toNat)
  omega

end Go.Proofs.Ytcaadjjgggjefaa
