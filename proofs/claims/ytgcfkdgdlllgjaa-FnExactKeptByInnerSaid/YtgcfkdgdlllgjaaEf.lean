/-
Contracts of functions of the given program, by the abstract walk.
-/
import Derived.Test.YtgcfkdgdlllgjaaAbsW
import Derived.Test.YtgcfkdgdlllgjaaEe
import Derived.Test.YtgcfkdgdlllgjaaCs
import Derived.Test.YtgcfkdgdlllgjaaCo
import Derived.Test.YtgcfkdgdlllgjaaDp
namespace Go.Proofs.Ytgcfkdgdlllgjaa
open Go Go.Abs
set_option linter.unusedVariables false
set_option linter.unusedSectionVars false
set_option linter.unusedSimpArgs false
set_option maxRecDepth 100000
def autP (N : Nat) (t p : List Int) : Bool := !decide (isoT N t p p p N = t)
noncomputable def autAV (n : Int) (t : List Int) : AV := if ncode n t = 0 then .tup [.b (!(inT n.toNat t n.toNat).any (autP n.toNat t)), .i .i64 0] else .tup [.b false, .i .i64 (ncode n t)]
theorem aut_form (n : Int) (t : List Int) (ht : Bytes 100 t) : ∃ b e, autAV n t = .tup [.b b, .i .i64 e] := by
  unfold autAV; split <;> exact ⟨_, _, rfl⟩
theorem aut1_ok (N : Nat) (t p : List Int) (ht : Bytes 100 t) (hs : SqP N t) (hp : PermP N p ∧ Bytes 10 p) :
    ACalls Try.prog 72 [.agg (plS p), .ref (.ptr 0 0 0 0)] [.lv true (sqS N t)] (fun v ms ns => v = .b (autP N t p) ∧ ms = [.lv true (sqS N t)] ∧ ns = []) := by
  refine acalls_of_body mix Try.func72 rfl fok72 (Nat.le_of_ble_eq_true rfl) ?_
  unfold abody
  simp only [absE, absL, absF, reduceCtorEq, ↓reduceIte, Nat.reduceEqDiff, Nat.reduceAdd, Nat.reduceLT, Nat.reduceMul, Nat.reduceSub, Nat.reduceLeDiff, Int.reduceLT, Int.reduceLE, Int.reduceEq, Option.isSome_some, implies_true, false_implies, Prod.mk.injEq, ne_eq, not_false_eq_true, not_true_eq_false, ge_iff_le, gt_iff_lt, Int.toNat_natCast, Int.reduceToNat, Int.cast_ofNat_Int, Int.natCast_nonneg, Try.f72]
  refine CallsX.none (isotope_ok N t p p p ht hp.2 hp.2 hp.2 hs hp.1 hp.1) ?_
  by_cases hb : isoT N t p p p N = t
  · simp only [absE, absL, absF, reduceCtorEq, ↓reduceIte, Nat.reduceEqDiff, Nat.reduceAdd, Nat.reduceLT, Nat.reduceMul, Nat.reduceSub, Nat.reduceLeDiff, Int.reduceLT, Int.reduceLE, Int.reduceEq, Option.isSome_some, implies_true, false_implies, Prod.mk.injEq, ne_eq, not_false_eq_true, not_true_eq_false, ge_iff_le, gt_iff_lt, Int.toNat_natCast, Int.reduceToNat, Int.cast_ofNat_Int, Int.natCast_nonneg, hb, Try.results72]
    exact ⟨[], by simp, by simp, by simp [renV, renVs, renSegs, renSg, renBlk, autP, hb]⟩
  · simp only [absE, absL, absF, reduceCtorEq, ↓reduceIte, Nat.reduceEqDiff, Nat.reduceAdd, Nat.reduceLT, Nat.reduceMul, Nat.reduceSub, Nat.reduceLeDiff, Int.reduceLT, Int.reduceLE, Int.reduceEq, Option.isSome_some, implies_true, false_implies, Prod.mk.injEq, ne_eq, not_false_eq_true, not_true_eq_false, ge_iff_le, gt_iff_lt, Int.toNat_natCast, Int.reduceToNat, Int.cast_ofNat_Int, Int.natCast_nonneg, hb, Try.results72]
    exact ⟨[], by simp, by simp, by simp [renV, renVs, renSegs, renSg, renBlk, autP, hb]⟩
theorem implAut_ok (n : Int) (t : List Int) (ht : Bytes 100 t) : ACalls Try.prog 30 [.agg (sqS n t)] [] (fun v ms ns => v = autAV n t ∧ ms = [] ∧ ns = []) := by
  unfold autAV
  refine acalls_of_body mix Try.func30 rfl fok30 (Nat.le_of_ble_eq_true rfl) ?_
  unfold abody
  simp only [absE, absL, absF, reduceCtorEq, ↓reduceIte, Nat.reduceEqDiff, Nat.reduceAdd, Nat.reduceLT, Nat.reduceMul, Nat.reduceSub, Nat.reduceLeDiff, Int.reduceLT, Int.reduceLE, Int.reduceEq, Option.isSome_some, implies_true, false_implies, Prod.mk.injEq, ne_eq, not_false_eq_true, not_true_eq_false, ge_iff_le, gt_iff_lt, Int.toNat_natCast, Int.reduceToNat, Int.cast_ofNat_Int, Int.natCast_nonneg, Try.f30]
  refine CallsVia.none (loopCode_nil n t ht) ?_
  rintro _ _ _ ⟨rfl, rfl, rfl⟩
  by_cases h : ncode n t = 0
  · have hs := ncode_zero h
    obtain ⟨N, rfl⟩ : ∃ N : Nat, n = N := ⟨n.toNat, by have := hs.1; omega⟩
    have hl := inT_len (t := t) hs.le (x := N)
    have hN := hs.le
    simp only [absE, absL, absF, reduceCtorEq, ↓reduceIte, Nat.reduceEqDiff, Nat.reduceAdd, Nat.reduceLT, Nat.reduceMul, Nat.reduceSub, Nat.reduceLeDiff, Int.reduceLT, Int.reduceLE, Int.reduceEq, Option.isSome_some, implies_true, false_implies, Prod.mk.injEq, ne_eq, not_false_eq_true, not_true_eq_false, ge_iff_le, gt_iff_lt, Int.toNat_natCast, Int.reduceToNat, Int.cast_ofNat_Int, Int.natCast_nonneg, h]
    refine CallsVia.none (inner_ok N t ht hs) ?_
    rintro _ _ _ ⟨rfl, rfl, rfl⟩
    simp only [absE, absL, absF, reduceCtorEq, ↓reduceIte, Nat.reduceEqDiff, Nat.reduceAdd, Nat.reduceLT, Nat.reduceMul, Nat.reduceSub, Nat.reduceLeDiff, Int.reduceLT, Int.reduceLE, Int.reduceEq, Option.isSome_some, implies_true, false_implies, Prod.mk.injEq, ne_eq, not_false_eq_true, not_true_eq_false, ge_iff_le, gt_iff_lt, Int.toNat_natCast, Int.reduceToNat, Int.cast_ofNat_Int, Int.natCast_nonneg]
    refine CallsVia.args [(10, 0), (1, 0)] (containsFunc_ok (inT N t N) 72 (autP N t) (sqS N t) (fun ρ => by simp [renSegs, renSg]) inT_maps (by omega) (fun p hp => aut1_ok N t p ht hs (inT_all hs (Nat.le_refl N) p hp))) (by simp) (by simp [Mem.get, assoc]) rfl rfl ?_
    rintro _ _ _ ⟨rfl, rfl, rfl⟩
    simp only [absE, absL, absF, reduceCtorEq, ↓reduceIte, Nat.reduceEqDiff, Nat.reduceAdd, Nat.reduceLT, Nat.reduceMul, Nat.reduceSub, Nat.reduceLeDiff, Int.reduceLT, Int.reduceLE, Int.reduceEq, Option.isSome_some, implies_true, false_implies, Prod.mk.injEq, ne_eq, not_false_eq_true, not_true_eq_false, ge_iff_le, gt_iff_lt, Int.toNat_natCast, Int.reduceToNat, Int.cast_ofNat_Int, Int.natCast_nonneg, Try.results30]
    exact ⟨[], by simp, by simp, by simp [renV, renVs, renSegs, renSg, h]⟩
  · simp only [absE, absL, absF, reduceCtorEq, ↓reduceIte, Nat.reduceEqDiff, Nat.reduceAdd, Nat.reduceLT, Nat.reduceMul, Nat.reduceSub, Nat.reduceLeDiff, Int.reduceLT, Int.reduceLE, Int.reduceEq, Option.isSome_some, implies_true, false_implies, Prod.mk.injEq, ne_eq, not_false_eq_true, not_true_eq_false, ge_iff_le, gt_iff_lt, Int.toNat_natCast, Int.reduceToNat, Int.cast_ofNat_Int, Int.natCast_nonneg, h, Try.results30]
    exact ⟨[], by simp, by simp, by simp [renV, renVs, renSegs, renSg, h]⟩
theorem specAut_ok (n : Int) (t : List Int) (ht : Bytes 100 t) : ACalls Try.prog 29 [.agg (sqS n t)] [] (fun v ms ns => v = autAV n t ∧ ms = [] ∧ ns = []) := by
  unfold autAV
  refine acalls_of_body mix Try.func29 rfl fok29 (Nat.le_of_ble_eq_true rfl) ?_
  unfold abody
  simp only [absE, absL, absF, reduceCtorEq, ↓reduceIte, Nat.reduceEqDiff, Nat.reduceAdd, Nat.reduceLT, Nat.reduceMul, Nat.reduceSub, Nat.reduceLeDiff, Int.reduceLT, Int.reduceLE, Int.reduceEq, Option.isSome_some, implies_true, false_implies, Prod.mk.injEq, ne_eq, not_false_eq_true, not_true_eq_false, ge_iff_le, gt_iff_lt, Int.toNat_natCast, Int.reduceToNat, Int.cast_ofNat_Int, Int.natCast_nonneg, Try.f29]
  refine CallsVia.none (l04Loop_nil n t ht) ?_
  rintro _ _ _ ⟨rfl, rfl, rfl⟩
  by_cases h : ncode n t = 0
  · have hs := ncode_zero h
    obtain ⟨N, rfl⟩ : ∃ N : Nat, n = N := ⟨n.toNat, by have := hs.1; omega⟩
    have hN := hs.le
    have hl0 := inT_len (t := t) hs.le (x := N)
    have hdl := dedR_len (Ls := inT N t N) (i := (inT N t N).length)
    have hany := dedR_any (Ls := inT N t N) (P := autP N t)
    have hin : ∀ p ∈ dedR (inT N t N) (inT N t N).length, PermP N p ∧ Bytes 10 p := fun p hp => inT_all hs (Nat.le_refl N) p (dedR_sub (Nat.le_refl _) p hp)
    have hM : Maps (dedR (inT N t N) (inT N t N).length) := fun p hp => (hin p hp).2.len
    rw [show (N : Int).toNat = N by omega, ← hany]
    simp only [absE, absL, absF, reduceCtorEq, ↓reduceIte, Nat.reduceEqDiff, Nat.reduceAdd, Nat.reduceLT, Nat.reduceMul, Nat.reduceSub, Nat.reduceLeDiff, Int.reduceLT, Int.reduceLE, Int.reduceEq, Option.isSome_some, implies_true, false_implies, Prod.mk.injEq, ne_eq, not_false_eq_true, not_true_eq_false, ge_iff_le, gt_iff_lt, Int.toNat_natCast, Int.reduceToNat, Int.cast_ofNat_Int, Int.natCast_nonneg, h]
    refine CallsVia.none (l04Inner_ok N t ht hs) ?_
    rintro _ _ _ ⟨rfl, rfl, rfl⟩
    generalize dedR (inT N t N) (inT N t N).length = D at hdl hin hM
    simp only [absE, absL, absF, reduceCtorEq, ↓reduceIte, Nat.reduceEqDiff, Nat.reduceAdd, Nat.reduceLT, Nat.reduceMul, Nat.reduceSub, Nat.reduceLeDiff, Int.reduceLT, Int.reduceLE, Int.reduceEq, Option.isSome_some, implies_true, false_implies, Prod.mk.injEq, ne_eq, not_false_eq_true, not_true_eq_false, ge_iff_le, gt_iff_lt, Int.toNat_natCast, Int.reduceToNat, Int.cast_ofNat_Int, Int.natCast_nonneg]
    refine awpLoop.intro (fun i : Nat => [(1, .ref (.ptr 1 0 0 0)), (5, .ref (.sl 10 0 0 0 D.length 10)), (6, .i .i64 i)]) (fun i => ⟨[], [((1, 0), .lv true (sqS N t)), ((10, 0), .lv true ([(0, .ints .u8 (D.length * 10) D.flatten)]))], 13⟩)
      (fun i => i ≤ D.length ∧ ∀ j, j < i → autP N t (D.getD j []) = false) (fun i => D.length - i) 0 ⟨by omega, fun j hj => absurd hj (by omega)⟩ ⟨[((1,0),(1,0)), ((10,0),(10,0))], rfl, ?_, ?_⟩ ?_
    · simp [wkEnv, lk, renV, renAt, renTo]
    · simp [wkMem, wkLoc, Mem.get, assoc, renBlk, renSegs, renSg, renTo]
    · rintro i ⟨hi, hp⟩
      by_cases h2 : (i : Int) < D.length
      · have w := wrap_i64s (show i < 2 ^ 62 by omega)
        have hi2 : i < D.length := by omega
        have u1 : 0 + i * 10 + 10 ≤ D.length * 10 := by omega
        have k1 : (D.flatten.drop (0 + i * 10)).take 10 = D.getD i [] := by rw [Nat.zero_add]; exact flat_get hM hi2
        have hm := getD_mem hi2
        by_cases h10 : D.length * 10 = 10
        · have e1 := flat_one hM h10 hi2
          have hm1 : D.flatten ∈ D := by rw [e1]; exact hm
          simp only [absE, absL, absF, reduceCtorEq, ↓reduceIte, Nat.reduceEqDiff, Nat.reduceAdd, Nat.reduceLT, Nat.reduceMul, Nat.reduceSub, Nat.reduceLeDiff, Int.reduceLT, Int.reduceLE, Int.reduceEq, Option.isSome_some, implies_true, false_implies, Prod.mk.injEq, ne_eq, not_false_eq_true, not_true_eq_false, ge_iff_le, gt_iff_lt, Int.toNat_natCast, Int.reduceToNat, Int.cast_ofNat_Int, Int.natCast_nonneg, h2, h10]
          repeat refine And.intro (by omega) ?_
          have hq := hin _ hm1
          refine CallsX.none (l02Isotope_ok N t _ _ _ ht hq.2 hq.2 hq.2 hs hq.1 hq.1) ?_
          by_cases hb : isoT N t D.flatten D.flatten D.flatten N = t
          · have hb2 : autP N t (D.getD i []) = false := by rw [← e1]; simp [autP, hb]
            simp only [absE, absL, absF, reduceCtorEq, ↓reduceIte, Nat.reduceEqDiff, Nat.reduceAdd, Nat.reduceLT, Nat.reduceMul, Nat.reduceSub, Nat.reduceLeDiff, Int.reduceLT, Int.reduceLE, Int.reduceEq, Option.isSome_some, implies_true, false_implies, Prod.mk.injEq, ne_eq, not_false_eq_true, not_true_eq_false, ge_iff_le, gt_iff_lt, Int.toNat_natCast, Int.reduceToNat, Int.cast_ofNat_Int, Int.natCast_nonneg, hb]
            refine LoopNext.intro (i + 1) ⟨by omega, fun j hj => ?_⟩ (by omega) ⟨[((1,0),(1,0)), ((10,0),(10,0))], rfl, ?_, ?_⟩
            · by_cases ej : j = i
              · subst ej; exact hb2
              · exact hp j (by omega)
            · simp [wkEnv, lk, renV, renAt, renTo, w, h10]
            · simp [wkMem, wkLoc, Mem.get, assoc, renBlk, renSegs, renSg, renTo, w, h10]
          · have hb2 : autP N t D.flatten = true := by simp [autP, hb]
            have hA : D.any (autP N t) = true := List.any_eq_true.2 ⟨_, hm1, hb2⟩
            simp only [absE, absL, absF, reduceCtorEq, ↓reduceIte, Nat.reduceEqDiff, Nat.reduceAdd, Nat.reduceLT, Nat.reduceMul, Nat.reduceSub, Nat.reduceLeDiff, Int.reduceLT, Int.reduceLE, Int.reduceEq, Option.isSome_some, implies_true, false_implies, Prod.mk.injEq, ne_eq, not_false_eq_true, not_true_eq_false, ge_iff_le, gt_iff_lt, Int.toNat_natCast, Int.reduceToNat, Int.cast_ofNat_Int, Int.natCast_nonneg, hb, Try.results29]
            exact ⟨[], by simp, by simp, by simp [renV, renVs, renSegs, renSg, h, hA]⟩
        · have h11 : 10 < D.length * 10 := by omega
          simp only [absE, absL, absF, reduceCtorEq, ↓reduceIte, Nat.reduceEqDiff, Nat.reduceAdd, Nat.reduceLT, Nat.reduceMul, Nat.reduceSub, Nat.reduceLeDiff, Int.reduceLT, Int.reduceLE, Int.reduceEq, Option.isSome_some, implies_true, false_implies, Prod.mk.injEq, ne_eq, not_false_eq_true, not_true_eq_false, ge_iff_le, gt_iff_lt, Int.toNat_natCast, Int.reduceToNat, Int.cast_ofNat_Int, Int.natCast_nonneg, h2, u1, k1, h10, h11]
          have hq := hin _ hm
          refine CallsX.none (l02Isotope_ok N t _ _ _ ht hq.2 hq.2 hq.2 hs hq.1 hq.1) ?_
          by_cases hb : isoT N t (D.getD i []) (D.getD i []) (D.getD i []) N = t
          · have hb2 : autP N t (D.getD i []) = false := by simp only [autP, hb]; simp
            simp only [absE, absL, absF, reduceCtorEq, ↓reduceIte, Nat.reduceEqDiff, Nat.reduceAdd, Nat.reduceLT, Nat.reduceMul, Nat.reduceSub, Nat.reduceLeDiff, Int.reduceLT, Int.reduceLE, Int.reduceEq, Option.isSome_some, implies_true, false_implies, Prod.mk.injEq, ne_eq, not_false_eq_true, not_true_eq_false, ge_iff_le, gt_iff_lt, Int.toNat_natCast, Int.reduceToNat, Int.cast_ofNat_Int, Int.natCast_nonneg, hb]
            refine LoopNext.intro (i + 1) ⟨by omega, fun j hj => ?_⟩ (by omega) ⟨[((1,0),(1,0)), ((10,0),(10,0))], rfl, ?_, ?_⟩
            · by_cases ej : j = i
              · subst ej; exact hb2
              · exact hp j (by omega)
            · simp [wkEnv, lk, renV, renAt, renTo, w]
            · simp [wkMem, wkLoc, Mem.get, assoc, renBlk, renSegs, renSg, renTo, w]
          · have hb2 : autP N t (D.getD i []) = true := by simp only [autP, hb]; simp
            have hA : D.any (autP N t) = true := List.any_eq_true.2 ⟨_, hm, hb2⟩
            simp only [absE, absL, absF, reduceCtorEq, ↓reduceIte, Nat.reduceEqDiff, Nat.reduceAdd, Nat.reduceLT, Nat.reduceMul, Nat.reduceSub, Nat.reduceLeDiff, Int.reduceLT, Int.reduceLE, Int.reduceEq, Option.isSome_some, implies_true, false_implies, Prod.mk.injEq, ne_eq, not_false_eq_true, not_true_eq_false, ge_iff_le, gt_iff_lt, Int.toNat_natCast, Int.reduceToNat, Int.cast_ofNat_Int, Int.natCast_nonneg, hb, Try.results29]
            exact ⟨[], by simp, by simp, by simp [renV, renVs, renSegs, renSg, h, hA]⟩
      · have hA : D.any (autP N t) = false := by
          rw [Bool.eq_false_iff]
          intro hA
          obtain ⟨p, hm, hb⟩ := List.any_eq_true.1 hA
          obtain ⟨j, hj, e⟩ := List.getElem_of_mem hm
          have := hp j (by omega)
          rw [show D.getD j [] = p by simp [hj, e], hb] at this
          cases this
        simp only [absE, absL, absF, reduceCtorEq, ↓reduceIte, Nat.reduceEqDiff, Nat.reduceAdd, Nat.reduceLT, Nat.reduceMul, Nat.reduceSub, Nat.reduceLeDiff, Int.reduceLT, Int.reduceLE, Int.reduceEq, Option.isSome_some, implies_true, false_implies, Prod.mk.injEq, ne_eq, not_false_eq_true, not_true_eq_false, ge_iff_le, gt_iff_lt, Int.toNat_natCast, Int.reduceToNat, Int.cast_ofNat_Int, Int.natCast_nonneg, h2, Try.results29]
        exact ⟨[], by simp, by simp, by simp [renV, renVs, renSegs, renSg, h, hA]⟩
  · simp only [absE, absL, absF, reduceCtorEq, ↓reduceIte, Nat.reduceEqDiff, Nat.reduceAdd, Nat.reduceLT, Nat.reduceMul, Nat.reduceSub, Nat.reduceLeDiff, Int.reduceLT, Int.reduceLE, Int.reduceEq, Option.isSome_some, implies_true, false_implies, Prod.mk.injEq, ne_eq, not_false_eq_true, not_true_eq_false, ge_iff_le, gt_iff_lt, Int.toNat_natCast, Int.reduceToNat, Int.cast_ofNat_Int, Int.natCast_nonneg, h, Try.results29]
    exact ⟨[], by simp, by simp, by simp [renV, renVs, renSegs, renSg, h]⟩
/-! what all inner maps keep -/
def movP (x : Nat) (p : List Int) : Bool := !decide (pl p x = x)
def kepP (N : Nat) (t : List Int) (x : Nat) : Bool := !(inT N t N).any (movP x)
theorem kept1_ok (N : Nat) (p : List Int) (x : Nat) (hN : N ≤ 10) (hp : Bytes 10 p) (hx : x < N) :
    ACalls Try.prog 75 [.agg (plS p), .ref (.ptr 0 0 0 0)] [.lv true [(0, .ints .u8 1 [(x : Int)])]] (fun v ms ns => v = .b (movP x p) ∧ ms = [.lv true [(0, .ints .u8 1 [(x : Int)])]] ∧ ns = []) := by
  have i1 : (x : Int) < 10 := by omega
  have u1 : 0 + x * 1 < 10 := by omega
  have k1 : p.getD (0 + x * 1) 0 = (pl p x : Int) := by rw [Nat.zero_add, Nat.mul_one]; exact hp.place x
  refine acalls_of_body mix Try.func75 rfl fok75 (Nat.le_of_ble_eq_true rfl) ?_
  unfold abody
  by_cases hb : pl p x = x
  · have g : (pl p x : Int) = x := by omega
    simp only [absE, absL, absF, reduceCtorEq, ↓reduceIte, Nat.reduceEqDiff, Nat.reduceAdd, Nat.reduceLT, Nat.reduceMul, Nat.reduceSub, Nat.reduceLeDiff, Int.reduceLT, Int.reduceLE, Int.reduceEq, Option.isSome_some, implies_true, false_implies, Prod.mk.injEq, ne_eq, not_false_eq_true, not_true_eq_false, ge_iff_le, gt_iff_lt, Int.toNat_natCast, Int.reduceToNat, Int.cast_ofNat_Int, Int.natCast_nonneg, i1, u1, k1, g, Try.f75, Try.results75]
    exact ⟨[], by simp, by simp, by simp [renV, renVs, renSegs, renSg, renBlk, movP, hb]⟩
  · have g : ¬(pl p x : Int) = x := by omega
    simp only [absE, absL, absF, reduceCtorEq, ↓reduceIte, Nat.reduceEqDiff, Nat.reduceAdd, Nat.reduceLT, Nat.reduceMul, Nat.reduceSub, Nat.reduceLeDiff, Int.reduceLT, Int.reduceLE, Int.reduceEq, Option.isSome_some, implies_true, false_implies, Prod.mk.injEq, ne_eq, not_false_eq_true, not_true_eq_false, ge_iff_le, gt_iff_lt, Int.toNat_natCast, Int.reduceToNat, Int.cast_ofNat_Int, Int.natCast_nonneg, i1, u1, k1, g, Try.f75, Try.results75]
    exact ⟨[], by simp, by simp, by simp [renV, renVs, renSegs, renSg, renBlk, movP, hb]⟩
theorem implKept_yes (n : Int) (t : List Int) (ht : Bytes 100 t) (h : decide (ncode n t = 0) = true) :
    ACalls Try.prog 32 [.agg (sqS n t)] [] (fun v ms ns => v = listV (memL (kepP n.toNat t) n.toNat) ∧ ms = [] ∧ ns = listN (memL (kepP n.toNat t) n.toNat)) := by
  have h := of_decide_eq_true h
  have hs := ncode_zero h
  obtain ⟨N, rfl⟩ : ∃ N : Nat, n = N := ⟨n.toNat, by have := hs.1; omega⟩
  have hN := hs.le
  have hl0 := inT_len (t := t) hs.le (x := N)
  rw [show (N : Int).toNat = N by omega]
  refine acalls_of_body mix Try.func32 rfl fok32 (Nat.le_of_ble_eq_true rfl) ?_
  unfold abody
  simp only [absE, absL, absF, reduceCtorEq, ↓reduceIte, Nat.reduceEqDiff, Nat.reduceAdd, Nat.reduceLT, Nat.reduceMul, Nat.reduceSub, Nat.reduceLeDiff, Int.reduceLT, Int.reduceLE, Int.reduceEq, Option.isSome_some, implies_true, false_implies, Prod.mk.injEq, ne_eq, not_false_eq_true, not_true_eq_false, ge_iff_le, gt_iff_lt, Int.toNat_natCast, Int.reduceToNat, Int.cast_ofNat_Int, Int.natCast_nonneg, Try.f32]
  refine CallsVia.none (loopCode_nil N t ht) ?_
  rintro _ _ _ ⟨rfl, rfl, rfl⟩
  simp only [absE, absL, absF, reduceCtorEq, ↓reduceIte, Nat.reduceEqDiff, Nat.reduceAdd, Nat.reduceLT, Nat.reduceMul, Nat.reduceSub, Nat.reduceLeDiff, Int.reduceLT, Int.reduceLE, Int.reduceEq, Option.isSome_some, implies_true, false_implies, Prod.mk.injEq, ne_eq, not_false_eq_true, not_true_eq_false, ge_iff_le, gt_iff_lt, Int.toNat_natCast, Int.reduceToNat, Int.cast_ofNat_Int, Int.natCast_nonneg, h]
  refine CallsVia.none (elements_ok N t hN) ?_
  rintro _ _ _ ⟨rfl, rfl, rfl⟩
  simp only [absE, absL, absF, reduceCtorEq, ↓reduceIte, Nat.reduceEqDiff, Nat.reduceAdd, Nat.reduceLT, Nat.reduceMul, Nat.reduceSub, Nat.reduceLeDiff, Int.reduceLT, Int.reduceLE, Int.reduceEq, Option.isSome_some, implies_true, false_implies, Prod.mk.injEq, ne_eq, not_false_eq_true, not_true_eq_false, ge_iff_le, gt_iff_lt, Int.toNat_natCast, Int.reduceToNat, Int.cast_ofNat_Int, Int.natCast_nonneg]
  refine awpLoop.intro (fun x : Nat => [(1, .ref (.ptr 1 0 0 0)), (5, .ref (.sl 9 0 0 0 (memL (kepP N t) x).length 1)), (15, .ref (.sl 12 0 0 0 N 1)), (16, .i .i64 N), (17, .i .i64 x)]) (fun x => ⟨[], [((1, 0), .lv true (sqS N t)), ((9, 0), .lv true ([(0, .ints .i64 (memL (kepP N t) x).length (memL (kepP N t) x))])), ((12, 0), .lv true ([(0, .ints .u8 N (bytesTo N))]))], 15⟩)
    (fun x => x ≤ N) (fun x => N - x) 0 (by omega) ⟨[((1,0),(1,0)), ((9,0),(9,0)), ((12,0),(12,0))], rfl, ?_, ?_⟩ ?_
  · simp [wkEnv, lk, renV, renAt, renTo, memL]
  · simp [wkMem, wkLoc, Mem.get, assoc, renBlk, renSegs, renSg, renTo, memL]
  · intro x hx
    have hl := memL_len (p := kepP N t) (k := x)
    by_cases h' : (x : Int) < N
    · have w := wrap_i64s (show x < 2 ^ 62 by omega)
      have w1 := wrap_i64n (show x < 2 ^ 62 by omega)
      have b1 : (bytesTo N).getD (0 + x * 1) 0 = (x : Int) := by rw [Nat.zero_add, Nat.mul_one]; exact bytesTo_get (by omega)
      have v1 : 0 + x * 1 < N := by omega
      have mx : (memL (kepP N t) x).length * 1 = (memL (kepP N t) x).length := Nat.mul_one _
      simp only [absE, absL, absF, reduceCtorEq, ↓reduceIte, Nat.reduceEqDiff, Nat.reduceAdd, Nat.reduceLT, Nat.reduceMul, Nat.reduceSub, Nat.reduceLeDiff, Int.reduceLT, Int.reduceLE, Int.reduceEq, Option.isSome_some, implies_true, false_implies, Prod.mk.injEq, ne_eq, not_false_eq_true, not_true_eq_false, ge_iff_le, gt_iff_lt, Int.toNat_natCast, Int.reduceToNat, Int.cast_ofNat_Int, Int.natCast_nonneg, h', b1, v1]
      refine CallsVia.none (inner_ok N t ht hs) ?_
      rintro _ _ _ ⟨rfl, rfl, rfl⟩
      simp only [absE, absL, absF, reduceCtorEq, ↓reduceIte, Nat.reduceEqDiff, Nat.reduceAdd, Nat.reduceLT, Nat.reduceMul, Nat.reduceSub, Nat.reduceLeDiff, Int.reduceLT, Int.reduceLE, Int.reduceEq, Option.isSome_some, implies_true, false_implies, Prod.mk.injEq, ne_eq, not_false_eq_true, not_true_eq_false, ge_iff_le, gt_iff_lt, Int.toNat_natCast, Int.reduceToNat, Int.cast_ofNat_Int, Int.natCast_nonneg]
      refine CallsVia.args [(21, 0), (18, 0)] (containsFunc_ok (inT N t N) 75 (movP x) [(0, .ints .u8 1 [(x : Int)])] (fun ρ => by simp [renSegs, renSg]) inT_maps (by omega) (fun p hp => kept1_ok N p x hN (inT_all hs (Nat.le_refl N) p hp).2 (by omega))) (by simp) (by simp [Mem.get, assoc]) rfl rfl ?_
      rintro _ _ _ ⟨rfl, rfl, rfl⟩
      cases hb : (inT N t N).any (movP x)
      · have hk : kepP N t x = true := by simp only [kepP, hb]; rfl
        simp only [absE, absL, absF, reduceCtorEq, ↓reduceIte, Nat.reduceEqDiff, Nat.reduceAdd, Nat.reduceLT, Nat.reduceMul, Nat.reduceSub, Nat.reduceLeDiff, Int.reduceLT, Int.reduceLE, Int.reduceEq, Option.isSome_some, implies_true, false_implies, Prod.mk.injEq, ne_eq, not_false_eq_true, not_true_eq_false, ge_iff_le, gt_iff_lt, Int.toNat_natCast, Int.reduceToNat, Int.cast_ofNat_Int, Int.natCast_nonneg, w1, mx]
        repeat refine And.intro (by omega) ?_
        refine LoopNext.intro (x + 1) (by omega) (by omega) ⟨[((1,0),(1,0)), ((29,0),(9,0)), ((12,0),(12,0))], rfl, ?_, ?_⟩
        · simp [wkEnv, lk, renV, renAt, renTo, w, memL, hk]
        · simp [wkMem, wkLoc, Mem.get, assoc, renBlk, renSegs, renSg, renTo, w, memL, hk]
      · have hk : kepP N t x = false := by simp only [kepP, hb]; rfl
        simp only [absE, absL, absF, reduceCtorEq, ↓reduceIte, Nat.reduceEqDiff, Nat.reduceAdd, Nat.reduceLT, Nat.reduceMul, Nat.reduceSub, Nat.reduceLeDiff, Int.reduceLT, Int.reduceLE, Int.reduceEq, Option.isSome_some, implies_true, false_implies, Prod.mk.injEq, ne_eq, not_false_eq_true, not_true_eq_false, ge_iff_le, gt_iff_lt, Int.toNat_natCast, Int.reduceToNat, Int.cast_ofNat_Int, Int.natCast_nonneg]
        refine LoopNext.intro (x + 1) (by omega) (by omega) ⟨[((1,0),(1,0)), ((9,0),(9,0)), ((12,0),(12,0))], rfl, ?_, ?_⟩
        · simp [wkEnv, lk, renV, renAt, renTo, w, memL, hk]
        · simp [wkMem, wkLoc, Mem.get, assoc, renBlk, renSegs, renSg, renTo, w, memL, hk]
    · have hxN : x = N := by omega
      subst hxN
      simp only [absE, absL, absF, reduceCtorEq, ↓reduceIte, Nat.reduceEqDiff, Nat.reduceAdd, Nat.reduceLT, Nat.reduceMul, Nat.reduceSub, Nat.reduceLeDiff, Int.reduceLT, Int.reduceLE, Int.reduceEq, Option.isSome_some, implies_true, false_implies, Prod.mk.injEq, ne_eq, not_false_eq_true, not_true_eq_false, ge_iff_le, gt_iff_lt, Int.toNat_natCast, Int.reduceToNat, Int.cast_ofNat_Int, Int.natCast_nonneg, h', Try.results32]
      exact ⟨[(9, 0)], by simp, by simp, by simp [renV, renVs, renAt, renFin, idx, listV], by simp, by simp [renBlk, renSegs, renSg, Mem.get, assoc, listN]⟩
def keR (D : List (List Int)) (x : Nat) : Nat → Bool
  | 0 => true
  | k + 1 => keR D x k && decide (pl (D.getD k []) x = x)
theorem keR_all {D : List (List Int)} {x : Nat} : keR D x D.length = !D.any (movP x) := by
  have key : ∀ k, k ≤ D.length → keR D x k = !(D.take k).any (movP x) := fun k => by
    induction k with
    | zero => intro _; simp [keR]
    | succ k ih =>
      intro hk
      have e : D.getD k [] = D[k] := by simp [show k < D.length by omega]
      rw [keR, ih (by omega), List.take_succ_eq_append_getElem (by omega), List.any_append, e]
      simp [movP]
  have := key D.length (Nat.le_refl _)
  rwa [List.take_length] at this
theorem specKept_yes (n : Int) (t : List Int) (ht : Bytes 100 t) (h : decide (ncode n t = 0) = true) :
    ACalls Try.prog 31 [.agg (sqS n t)] [] (fun v ms ns => v = listV (memL (kepP n.toNat t) n.toNat) ∧ ms = [] ∧ ns = listN (memL (kepP n.toNat t) n.toNat)) := by
  have h := of_decide_eq_true h
  have hs := ncode_zero h
  obtain ⟨N, rfl⟩ : ∃ N : Nat, n = N := ⟨n.toNat, by have := hs.1; omega⟩
  have hN := hs.le
  have hl0 := inT_len (t := t) hs.le (x := N)
  have hdl := dedR_len (Ls := inT N t N) (i := (inT N t N).length)
  have hany := fun x => (keR_all (D := dedR (inT N t N) (inT N t N).length) (x := x)).trans (congrArg (fun b => !b) (dedR_any (Ls := inT N t N) (P := movP x)))
  have hin : ∀ p ∈ dedR (inT N t N) (inT N t N).length, PermP N p ∧ Bytes 10 p := fun p hp => inT_all hs (Nat.le_refl N) p (dedR_sub (Nat.le_refl _) p hp)
  have hM : Maps (dedR (inT N t N) (inT N t N).length) := fun p hp => (hin p hp).2.len
  have hany2 : ∀ x, keR (dedR (inT N t N) (inT N t N).length) x (dedR (inT N t N) (inT N t N).length).length = kepP N t x := hany
  rw [show (N : Int).toNat = N by omega]
  refine acalls_of_body mix Try.func31 rfl fok31 (Nat.le_of_ble_eq_true rfl) ?_
  unfold abody
  simp only [absE, absL, absF, reduceCtorEq, ↓reduceIte, Nat.reduceEqDiff, Nat.reduceAdd, Nat.reduceLT, Nat.reduceMul, Nat.reduceSub, Nat.reduceLeDiff, Int.reduceLT, Int.reduceLE, Int.reduceEq, Option.isSome_some, implies_true, false_implies, Prod.mk.injEq, ne_eq, not_false_eq_true, not_true_eq_false, ge_iff_le, gt_iff_lt, Int.toNat_natCast, Int.reduceToNat, Int.cast_ofNat_Int, Int.natCast_nonneg, Try.f31]
  refine CallsVia.none (l04Loop_nil N t ht) ?_
  rintro _ _ _ ⟨rfl, rfl, rfl⟩
  simp only [absE, absL, absF, reduceCtorEq, ↓reduceIte, Nat.reduceEqDiff, Nat.reduceAdd, Nat.reduceLT, Nat.reduceMul, Nat.reduceSub, Nat.reduceLeDiff, Int.reduceLT, Int.reduceLE, Int.reduceEq, Option.isSome_some, implies_true, false_implies, Prod.mk.injEq, ne_eq, not_false_eq_true, not_true_eq_false, ge_iff_le, gt_iff_lt, Int.toNat_natCast, Int.reduceToNat, Int.cast_ofNat_Int, Int.natCast_nonneg, h]
  refine CallsVia.none (l04Inner_ok N t ht hs) ?_
  rintro _ _ _ ⟨rfl, rfl, rfl⟩
  generalize dedR (inT N t N) (inT N t N).length = D at hdl hin hM hany2
  clear hany
  simp only [absE, absL, absF, reduceCtorEq, ↓reduceIte, Nat.reduceEqDiff, Nat.reduceAdd, Nat.reduceLT, Nat.reduceMul, Nat.reduceSub, Nat.reduceLeDiff, Int.reduceLT, Int.reduceLE, Int.reduceEq, Option.isSome_some, implies_true, false_implies, Prod.mk.injEq, ne_eq, not_false_eq_true, not_true_eq_false, ge_iff_le, gt_iff_lt, Int.toNat_natCast, Int.reduceToNat, Int.cast_ofNat_Int, Int.natCast_nonneg]
  refine awpLoop.intro (fun x : Nat => [(1, .ref (.ptr 1 0 0 0)), (5, .ref (.sl 10 0 0 0 D.length 10)), (6, .ref (.sl 11 0 0 0 (memL (kepP N t) x).length 1)), (7, .i .i64 x)]) (fun x => ⟨[], [((1, 0), .lv true (sqS N t)), ((10, 0), .lv true ([(0, .ints .u8 (D.length * 10) D.flatten)])), ((11, 0), .lv true ([(0, .ints .i64 (memL (kepP N t) x).length (memL (kepP N t) x))]))], 15⟩)
    (fun x => x ≤ N) (fun x => N - x) 0 (by omega) ⟨[((1,0),(1,0)), ((10,0),(10,0)), ((11,0),(11,0))], rfl, ?_, ?_⟩ ?_
  · simp [wkEnv, lk, renV, renAt, renTo, memL]
  · simp [wkMem, wkLoc, Mem.get, assoc, renBlk, renSegs, renSg, renTo, memL]
  · intro x hx
    have hl := memL_len (p := kepP N t) (k := x)
    by_cases h' : (x : Int) < N
    · have w := wrap_i64s (show x < 2 ^ 62 by omega)
      simp only [absE, absL, absF, reduceCtorEq, ↓reduceIte, Nat.reduceEqDiff, Nat.reduceAdd, Nat.reduceLT, Nat.reduceMul, Nat.reduceSub, Nat.reduceLeDiff, Int.reduceLT, Int.reduceLE, Int.reduceEq, Option.isSome_some, implies_true, false_implies, Prod.mk.injEq, ne_eq, not_false_eq_true, not_true_eq_false, ge_iff_le, gt_iff_lt, Int.toNat_natCast, Int.reduceToNat, Int.cast_ofNat_Int, Int.natCast_nonneg, h']
      refine awpLoop.intro (fun k : Nat => [(1, .ref (.ptr 1 0 0 0)), (5, .ref (.sl 10 0 0 0 D.length 10)), (6, .ref (.sl 11 0 0 0 (memL (kepP N t) x).length 1)), (7, .i .i64 x), (8, .b (keR D x k)), (9, .i .i64 k)]) (fun k => ⟨[], [((1, 0), .lv true (sqS N t)), ((10, 0), .lv true ([(0, .ints .u8 (D.length * 10) D.flatten)])), ((11, 0), .lv true ([(0, .ints .i64 (memL (kepP N t) x).length (memL (kepP N t) x))]))], 21⟩)
        (fun k => k ≤ D.length) (fun k => D.length - k) 0 (by omega) ⟨[((1,0),(1,0)), ((10,0),(10,0)), ((11,0),(11,0))], rfl, ?_, ?_⟩ ?_
      · simp [wkEnv, lk, renV, renAt, renTo, keR]
      · simp [wkMem, wkLoc, Mem.get, assoc, renBlk, renSegs, renSg, renTo, keR]
      · intro k hk
        by_cases h2 : (k : Int) < D.length
        · have w' := wrap_i64s (show k < 2 ^ 62 by omega)
          have hk2 : k < D.length := by omega
          have hb10 := (hin _ (getD_mem hk2)).2
          have i1 : (x : Int) < 10 := by omega
          have u1 : 0 + k * 10 + x * 1 < D.length * 10 := by omega
          have k1 : D.flatten.getD (0 + k * 10 + x * 1) 0 = (pl (D.getD k []) x : Int) := by rw [Nat.zero_add, Nat.mul_one, flat_cell hM hk2 (by omega)]; exact hb10.place x
          have r1 := hb10.place_lt x
          have w1 := wrap_i64n (show pl (D.getD k []) x < 2 ^ 62 by omega)
          cases hb : keR D x k
          · simp only [absE, absL, absF, reduceCtorEq, ↓reduceIte, Nat.reduceEqDiff, Nat.reduceAdd, Nat.reduceLT, Nat.reduceMul, Nat.reduceSub, Nat.reduceLeDiff, Int.reduceLT, Int.reduceLE, Int.reduceEq, Option.isSome_some, implies_true, false_implies, Prod.mk.injEq, ne_eq, not_false_eq_true, not_true_eq_false, ge_iff_le, gt_iff_lt, Int.toNat_natCast, Int.reduceToNat, Int.cast_ofNat_Int, Int.natCast_nonneg, h2, hb]
            refine LoopNext.intro (k + 1) (by omega) (by omega) ⟨[((1,0),(1,0)), ((10,0),(10,0)), ((11,0),(11,0))], rfl, ?_, ?_⟩
            · simp only [keR, hb]; simp [wkEnv, lk, renV, renAt, renTo, w']
            · simp [wkMem, wkLoc, Mem.get, assoc, renBlk, renSegs, renSg, renTo]
          · by_cases hc : pl (D.getD k []) x = x
            · have g : (pl (D.getD k []) x : Int) = x := by omega
              simp only [absE, absL, absF, reduceCtorEq, ↓reduceIte, Nat.reduceEqDiff, Nat.reduceAdd, Nat.reduceLT, Nat.reduceMul, Nat.reduceSub, Nat.reduceLeDiff, Int.reduceLT, Int.reduceLE, Int.reduceEq, Option.isSome_some, implies_true, false_implies, Prod.mk.injEq, ne_eq, not_false_eq_true, not_true_eq_false, ge_iff_le, gt_iff_lt, Int.toNat_natCast, Int.reduceToNat, Int.cast_ofNat_Int, Int.natCast_nonneg, h2, hb, i1, u1, k1, w1, g]
              refine LoopNext.intro (k + 1) (by omega) (by omega) ⟨[((1,0),(1,0)), ((10,0),(10,0)), ((11,0),(11,0))], rfl, ?_, ?_⟩
              · simp only [keR, hb, hc]; simp [wkEnv, lk, renV, renAt, renTo, w', wrap_i64n (show x < 2 ^ 62 by omega)]
              · simp [wkMem, wkLoc, Mem.get, assoc, renBlk, renSegs, renSg, renTo]
            · have g : ¬(pl (D.getD k []) x : Int) = x := by omega
              simp only [absE, absL, absF, reduceCtorEq, ↓reduceIte, Nat.reduceEqDiff, Nat.reduceAdd, Nat.reduceLT, Nat.reduceMul, Nat.reduceSub, Nat.reduceLeDiff, Int.reduceLT, Int.reduceLE, Int.reduceEq, Option.isSome_some, implies_true, false_implies, Prod.mk.injEq, ne_eq, not_false_eq_true, not_true_eq_false, ge_iff_le, gt_iff_lt, Int.toNat_natCast, Int.reduceToNat, Int.cast_ofNat_Int, Int.natCast_nonneg, h2, hb, i1, u1, k1, w1, g]
              refine LoopNext.intro (k + 1) (by omega) (by omega) ⟨[((1,0),(1,0)), ((10,0),(10,0)), ((11,0),(11,0))], rfl, ?_, ?_⟩
              · simp only [keR, hb, hc]; simp [wkEnv, lk, renV, renAt, renTo, w']
              · simp [wkMem, wkLoc, Mem.get, assoc, renBlk, renSegs, renSg, renTo]
        · have hkN : k = D.length := by omega
          subst hkN
          have mx : (memL (kepP N t) x).length * 1 = (memL (kepP N t) x).length := Nat.mul_one _
          have e := hany2 x
          cases hb : kepP N t x
          · rw [hb] at e
            simp only [absE, absL, absF, reduceCtorEq, ↓reduceIte, Nat.reduceEqDiff, Nat.reduceAdd, Nat.reduceLT, Nat.reduceMul, Nat.reduceSub, Nat.reduceLeDiff, Int.reduceLT, Int.reduceLE, Int.reduceEq, Option.isSome_some, implies_true, false_implies, Prod.mk.injEq, ne_eq, not_false_eq_true, not_true_eq_false, ge_iff_le, gt_iff_lt, Int.toNat_natCast, Int.reduceToNat, Int.cast_ofNat_Int, Int.natCast_nonneg, h2, e]
            refine LoopNext.intro (x + 1) (by omega) (by omega) ⟨[((1,0),(1,0)), ((10,0),(10,0)), ((11,0),(11,0))], rfl, ?_, ?_⟩
            · simp [wkEnv, lk, renV, renAt, renTo, w, memL, hb]
            · simp [wkMem, wkLoc, Mem.get, assoc, renBlk, renSegs, renSg, renTo, w, memL, hb]
          · rw [hb] at e
            simp only [absE, absL, absF, reduceCtorEq, ↓reduceIte, Nat.reduceEqDiff, Nat.reduceAdd, Nat.reduceLT, Nat.reduceMul, Nat.reduceSub, Nat.reduceLeDiff, Int.reduceLT, Int.reduceLE, Int.reduceEq, Option.isSome_some, implies_true, false_implies, Prod.mk.injEq, ne_eq, not_false_eq_true, not_true_eq_false, ge_iff_le, gt_iff_lt, Int.toNat_natCast, Int.reduceToNat, Int.cast_ofNat_Int, Int.natCast_nonneg, h2, e, mx]
            repeat refine And.intro (by omega) ?_
            refine LoopNext.intro (x + 1) (by omega) (by omega) ⟨[((1,0),(1,0)), ((10,0),(10,0)), ((29,0),(11,0))], rfl, ?_, ?_⟩
            · simp [wkEnv, lk, renV, renAt, renTo, w, memL, hb]
            · simp [wkMem, wkLoc, Mem.get, assoc, renBlk, renSegs, renSg, renTo, w, memL, hb]
    · have hxN : x = N := by omega
      subst hxN
      simp only [absE, absL, absF, reduceCtorEq, ↓reduceIte, Nat.reduceEqDiff, Nat.reduceAdd, Nat.reduceLT, Nat.reduceMul, Nat.reduceSub, Nat.reduceLeDiff, Int.reduceLT, Int.reduceLE, Int.reduceEq, Option.isSome_some, implies_true, false_implies, Prod.mk.injEq, ne_eq, not_false_eq_true, not_true_eq_false, ge_iff_le, gt_iff_lt, Int.toNat_natCast, Int.reduceToNat, Int.cast_ofNat_Int, Int.natCast_nonneg, h', Try.results31]
      exact ⟨[(11, 0)], by simp, by simp, by simp [renV, renVs, renAt, renFin, idx, listV], by simp, by simp [renBlk, renSegs, renSg, Mem.get, assoc, listN]⟩
theorem implKept_no (n : Int) (t : List Int) (ht : Bytes 100 t) (h : decide (ncode n t = 0) = false) :
    ACalls Try.prog 32 [.agg (sqS n t)] [] (fun v ms ns => v = .tup [.ref .nils, .i .i64 (ncode n t)] ∧ ms = [] ∧ ns = []) := by
  have h := of_decide_eq_false h
  refine acalls_of_body mix Try.func32 rfl fok32 (Nat.le_of_ble_eq_true rfl) ?_
  unfold abody
  simp only [absE, absL, absF, reduceCtorEq, ↓reduceIte, Nat.reduceEqDiff, Nat.reduceAdd, Nat.reduceLT, Nat.reduceMul, Nat.reduceSub, Nat.reduceLeDiff, Int.reduceLT, Int.reduceLE, Int.reduceEq, Option.isSome_some, implies_true, false_implies, Prod.mk.injEq, ne_eq, not_false_eq_true, not_true_eq_false, ge_iff_le, gt_iff_lt, Int.toNat_natCast, Int.reduceToNat, Int.cast_ofNat_Int, Int.natCast_nonneg, Try.f32]
  refine CallsVia.none (loopCode_nil n t ht) ?_
  rintro _ _ _ ⟨rfl, rfl, rfl⟩
  simp only [absE, absL, absF, reduceCtorEq, ↓reduceIte, Nat.reduceEqDiff, Nat.reduceAdd, Nat.reduceLT, Nat.reduceMul, Nat.reduceSub, Nat.reduceLeDiff, Int.reduceLT, Int.reduceLE, Int.reduceEq, Option.isSome_some, implies_true, false_implies, Prod.mk.injEq, ne_eq, not_false_eq_true, not_true_eq_false, ge_iff_le, gt_iff_lt, Int.toNat_natCast, Int.reduceToNat, Int.cast_ofNat_Int, Int.natCast_nonneg, h, Try.results32]
  exact ⟨[], by simp, by simp, by simp [renV, renVs, renAt]⟩
theorem specKept_no (n : Int) (t : List Int) (ht : Bytes 100 t) (h : decide (ncode n t = 0) = false) :
    ACalls Try.prog 31 [.agg (sqS n t)] [] (fun v ms ns => v = .tup [.ref .nils, .i .i64 (ncode n t)] ∧ ms = [] ∧ ns = []) := by
  have h := of_decide_eq_false h
  refine acalls_of_body mix Try.func31 rfl fok31 (Nat.le_of_ble_eq_true rfl) ?_
  unfold abody
  simp only [absE, absL, absF, reduceCtorEq, ↓reduceIte, Nat.reduceEqDiff, Nat.reduceAdd, Nat.reduceLT, Nat.reduceMul, Nat.reduceSub, Nat.reduceLeDiff, Int.reduceLT, Int.reduceLE, Int.reduceEq, Option.isSome_some, implies_true, false_implies, Prod.mk.injEq, ne_eq, not_false_eq_true, not_true_eq_false, ge_iff_le, gt_iff_lt, Int.toNat_natCast, Int.reduceToNat, Int.cast_ofNat_Int, Int.natCast_nonneg, Try.f31]
  refine CallsVia.none (l04Loop_nil n t ht) ?_
  rintro _ _ _ ⟨rfl, rfl, rfl⟩
  simp only [absE, absL, absF, reduceCtorEq, ↓reduceIte, Nat.reduceEqDiff, Nat.reduceAdd, Nat.reduceLT, Nat.reduceMul, Nat.reduceSub, Nat.reduceLeDiff, Int.reduceLT, Int.reduceLE, Int.reduceEq, Option.isSome_some, implies_true, false_implies, Prod.mk.injEq, ne_eq, not_false_eq_true, not_true_eq_false, ge_iff_le, gt_iff_lt, Int.toNat_natCast, Int.reduceToNat, Int.cast_ofNat_Int, Int.natCast_nonneg, h, Try.results31]
  exact ⟨[], by simp, by simp, by simp [renV, renVs, renAt]⟩
theorem kepList_len {n : Int} {t : List Int} (h : decide (ncode n t = 0) = true) {p : Nat → Bool} : (memL p n.toNat).length < 2 ^ 40 := by
  have := (ncode_zero (of_decide_eq_true h)).2.1
  have := memL_len (p := p) (k := n.toNat)
  omega

end Go.Proofs.Ytgcfkdgdlllgjaa
