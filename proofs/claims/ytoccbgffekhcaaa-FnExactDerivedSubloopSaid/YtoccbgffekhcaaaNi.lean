/-
Contracts of functions of the given program, by the abstract walk.
-/
import Derived.Test.YtoccbgffekhcaaaAbsY
import Derived.Test.YtoccbgffekhcaaaNh
import Derived.Test.YtoccbgffekhcaaaHd
namespace Go.Proofs.Ytoccbgffekhcaaa
open Go Go.Abs
set_option linter.unusedVariables false
set_option linter.unusedSectionVars false
set_option linter.unusedSimpArgs false
set_option maxRecDepth 100000
/-! normal closures: the reference -/
theorem chk_all {ops : List Oper} {j : Nat} {wr rd : List Abs.Id} : ∀ {h : Hist} {l : List Nat}, h.map (fun x => x.1) = l → (l.all fun i => ordB ops i j) = true → chk ops j wr rd h
  | [], _, _, _ => trivial
  | (i, wr', rd') :: r, _, rfl, hh => by
    simp only [List.map_cons, List.all_cons, Bool.and_eq_true] at hh
    refine ⟨?_, chk_all rfl hh.2⟩
    rw [hh.1, Bool.or_true]
theorem l06List_ok (n : Int) (t : List Int) (xs : List Int) (k : Nat) (ht : Bytes 100 t) (hx : xs.length = k) (hk : k ≤ 2 ^ 20) :
    ACalls Try.prog 56 [.agg (sqS n t), .ref (.sl 0 0 0 0 k 1)] [.lv true [(0, .ints .i64 k xs)]] (fun v ms ns => v = .i .i64 (lcd1 n t xs k) ∧ ms = [.lv true [(0, .ints .i64 k xs)]] ∧ ns = []) := by
  refine acalls_of_body mix Try.func56 rfl fok56 (Nat.le_of_ble_eq_true rfl) ?_
  unfold abody
  simp only [absE, absL, absF, reduceCtorEq, ↓reduceIte, Nat.reduceEqDiff, Nat.reduceAdd, Nat.reduceLT, Nat.reduceMul, Nat.reduceSub, Nat.reduceLeDiff, Int.reduceLT, Int.reduceLE, Int.reduceEq, Option.isSome_some, implies_true, false_implies, Prod.mk.injEq, ne_eq, not_false_eq_true, not_true_eq_false, ge_iff_le, gt_iff_lt, Int.toNat_natCast, Int.reduceToNat, Int.cast_ofNat_Int, Int.natCast_nonneg, Try.f56]
  refine CallsVia.none (l01Loop_ok n t ht) ?_
  rintro _ _ _ ⟨rfl, rfl, rfl⟩
  cases h1 : loopB n t
  · simp only [absE, absL, absF, reduceCtorEq, ↓reduceIte, Nat.reduceEqDiff, Nat.reduceAdd, Nat.reduceLT, Nat.reduceMul, Nat.reduceSub, Nat.reduceLeDiff, Int.reduceLT, Int.reduceLE, Int.reduceEq, Option.isSome_some, implies_true, false_implies, Prod.mk.injEq, ne_eq, not_false_eq_true, not_true_eq_false, ge_iff_le, gt_iff_lt, Int.toNat_natCast, Int.reduceToNat, Int.cast_ofNat_Int, Int.natCast_nonneg, Try.results56]
    exact ⟨[], by simp, by simp, by simp [renV, renBlk, renSegs, renSg, lcd1, h1]⟩
  · have hs : SqP n t := by simp only [loopB, Bool.and_eq_true] at h1; exact sqB_iff.1 h1.1
    obtain ⟨N, rfl⟩ : ∃ N : Nat, n = N := ⟨n.toNat, by have := hs.1; omega⟩
    have hN := hs.le
    have wn : IntKind.i64.wrap ((N : Int) - 1) = (N : Int) - 1 := wrap_i64 (by omega) (by omega)
    have hno : ¬ listB N xs 0 k = true → lcd1 N t xs k = 2 := fun hh => by
      have : listB N xs 0 k = false := by simpa using hh
      simp [lcd1, h1, this]
    simp only [absE, absL, absF, reduceCtorEq, ↓reduceIte, Nat.reduceEqDiff, Nat.reduceAdd, Nat.reduceLT, Nat.reduceMul, Nat.reduceSub, Nat.reduceLeDiff, Int.reduceLT, Int.reduceLE, Int.reduceEq, Option.isSome_some, implies_true, false_implies, Prod.mk.injEq, ne_eq, not_false_eq_true, not_true_eq_false, ge_iff_le, gt_iff_lt, Int.toNat_natCast, Int.reduceToNat, Int.cast_ofNat_Int, Int.natCast_nonneg]
    refine awpLoop.intro (fun i : Nat => [(1, .ref (.sl 0 0 0 0 k 1)), (2, .ref (.ptr 1 0 0 0)), (5, .i .i64 i)]) (fun i => ⟨[.lv true [(0, .ints .i64 k xs)]], [((1, 0), .lv true (sqS N t))], 7⟩)
      (fun i => i ≤ k ∧ ∀ j, j < i → okAt N xs 0 j) (fun i => k - i) 0 ⟨by omega, fun j hj => absurd hj (by omega)⟩ ⟨[((1,0),(1,0))], rfl, ?_, ?_⟩ ?_
    · simp [wkEnv, lk, renV, renAt, renTo]
    · simp [wkMem, wkLoc, Mem.get, assoc, renBlk, renSegs, renSg, renTo]
    · rintro i ⟨hi, hp⟩
      by_cases h : (i : Int) < k
      · have w := wrap_i64s (show i < 2 ^ 62 by omega)
        have v1 : 0 + i * 1 < k := by omega
        simp only [absE, absL, absF, reduceCtorEq, ↓reduceIte, Nat.reduceEqDiff, Nat.reduceAdd, Nat.reduceLT, Nat.reduceMul, Nat.reduceSub, Nat.reduceLeDiff, Int.reduceLT, Int.reduceLE, Int.reduceEq, Option.isSome_some, implies_true, false_implies, Prod.mk.injEq, ne_eq, not_false_eq_true, not_true_eq_false, ge_iff_le, gt_iff_lt, Int.toNat_natCast, Int.reduceToNat, Int.cast_ofNat_Int, Int.natCast_nonneg, h, v1, wn]
        refine CallsX.none (l01In_ok (xs.getD (0 + i * 1) 0) 0 ((N : Int) - 1)) ?_
        by_cases hw : 0 ≤ xs.getD (0 + i * 1) 0 ∧ xs.getD (0 + i * 1) 0 ≤ (N : Int) - 1
        · by_cases h0 : 0 < i
          · have g0 : (0 : Int) < i := by omega
            have wi : IntKind.i64.wrap ((i : Int) - 1) = ((i - 1 : Nat) : Int) := by rw [wrap_i64 (by omega) (by omega)]; omega
            have v2 : 0 + (i - 1) * 1 < k := by omega
            have z2 : (0 : Int) ≤ ((i - 1 : Nat) : Int) := by omega
            have l2 : ((i - 1 : Nat) : Int) < k := by omega
            by_cases hc : xs.getD (0 + i * 1) 0 ≤ xs.getD (0 + (i - 1) * 1) 0
            · simp only [absE, absL, absF, reduceCtorEq, ↓reduceIte, Nat.reduceEqDiff, Nat.reduceAdd, Nat.reduceLT, Nat.reduceMul, Nat.reduceSub, Nat.reduceLeDiff, Int.reduceLT, Int.reduceLE, Int.reduceEq, Option.isSome_some, implies_true, false_implies, Prod.mk.injEq, ne_eq, not_false_eq_true, not_true_eq_false, ge_iff_le, gt_iff_lt, Int.toNat_natCast, Int.reduceToNat, Int.cast_ofNat_Int, Int.natCast_nonneg, h, hw, g0, wi, v1, v2, z2, l2, hc, and_self, Try.results56]
              have hf := hno fun hu => by have := (listB_iff.1 hu i (by omega)).2 h0; omega
              exact ⟨[], by simp, by simp, by simp [renV, renBlk, renSegs, renSg, hf]⟩
            · simp only [absE, absL, absF, reduceCtorEq, ↓reduceIte, Nat.reduceEqDiff, Nat.reduceAdd, Nat.reduceLT, Nat.reduceMul, Nat.reduceSub, Nat.reduceLeDiff, Int.reduceLT, Int.reduceLE, Int.reduceEq, Option.isSome_some, implies_true, false_implies, Prod.mk.injEq, ne_eq, not_false_eq_true, not_true_eq_false, ge_iff_le, gt_iff_lt, Int.toNat_natCast, Int.reduceToNat, Int.cast_ofNat_Int, Int.natCast_nonneg, h, hw, g0, wi, v1, v2, z2, l2, hc, and_self]
              refine LoopNext.intro (i + 1) ⟨by omega, fun j hj => ?_⟩ (by omega) ⟨[((1,0),(1,0))], rfl, ?_, ?_⟩
              · by_cases ej : j = i
                · subst ej; exact ⟨hw, fun _ => by omega⟩
                · exact hp j (by omega)
              · simp [wkEnv, lk, renV, renAt, renTo, w]
              · simp [wkMem, wkLoc, Mem.get, assoc, renBlk, renSegs, renSg, renTo, w]
          · have g0 : ¬(0 : Int) < i := by omega
            simp only [absE, absL, absF, reduceCtorEq, ↓reduceIte, Nat.reduceEqDiff, Nat.reduceAdd, Nat.reduceLT, Nat.reduceMul, Nat.reduceSub, Nat.reduceLeDiff, Int.reduceLT, Int.reduceLE, Int.reduceEq, Option.isSome_some, implies_true, false_implies, Prod.mk.injEq, ne_eq, not_false_eq_true, not_true_eq_false, ge_iff_le, gt_iff_lt, Int.toNat_natCast, Int.reduceToNat, Int.cast_ofNat_Int, Int.natCast_nonneg, h, hw, g0, v1, and_self]
            refine LoopNext.intro (i + 1) ⟨by omega, fun j hj => ?_⟩ (by omega) ⟨[((1,0),(1,0))], rfl, ?_, ?_⟩
            · by_cases ej : j = i
              · subst ej; exact ⟨hw, fun hh => absurd hh h0⟩
              · exact hp j (by omega)
            · simp [wkEnv, lk, renV, renAt, renTo, w]
            · simp [wkMem, wkLoc, Mem.get, assoc, renBlk, renSegs, renSg, renTo, w]
        · simp only [absE, absL, absF, reduceCtorEq, ↓reduceIte, Nat.reduceEqDiff, Nat.reduceAdd, Nat.reduceLT, Nat.reduceMul, Nat.reduceSub, Nat.reduceLeDiff, Int.reduceLT, Int.reduceLE, Int.reduceEq, Option.isSome_some, implies_true, false_implies, Prod.mk.injEq, ne_eq, not_false_eq_true, not_true_eq_false, ge_iff_le, gt_iff_lt, Int.toNat_natCast, Int.reduceToNat, Int.cast_ofNat_Int, Int.natCast_nonneg, h, hw, Try.results56]
          have hf := hno fun hu => hw (listB_iff.1 hu i (by omega)).1
          exact ⟨[], by simp, by simp, by simp [renV, renBlk, renSegs, renSg, hf]⟩
      · simp only [absE, absL, absF, reduceCtorEq, ↓reduceIte, Nat.reduceEqDiff, Nat.reduceAdd, Nat.reduceLT, Nat.reduceMul, Nat.reduceSub, Nat.reduceLeDiff, Int.reduceLT, Int.reduceLE, Int.reduceEq, Option.isSome_some, implies_true, false_implies, Prod.mk.injEq, ne_eq, not_false_eq_true, not_true_eq_false, ge_iff_le, gt_iff_lt, Int.toNat_natCast, Int.reduceToNat, Int.cast_ofNat_Int, Int.natCast_nonneg, h, Try.results56]
        have hf : listB N xs 0 k = true := listB_true fun j hj => hp j (by omega)
        exact ⟨[], by simp, by simp, by simp [renV, renBlk, renSegs, renSg, lcd1, h1, hf]⟩
/-- the pairs of 0 and the elements of a list -/
def zp (xs : List Int) (k : Nat) : List (Nat × Nat) := (List.range k).map fun j => (0, el xs j)
theorem zp_len {xs : List Int} {k : Nat} : (zp xs k).length = k := by simp [zp]
theorem zp_succ {xs : List Int} {k : Nat} : zp xs (k + 1) = zp xs k ++ [(0, el xs k)] := by simp [zp, List.range_succ]
theorem zp_mem {xs : List Int} {k a b : Nat} : (a, b) ∈ zp xs k ↔ a = 0 ∧ inL xs k b := by
  simp only [zp, List.mem_map, List.mem_range, Prod.mk.injEq, inL]
  constructor
  · rintro ⟨j, hj, h1, h2⟩; exact ⟨h1.symm, j, hj, h2⟩
  · rintro ⟨h1, j, hj, h2⟩; exact ⟨j, hj, h1.symm, h2⟩
theorem clsL_first {e : Nat → Nat → Bool} {N : Nat} : ∀ {n}, 0 < n → at_ (clsL e N n) 0 = clsRow e 0 N ∧ 0 < (clsL e N n).length
  | 0, h => absurd h (by omega)
  | n + 1, _ => by
    have hl : clsL e N (n + 1) = if clsNew e n then clsL e N n ++ [clsRow e n N] else clsL e N n := rfl
    by_cases h0 : n = 0
    · subst h0
      have hn : clsNew e 0 = true := rfl
      rw [hl, hn]
      exact ⟨rfl, by simp⟩
    · have ih := clsL_first (e := e) (N := N) (n := n) (by omega)
      rw [hl]
      split
      · refine ⟨?_, by simp⟩
        rw [at_app, if_neg (by omega)]; exact ih.1
      · exact ih
theorem clsRow_memL {e : Nat → Nat → Bool} {x : Nat} : ∀ {n}, clsRow e x n = memL (e x) n
  | 0 => rfl
  | n + 1 => by unfold clsRow memL; rw [clsRow_memL]
theorem memL_congr {p q : Nat → Bool} : ∀ {n}, (∀ i, i < n → p i = q i) → memL p n = memL q n
  | 0, _ => rfl
  | n + 1, h => by unfold memL; rw [h n (by omega), memL_congr fun i hi => h i (by omega)]
theorem cls_ncl {N : Nat} {t xs : List Int} {k : Nat} (hs : SqP N t) (hu : UnitP N t 0) (hx : ∀ j, j < k → el xs j < N) : clsRow (eqC (clsR0 N (cl t) (zp xs k))) 0 N = memL (nclB N t (inL xs k)) N := by
  have hS : ∀ a, inL xs k a → a < N := fun a ⟨j, hj, e⟩ => e ▸ hx j hj
  have hc : LabOk N (cl t) (fun a b => a = 0 ∧ inL xs k b) (clsR0 N (cl t) (zp xs k)) :=
    clsR0_ok hs.le (fun a b ha hb => hs.cl_lt ha hb) (fun p hp => by
      have := zp_mem.1 (show (p.1, p.2) ∈ zp xs k from hp)
      exact ⟨by rw [this.1]; exact hs.pos, hS _ this.2⟩) fun a b => zp_mem.symm
  rw [clsRow_memL]
  refine memL_congr fun i hi => ?_
  rw [Bool.eq_iff_iff, nclB_iff, ncl_iff (lp_of hs hu) hS hc]
  unfold eqC
  rw [beq_iff_eq]
  exact hc.iff (fun a b h => ⟨by rw [h.1]; exact hs.pos, hS _ h.2⟩) (fun a b ha hb => hs.cl_lt ha hb) hs.pos hi
theorem l06Closure_ok (N : Nat) (t xs : List Int) (k : Nat) (ht : Bytes 100 t) (hs : SqP N t) (hu : UnitP N t 0) (hk : k ≤ 1000) (hx : ∀ j, j < k → xs.getD (0 + j * 1) 0 = ((el xs j : Nat) : Int) ∧ el xs j < N) :
    ACalls Try.prog 62 [.agg (sqS N t), .ref (.sl 0 0 0 0 k 1)] [.lv true [(0, .ints .i64 k xs)]] (fun v ms ns => v = .ref (.sl 1 0 0 0 (memL (nclB N t (inL xs k)) N).length 1) ∧ ms = [.lv true [(0, .ints .i64 k xs)]] ∧ ns = [ib (memL (nclB N t (inL xs k)) N)]) := by
  have hN := hs.le
  have htold := l06Told_ok N (clsR0 N (cl t) (zp xs k)) hN
  have hcls := l06Classes_ok N t (zp xs k) ht hs (fun p hp => by
    have := zp_mem.1 (show (p.1, p.2) ∈ zp xs k from hp)
    obtain ⟨j, hj, e⟩ := this.2
    exact ⟨by rw [this.1]; exact hs.pos, e ▸ (hx j hj).2⟩) (by rw [zp_len]; omega)
  obtain ⟨hf1, hf2⟩ := clsL_first (e := eqC (clsR0 N (cl t) (zp xs k))) (N := N) (n := N) hs.pos
  rw [cls_ncl hs hu fun j hj => (hx j hj).2] at hf1
  have hlm := memL_len (p := nclB N t (inL xs k)) (k := N)
  generalize memL (nclB N t (inL xs k)) N = R at hf1 hlm ⊢
  generalize clsL (eqC (clsR0 N (cl t) (zp xs k))) N N = LL at htold hf1 hf2
  refine acalls_of_body mix Try.func62 rfl fok62 (Nat.le_of_ble_eq_true rfl) ?_
  unfold abody
  simp only [absE, absL, absF, reduceCtorEq, ↓reduceIte, Nat.reduceEqDiff, Nat.reduceAdd, Nat.reduceLT, Nat.reduceMul, Nat.reduceSub, Nat.reduceLeDiff, Int.reduceLT, Int.reduceLE, Int.reduceEq, Option.isSome_some, implies_true, false_implies, Prod.mk.injEq, ne_eq, not_false_eq_true, not_true_eq_false, ge_iff_le, gt_iff_lt, Int.toNat_natCast, Int.reduceToNat, Int.cast_ofNat_Int, Int.natCast_nonneg, Try.f62]
  refine awpLoop.intro (fun i : Nat => [(1, .ref (.sl 0 0 0 0 k 1)), (2, .ref (.ptr 1 0 0 0)), (5, .ref (.sl 3 0 0 0 (zp xs i).length 2)), (6, .i .i64 i)]) (fun i => ⟨[.lv true [(0, .ints .i64 k xs)]], [((1, 0), .lv true (sqS N t)), ((3, 0), .lv true ([(0, .ints .i64 ((zp xs i).length * 2) (fp (zp xs i)))]))], 6⟩)
    (fun i => i ≤ k) (fun i => k - i) 0 (by omega) ⟨[((1,0),(1,0)), ((3,0),(3,0))], rfl, ?_, ?_⟩ ?_
  · simp [wkEnv, lk, renV, renAt, renTo, zp, fp, zeroArr]
  · simp [wkMem, wkLoc, Mem.get, assoc, renBlk, renSegs, renSg, renTo, zp, fp, zeroArr]
  · intro i hi
    by_cases h : (i : Int) < k
    · have w := wrap_i64s (show i < 2 ^ 62 by omega)
      have v1 : 0 + i * 1 < k := by omega
      obtain ⟨e1, _⟩ := hx i (by omega)
      have hzl := zp_len (xs := xs) (k := i)
      have hz := zp_succ (xs := xs) (k := i)
      have hf : fp (zp xs i ++ [(0, el xs i)]) = fp (zp xs i) ++ [(0 : Int), (el xs i : Int)] := by rw [fp_app]; rfl
      generalize zp xs i = Q at hzl hz hf ⊢
      simp only [absE, absL, absF, reduceCtorEq, ↓reduceIte, Nat.reduceEqDiff, Nat.reduceAdd, Nat.reduceLT, Nat.reduceMul, Nat.reduceSub, Nat.reduceLeDiff, Int.reduceLT, Int.reduceLE, Int.reduceEq, Option.isSome_some, implies_true, false_implies, Prod.mk.injEq, ne_eq, not_false_eq_true, not_true_eq_false, ge_iff_le, gt_iff_lt, Int.toNat_natCast, Int.reduceToNat, Int.cast_ofNat_Int, Int.natCast_nonneg, h, v1, e1]
      repeat first | refine And.intro (by decide +kernel) ?_ | refine And.intro (by omega) ?_
      refine LoopNext.intro (i + 1) (by omega) (by omega) ⟨[((1,0),(1,0)), ((17,0),(3,0))], rfl, ?_, ?_⟩
      · simp [wkEnv, lk, renV, renAt, renTo, w, hz]
      · simp [wkMem, wkLoc, Mem.get, assoc, renBlk, renSegs, renSg, renTo, hz, hf, Nat.add_mul]
    · have hik : i = k := by omega
      subst hik
      simp only [absE, absL, absF, reduceCtorEq, ↓reduceIte, Nat.reduceEqDiff, Nat.reduceAdd, Nat.reduceLT, Nat.reduceMul, Nat.reduceSub, Nat.reduceLeDiff, Int.reduceLT, Int.reduceLE, Int.reduceEq, Option.isSome_some, implies_true, false_implies, Prod.mk.injEq, ne_eq, not_false_eq_true, not_true_eq_false, ge_iff_le, gt_iff_lt, Int.toNat_natCast, Int.reduceToNat, Int.cast_ofNat_Int, Int.natCast_nonneg, h]
      repeat first | refine And.intro (by decide +kernel) ?_ | refine And.intro (by omega) ?_
      refine CallsX.args [(3, 0)] hcls (by simp) (by simp [Mem.get, assoc]) rfl rfl ?_
      simp only [absE, absL, absF, reduceCtorEq, ↓reduceIte, Nat.reduceEqDiff, Nat.reduceAdd, Nat.reduceLT, Nat.reduceMul, Nat.reduceSub, Nat.reduceLeDiff, Int.reduceLT, Int.reduceLE, Int.reduceEq, Option.isSome_some, implies_true, false_implies, Prod.mk.injEq, ne_eq, not_false_eq_true, not_true_eq_false, ge_iff_le, gt_iff_lt, Int.toNat_natCast, Int.reduceToNat, Int.cast_ofNat_Int, Int.natCast_nonneg]
      repeat first | refine And.intro (by decide +kernel) ?_ | refine And.intro (by omega) ?_
      refine CallsX.none htold ?_
      simp only [absE, absL, absF, reduceCtorEq, ↓reduceIte, Nat.reduceEqDiff, Nat.reduceAdd, Nat.reduceLT, Nat.reduceMul, Nat.reduceSub, Nat.reduceLeDiff, Int.reduceLT, Int.reduceLE, Int.reduceEq, Option.isSome_some, implies_true, false_implies, Prod.mk.injEq, ne_eq, not_false_eq_true, not_true_eq_false, ge_iff_le, gt_iff_lt, Int.toNat_natCast, Int.reduceToNat, Int.cast_ofNat_Int, Int.natCast_nonneg, newUps_inn, ob_out, Mem.upd_bagU]
      refine ⟨chk_before (by decide +kernel), ?_⟩
      have a0 : ∀ r, assoc (rbag 15 1 LL ++ r) 15 0 = assoc r 15 0 := fun r => assoc_rbag_lt (by decide)
      have l0 : (0 : Int) < LL.length := by omega
      have o0 : (outs 15 1 LL).getD 0 .top = .sl 15 (1 + 0) 0 0 (at_ LL 0).length 1 := outs_get hf2
      simp only [absE, absL, absF, reduceCtorEq, ↓reduceIte, Nat.reduceEqDiff, Nat.reduceAdd, Nat.reduceLT, Nat.reduceMul, Nat.reduceSub, Nat.reduceLeDiff, Int.reduceLT, Int.reduceLE, Int.reduceEq, Option.isSome_some, implies_true, false_implies, Prod.mk.injEq, ne_eq, not_false_eq_true, not_true_eq_false, ge_iff_le, gt_iff_lt, Int.toNat_natCast, Int.reduceToNat, Int.cast_ofNat_Int, Int.natCast_nonneg, a0, l0, ob, hf2, o0, hf1]
      repeat first | refine And.intro (chk_all (l := [6, 5, 4, 3, 2, 1, 0]) rfl (by decide +kernel)) ?_ | refine And.intro (chk_all (l := [5, 4, 3, 2, 1, 0]) rfl (by decide +kernel)) ?_ | refine And.intro (by omega) ?_ | refine And.intro hf2 ?_
      simp only [absE, absL, absF, reduceCtorEq, ↓reduceIte, Nat.reduceEqDiff, Nat.reduceAdd, Nat.reduceLT, Nat.reduceMul, Nat.reduceSub, Nat.reduceLeDiff, Int.reduceLT, Int.reduceLE, Int.reduceEq, Option.isSome_some, implies_true, false_implies, Prod.mk.injEq, ne_eq, not_false_eq_true, not_true_eq_false, ge_iff_le, gt_iff_lt, Int.toNat_natCast, Int.reduceToNat, Int.cast_ofNat_Int, Int.natCast_nonneg, Try.results62]
      refine ⟨[(15, 1)], by simp, by simp, by simp [renV, renAt, renFin, idx], by simp [renBlk, renSegs, renSg], ?_⟩
      have g1 : ∀ r, assoc (rbag 15 1 LL ++ r) 15 1 = ib (at_ LL 0) := fun r => assoc_rbag_in (a := 15) (k := 1) (i := 0) hf2
      simp [Mem.get, g1, hf1, renBlk_ib]

end Go.Proofs.Ytoccbgffekhcaaa
