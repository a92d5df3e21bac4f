/-
Contracts of functions of the given program, by the abstract walk.
-/
import Derived.Test.YtoccbgffekhcaaaAbsY
import Derived.Test.YtoccbgffekhcaaaNf
import Derived.Test.YtoccbgffekhcaaaDi
import Derived.Test.YtoccbgffekhcaaaJj
namespace Go.Proofs.Ytoccbgffekhcaaa
open Go Go.Abs
set_option linter.unusedVariables false
set_option linter.unusedSectionVars false
set_option linter.unusedSimpArgs false
set_option maxRecDepth 100000
/-! CongruenceOf -/
theorem chk_before {ops : List Oper} {j : Nat} {wr rd : List Abs.Id} : ∀ {h : Hist}, (h.all fun x => (x.2.1.isEmpty && x.2.2.isEmpty) || ordB ops x.1 j) = true → chk ops j wr rd h
  | [], _ => trivial
  | (i, wr', rd') :: r, hh => by
    simp only [List.all_cons, Bool.and_eq_true] at hh
    refine ⟨?_, chk_before hh.2⟩
    rcases (Bool.or_eq_true_iff.1 hh.1) with h1 | h1
    · simp only [Bool.and_eq_true, List.isEmpty_iff] at h1
      rw [h1.1, h1.2]; rfl
    · rw [h1, Bool.or_true]
def cgL (N : Nat) (t : List Int) (a b : Nat) : LLs := clsL (eqC (clsR0 N (cl t) [(a, b)])) N N
noncomputable def cgOk (n : Int) (t : List Int) (a b : Nat) : Bool := decide (ccode n t [(a : Int), (b : Int)] 2 = 0)
theorem eqC_same {N : Nat} {f : Nat → Nat → Nat} {S : Nat → Nat → Prop} {c d : Nat → Nat} (hS : ∀ a b, S a b → a < N ∧ b < N) (hf : ∀ a b, a < N → b < N → f a b < N) (hc : LabOk N f S c) (hd : LabOk N f S d) {i j : Nat} (hi : i < N) (hj : j < N) : eqC c i j = eqC d i j := by
  unfold eqC
  rw [Bool.eq_iff_iff, beq_iff_eq, beq_iff_eq, hc.iff hS hf hi hj, hd.iff hS hf hi hj]
theorem lab_cg {N : Nat} {t : List Int} (hs : SqP N t) {x y : Nat} (hx : x < N) (hy : y < N) {c : Nat → Nat} (hc : LabOk N (cl t) (S2 x y) c) (hm : ∀ i, c i ≤ i) : labL c N N = cgL N t x y := by
  rw [labL_eq (fun i _ => hm i) hc.idem (Nat.le_refl N)]
  refine clsL_congr (fun i j hi hj => ?_) (Nat.le_refl N)
  have hd : LabOk N (cl t) (S2 x y) (clsR0 N (cl t) [(x, y)]) := clsR0_ok hs.le (fun a b ha hb => hs.cl_lt ha hb) (fun p hp => by simp at hp; subst hp; exact ⟨hx, hy⟩) fun a b => by simp [S2]
  exact eqC_same (fun a b h => by rw [h.1, h.2]; exact ⟨hx, hy⟩) (fun a b ha hb => hs.cl_lt ha hb) hc hd hi hj
theorem implCg_yes (n : Int) (t : List Int) (a b : Nat) (ht : Bytes 100 t) (ha : a < 256) (hb : b < 256) (h : cgOk n t a b = true) :
    ACalls Try.prog 29 [.agg (sqS n t), .i .u8 a, .i .u8 b] [] (fun v ms ns => v = llV (cgL n.toNat t a b) ∧ ms = [] ∧ ns = llN (cgL n.toNat t a b)) := by
  have h : ccode n t [(a : Int), (b : Int)] 2 = 0 := of_decide_eq_true h
  obtain ⟨hs, hh⟩ := ccode_zero h
  obtain ⟨N, rfl⟩ : ∃ N : Nat, n = N := ⟨n.toNat, by have := hs.1; omega⟩
  rw [show (N : Int).toNat = N by omega]
  have hx2 : a < N := by have := hh 0 (by omega); simp at this; omega
  have hy2 : b < N := by have := hh 1 (by omega); simp at this; omega
  refine acalls_of_body mix Try.func29 rfl fok29 (Nat.le_of_ble_eq_true rfl) ?_
  unfold abody
  simp only [absE, absL, absF, reduceCtorEq, ↓reduceIte, Nat.reduceEqDiff, Nat.reduceAdd, Nat.reduceLT, Nat.reduceMul, Nat.reduceSub, Nat.reduceLeDiff, Int.reduceLT, Int.reduceLE, Int.reduceEq, Option.isSome_some, implies_true, false_implies, Prod.mk.injEq, ne_eq, not_false_eq_true, not_true_eq_false, ge_iff_le, gt_iff_lt, Int.toNat_natCast, Int.reduceToNat, Int.cast_ofNat_Int, Int.natCast_nonneg, Try.f29]
  refine CallsVia.args [(7, 0)] (checked_ok N t [(a : Int), (b : Int)] 2 ht (bytes_two ha hb) (by omega)) (by simp) (by simp [Mem.get, assoc]) rfl rfl ?_
  rintro _ _ _ ⟨rfl, rfl, rfl⟩
  simp only [absE, absL, absF, reduceCtorEq, ↓reduceIte, Nat.reduceEqDiff, Nat.reduceAdd, Nat.reduceLT, Nat.reduceMul, Nat.reduceSub, Nat.reduceLeDiff, Int.reduceLT, Int.reduceLE, Int.reduceEq, Option.isSome_some, implies_true, false_implies, Prod.mk.injEq, ne_eq, not_false_eq_true, not_true_eq_false, ge_iff_le, gt_iff_lt, Int.toNat_natCast, Int.reduceToNat, Int.cast_ofNat_Int, Int.natCast_nonneg, h]
  refine CallsVia.none (congruence_ok N t a b ht hs hx2 hy2) ?_
  rintro _ _ _ ⟨c, hc, hm, rfl, rfl, rfl⟩
  simp only [absE, absL, absF, reduceCtorEq, ↓reduceIte, Nat.reduceEqDiff, Nat.reduceAdd, Nat.reduceLT, Nat.reduceMul, Nat.reduceSub, Nat.reduceLeDiff, Int.reduceLT, Int.reduceLE, Int.reduceEq, Option.isSome_some, implies_true, false_implies, Prod.mk.injEq, ne_eq, not_false_eq_true, not_true_eq_false, ge_iff_le, gt_iff_lt, Int.toNat_natCast, Int.reduceToNat, Int.cast_ofNat_Int, Int.natCast_nonneg]
  have hlo := lists_ok N c hs.le
  rw [lab_cg hs hx2 hy2 hc hm] at hlo
  generalize cgL N t a b = LL at hlo ⊢
  refine CallsVia.args [(15, 0)] hlo (by simp) (by simp [Mem.get, assoc]) rfl rfl ?_
  rintro _ _ _ ⟨rfl, rfl, rfl⟩
  simp only [absE, absL, absF, reduceCtorEq, ↓reduceIte, Nat.reduceEqDiff, Nat.reduceAdd, Nat.reduceLT, Nat.reduceMul, Nat.reduceSub, Nat.reduceLeDiff, Int.reduceLT, Int.reduceLE, Int.reduceEq, Option.isSome_some, implies_true, false_implies, Prod.mk.injEq, ne_eq, not_false_eq_true, not_true_eq_false, ge_iff_le, gt_iff_lt, Int.toNat_natCast, Int.reduceToNat, Int.cast_ofNat_Int, Int.natCast_nonneg, newUps_inn, ob_out, Mem.upd_bagU, Try.results29]
  refine ⟨(16, 0) :: srcs 16 1 LL.length, row_nodup (.inr (by decide)), row_keep (by decide) (by decide), ?_, by simp, ?_⟩
  · simp [renV, renVs, renAt, renFin, idx, llV]
  · exact row_map' (p := (16, 0)) (B := 16) (k := 1) (LL := LL) (.inr (by decide)) (by decide) (show assoc (rbag 16 1 _ ++ _) 16 0 = _ by rw [assoc_rbag_lt (by decide)]; rfl) fun j hj => show assoc (rbag 16 1 _ ++ _) 16 (1 + j) = _ from assoc_rbag_in hj
theorem specCg_yes (n : Int) (t : List Int) (a b : Nat) (ht : Bytes 100 t) (ha : a < 256) (hb : b < 256) (h : cgOk n t a b = true) :
    ACalls Try.prog 28 [.agg (sqS n t), .i .u8 a, .i .u8 b] [] (fun v ms ns => v = llV (cgL n.toNat t a b) ∧ ms = [] ∧ ns = llN (cgL n.toNat t a b)) := by
  have h : ccode n t [(a : Int), (b : Int)] 2 = 0 := of_decide_eq_true h
  obtain ⟨hs, hh⟩ := ccode_zero h
  obtain ⟨N, rfl⟩ : ∃ N : Nat, n = N := ⟨n.toNat, by have := hs.1; omega⟩
  rw [show (N : Int).toNat = N by omega]
  have hx2 : a < N := by have := hh 0 (by omega); simp at this; omega
  have hy2 : b < N := by have := hh 1 (by omega); simp at this; omega
  have w1 := wrap_i64n (show a < 2 ^ 62 by omega)
  have w2 := wrap_i64n (show b < 2 ^ 62 by omega)
  have g1 : ¬ (N : Int) ≤ a := by omega
  have g2 : ¬ (N : Int) ≤ b := by omega
  have h1 := sqB_iff.2 hs
  have htold := l06Told_ok N (clsR0 N (cl t) [(a, b)]) hs.le
  change ACalls _ _ _ _ (fun v ms ns => v = .ref (.sl 1 0 0 0 (cgL N t a b).length 1) ∧ ms = [] ∧ ns = ob 1 1 (cgL N t a b) :: inn (cgL N t a b)) at htold
  refine acalls_of_body mix Try.func28 rfl fok28 (Nat.le_of_ble_eq_true rfl) ?_
  unfold abody
  simp only [absE, absL, absF, reduceCtorEq, ↓reduceIte, Nat.reduceEqDiff, Nat.reduceAdd, Nat.reduceLT, Nat.reduceMul, Nat.reduceSub, Nat.reduceLeDiff, Int.reduceLT, Int.reduceLE, Int.reduceEq, Option.isSome_some, implies_true, false_implies, Prod.mk.injEq, ne_eq, not_false_eq_true, not_true_eq_false, ge_iff_le, gt_iff_lt, Int.toNat_natCast, Int.reduceToNat, Int.cast_ofNat_Int, Int.natCast_nonneg, Try.f28]
  refine CallsVia.none (l01Is_ok N t ht) ?_
  rintro _ _ _ ⟨rfl, rfl, rfl⟩
  simp only [absE, absL, absF, reduceCtorEq, ↓reduceIte, Nat.reduceEqDiff, Nat.reduceAdd, Nat.reduceLT, Nat.reduceMul, Nat.reduceSub, Nat.reduceLeDiff, Int.reduceLT, Int.reduceLE, Int.reduceEq, Option.isSome_some, implies_true, false_implies, Prod.mk.injEq, ne_eq, not_false_eq_true, not_true_eq_false, ge_iff_le, gt_iff_lt, Int.toNat_natCast, Int.reduceToNat, Int.cast_ofNat_Int, Int.natCast_nonneg, h1, w1, w2, g1, g2]
  repeat refine And.intro (by decide +kernel) ?_
  refine CallsX.args [(27, 0)] (l06Classes_ok N t [(a, b)] ht hs (fun p hp => by simp at hp; subst hp; exact ⟨hx2, hy2⟩) (by simp)) (by simp) (by simp [Mem.get, assoc]) rfl rfl ?_
  simp only [absE, absL, absF, reduceCtorEq, ↓reduceIte, Nat.reduceEqDiff, Nat.reduceAdd, Nat.reduceLT, Nat.reduceMul, Nat.reduceSub, Nat.reduceLeDiff, Int.reduceLT, Int.reduceLE, Int.reduceEq, Option.isSome_some, implies_true, false_implies, Prod.mk.injEq, ne_eq, not_false_eq_true, not_true_eq_false, ge_iff_le, gt_iff_lt, Int.toNat_natCast, Int.reduceToNat, Int.cast_ofNat_Int, Int.natCast_nonneg]
  repeat refine And.intro (by decide +kernel) ?_
  generalize cgL N t a b = LL at htold ⊢
  refine CallsX.none htold ?_
  simp only [absE, absL, absF, reduceCtorEq, ↓reduceIte, Nat.reduceEqDiff, Nat.reduceAdd, Nat.reduceLT, Nat.reduceMul, Nat.reduceSub, Nat.reduceLeDiff, Int.reduceLT, Int.reduceLE, Int.reduceEq, Option.isSome_some, implies_true, false_implies, Prod.mk.injEq, ne_eq, not_false_eq_true, not_true_eq_false, ge_iff_le, gt_iff_lt, Int.toNat_natCast, Int.reduceToNat, Int.cast_ofNat_Int, Int.natCast_nonneg, newUps_inn, ob_out, Mem.upd_bagU]
  refine ⟨chk_before (by decide +kernel), ?_⟩
  simp only [absE, absL, absF, reduceCtorEq, ↓reduceIte, Nat.reduceEqDiff, Nat.reduceAdd, Nat.reduceLT, Nat.reduceMul, Nat.reduceSub, Nat.reduceLeDiff, Int.reduceLT, Int.reduceLE, Int.reduceEq, Option.isSome_some, implies_true, false_implies, Prod.mk.injEq, ne_eq, not_false_eq_true, not_true_eq_false, ge_iff_le, gt_iff_lt, Int.toNat_natCast, Int.reduceToNat, Int.cast_ofNat_Int, Int.natCast_nonneg, Try.results28]
  refine ⟨(31, 0) :: srcs 31 1 LL.length, row_nodup (.inr (by decide)), row_keep (by decide) (by decide), ?_, by simp, ?_⟩
  · simp [renV, renVs, renAt, renFin, idx, llV]
  · exact row_map' (p := (31, 0)) (B := 31) (k := 1) (LL := LL) (.inr (by decide)) (by decide) (show assoc (rbag 31 1 _ ++ _) 31 0 = _ by rw [assoc_rbag_lt (by decide)]; rfl) fun j hj => show assoc (rbag 31 1 _ ++ _) 31 (1 + j) = _ from assoc_rbag_in hj
theorem implCg_no (n : Int) (t : List Int) (a b : Nat) (ht : Bytes 100 t) (ha : a < 256) (hb : b < 256) (h : cgOk n t a b = false) :
    ACalls Try.prog 29 [.agg (sqS n t), .i .u8 a, .i .u8 b] [] (fun v ms ns => v = .tup [.ref .nils, .i .i64 (ccode n t [(a : Int), (b : Int)] 2)] ∧ ms = [] ∧ ns = []) := by
  have h : ¬ ccode n t [(a : Int), (b : Int)] 2 = 0 := of_decide_eq_false h
  refine acalls_of_body mix Try.func29 rfl fok29 (Nat.le_of_ble_eq_true rfl) ?_
  unfold abody
  simp only [absE, absL, absF, reduceCtorEq, ↓reduceIte, Nat.reduceEqDiff, Nat.reduceAdd, Nat.reduceLT, Nat.reduceMul, Nat.reduceSub, Nat.reduceLeDiff, Int.reduceLT, Int.reduceLE, Int.reduceEq, Option.isSome_some, implies_true, false_implies, Prod.mk.injEq, ne_eq, not_false_eq_true, not_true_eq_false, ge_iff_le, gt_iff_lt, Int.toNat_natCast, Int.reduceToNat, Int.cast_ofNat_Int, Int.natCast_nonneg, Try.f29]
  refine CallsVia.args [(7, 0)] (checked_ok n t [(a : Int), (b : Int)] 2 ht (bytes_two ha hb) (by omega)) (by simp) (by simp [Mem.get, assoc]) rfl rfl ?_
  rintro _ _ _ ⟨rfl, rfl, rfl⟩
  simp only [absE, absL, absF, reduceCtorEq, ↓reduceIte, Nat.reduceEqDiff, Nat.reduceAdd, Nat.reduceLT, Nat.reduceMul, Nat.reduceSub, Nat.reduceLeDiff, Int.reduceLT, Int.reduceLE, Int.reduceEq, Option.isSome_some, implies_true, false_implies, Prod.mk.injEq, ne_eq, not_false_eq_true, not_true_eq_false, ge_iff_le, gt_iff_lt, Int.toNat_natCast, Int.reduceToNat, Int.cast_ofNat_Int, Int.natCast_nonneg, h, Try.results29]
  exact ⟨[], by simp, by simp, by simp [renV, renVs, renAt]⟩
theorem specCg_no (n : Int) (t : List Int) (a b : Nat) (ht : Bytes 100 t) (ha : a < 256) (hb : b < 256) (h : cgOk n t a b = false) :
    ACalls Try.prog 28 [.agg (sqS n t), .i .u8 a, .i .u8 b] [] (fun v ms ns => v = .tup [.ref .nils, .i .i64 (ccode n t [(a : Int), (b : Int)] 2)] ∧ ms = [] ∧ ns = []) := by
  have h : ¬ ccode n t [(a : Int), (b : Int)] 2 = 0 := of_decide_eq_false h
  have w1 := wrap_i64n (show a < 2 ^ 62 by omega)
  have w2 := wrap_i64n (show b < 2 ^ 62 by omega)
  refine acalls_of_body mix Try.func28 rfl fok28 (Nat.le_of_ble_eq_true rfl) ?_
  unfold abody
  simp only [absE, absL, absF, reduceCtorEq, ↓reduceIte, Nat.reduceEqDiff, Nat.reduceAdd, Nat.reduceLT, Nat.reduceMul, Nat.reduceSub, Nat.reduceLeDiff, Int.reduceLT, Int.reduceLE, Int.reduceEq, Option.isSome_some, implies_true, false_implies, Prod.mk.injEq, ne_eq, not_false_eq_true, not_true_eq_false, ge_iff_le, gt_iff_lt, Int.toNat_natCast, Int.reduceToNat, Int.cast_ofNat_Int, Int.natCast_nonneg, Try.f28]
  refine CallsVia.none (l01Is_ok n t ht) ?_
  rintro _ _ _ ⟨rfl, rfl, rfl⟩
  cases h1 : sqB n t
  · have h : ccode n t [(a : Int), (b : Int)] 2 = 1 := by simp [ccode, h1]
    simp only [absE, absL, absF, reduceCtorEq, ↓reduceIte, Nat.reduceEqDiff, Nat.reduceAdd, Nat.reduceLT, Nat.reduceMul, Nat.reduceSub, Nat.reduceLeDiff, Int.reduceLT, Int.reduceLE, Int.reduceEq, Option.isSome_some, implies_true, false_implies, Prod.mk.injEq, ne_eq, not_false_eq_true, not_true_eq_false, ge_iff_le, gt_iff_lt, Int.toNat_natCast, Int.reduceToNat, Int.cast_ofNat_Int, Int.natCast_nonneg, Try.results28]
    exact ⟨[], by simp, by simp, by simp [renV, renVs, renAt, h]⟩
  · have hs := sqB_iff.1 h1
    obtain ⟨N, rfl⟩ : ∃ N : Nat, n = N := ⟨n.toNat, by have := hs.1; omega⟩
    by_cases hx2 : a < N
    · have g1 : ¬ (N : Int) ≤ a := by omega
      by_cases hy2 : b < N
      · exact absurd (show ccode N t [(a : Int), (b : Int)] 2 = 0 by simp [ccode, h1, hasB_two, hx2, hy2]) h
      · have g2 : (N : Int) ≤ b := by omega
        have h : ccode N t [(a : Int), (b : Int)] 2 = 2 := by simp [ccode, h1, hasB_two, hy2]
        simp only [absE, absL, absF, reduceCtorEq, ↓reduceIte, Nat.reduceEqDiff, Nat.reduceAdd, Nat.reduceLT, Nat.reduceMul, Nat.reduceSub, Nat.reduceLeDiff, Int.reduceLT, Int.reduceLE, Int.reduceEq, Option.isSome_some, implies_true, false_implies, Prod.mk.injEq, ne_eq, not_false_eq_true, not_true_eq_false, ge_iff_le, gt_iff_lt, Int.toNat_natCast, Int.reduceToNat, Int.cast_ofNat_Int, Int.natCast_nonneg, w1, w2, g1, g2, Try.results28]
        exact ⟨[], by simp, by simp, by simp [renV, renVs, renAt, h]⟩
    · have g1 : (N : Int) ≤ a := by omega
      have h : ccode N t [(a : Int), (b : Int)] 2 = 2 := by simp [ccode, h1, hasB_two, hx2]
      simp only [absE, absL, absF, reduceCtorEq, ↓reduceIte, Nat.reduceEqDiff, Nat.reduceAdd, Nat.reduceLT, Nat.reduceMul, Nat.reduceSub, Nat.reduceLeDiff, Int.reduceLT, Int.reduceLE, Int.reduceEq, Option.isSome_some, implies_true, false_implies, Prod.mk.injEq, ne_eq, not_false_eq_true, not_true_eq_false, ge_iff_le, gt_iff_lt, Int.toNat_natCast, Int.reduceToNat, Int.cast_ofNat_Int, Int.natCast_nonneg, w1, w2, g1, Try.results28]
      exact ⟨[], by simp, by simp, by simp [renV, renVs, renAt, h]⟩
theorem clsL_row {e : Nat → Nat → Bool} {N : Nat} : ∀ {x i}, i < (clsL e N x).length → (at_ (clsL e N x) i).length ≤ N
  | 0, i, h => absurd h (by simp [clsL])
  | x + 1, i, h => by
    have hl : clsL e N (x + 1) = if clsNew e x then clsL e N x ++ [clsRow e x N] else clsL e N x := rfl
    rw [hl] at h ⊢
    split at h
    · rename_i hn
      rw [if_pos hn, at_app]
      split
      · exact clsRow_len
      · refine clsL_row ?_
        rw [List.length_append, List.length_singleton] at h; omega
    · rename_i hn
      rw [if_neg hn]; exact clsL_row h
theorem cg_fits {n : Int} {t : List Int} {a b : Nat} (h : cgOk n t a b = true) : FitsL (cgL n.toNat t a b) := by
  have h : ccode n t [(a : Int), (b : Int)] 2 = 0 := of_decide_eq_true h
  obtain ⟨hs, hh⟩ := ccode_zero h
  have hN : n.toNat ≤ 10 := by have := hs.2.1; omega
  refine ⟨?_, fun i hi => ?_⟩
  · have := clsL_len (e := eqC (clsR0 n.toNat (cl t) [(a, b)])) (N := n.toNat) (x := n.toNat)
    unfold cgL; omega
  · have := clsL_row hi
    unfold cgL; omega

end Go.Proofs.Ytoccbgffekhcaaa
