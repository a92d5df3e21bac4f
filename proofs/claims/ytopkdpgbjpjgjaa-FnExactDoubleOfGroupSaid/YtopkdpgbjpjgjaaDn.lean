/-
Contracts of functions of the given program, by the abstract walk.
-/
import Derived.Test.YtopkdpgbjpjgjaaAbsW
import Derived.Test.YtopkdpgbjpjgjaaDh
import Derived.Test.YtopkdpgbjpjgjaaDm
import Derived.Test.YtopkdpgbjpjgjaaDi
namespace Go.Proofs.Ytopkdpgbjpjgjaa
open Go Go.Abs
set_option linter.unusedVariables false
set_option linter.unusedSectionVars false
set_option linter.unusedSimpArgs false
set_option maxRecDepth 100000
def invN (N : Nat) (t : List Int) (b : Nat) : Nat := fnd (fun i => cl t i b) 0 N
def doubG (N : Nat) (t : List Int) (x y : Nat) : Nat :=
  if x < N then (if y < N then cl t x y else N + cl t (y - N) x) else if y < N then N + cl t (x - N) (invN N t y) else cl t (invN N t (y - N)) (x - N)
theorem invN_lt {N : Nat} {t : List Int} (hs : SqP N t) {b : Nat} (hb : b < N) : invN N t b < N := PermF.fnd_lt (hs.colP hb) hs.le hs.pos
theorem doubG_lt {N : Nat} {t : List Int} (hs : SqP N t) {x y : Nat} (hx : x < 2 * N) (hy : y < 2 * N) : doubG N t x y < 2 * N := by
  unfold doubG
  split
  · split
    · have := hs.cl_lt (show x < N by omega) (show y < N by omega); omega
    · have := hs.cl_lt (show y - N < N by omega) (show x < N by omega); omega
  · split
    · have := hs.cl_lt (show x - N < N by omega) (invN_lt hs (show y < N by omega)); omega
    · have := hs.cl_lt (invN_lt hs (show y - N < N by omega)) (show x - N < N by omega); omega
theorem mod_two {x N : Nat} (h : x < 2 * N) : x % N = if x < N then x else x - N := by
  split
  · exact Nat.mod_eq_of_lt (by assumption)
  · rw [Nat.mod_eq_sub_mod (by omega), Nat.mod_eq_of_lt (by omega)]
theorem double1_ok (N : Nat) (t : List Int) (x y : Nat) (ht : Bytes 100 t) (hs : SqP N t) (h5 : N ≤ 5) (hx : x < 2 * N) (hy : y < 2 * N) :
    ACalls Try.prog 94 [.i .u8 x, .i .u8 y, .ref (.ptr 0 0 0 0), .ref (.ptr 0 1 0 0)] [.lv true [(0, .ints .u8 1 [(N : Int)])], .lv true (sqS N t)] (fun v ms ns => v = .i .u8 (doubG N t x y) ∧ ms = [.lv true [(0, .ints .u8 1 [(N : Int)])], .lv true (sqS N t)] ∧ ns = []) := by
  have hp := hs.pos
  have hm1 : Int.tmod (x : Int) N = ((if x < N then x else x - N : Nat) : Int) := by
    rw [← mod_two hx]
    rfl
  have hm2 : Int.tmod (y : Int) N = ((if y < N then y else y - N : Nat) : Int) := by
    rw [← mod_two hy]
    rfl
  have n0 : ¬ (N : Int) = 0 := by omega
  refine acalls_of_body mix Try.func94 rfl fok94 (Nat.le_of_ble_eq_true rfl) ?_
  unfold abody
  by_cases h1 : x < N
  · have g1 : (x : Int) < N := by omega
    have i1 : (x : Int) < 10 := by omega
    rw [if_pos h1] at hm1
    by_cases h2 : y < N
    · have g2 : (y : Int) < N := by omega
      have i2 : (y : Int) < 10 := by omega
      have u1 : 0 + x * 10 + y * 1 < 100 := by omega
      have k1 := sq_colget ht x y
      rw [if_pos h2] at hm2
      simp only [absE, absL, absF, reduceCtorEq, ↓reduceIte, Nat.reduceEqDiff, Nat.reduceAdd, Nat.reduceLT, Nat.reduceMul, Nat.reduceSub, Nat.reduceLeDiff, Int.reduceLT, Int.reduceLE, Int.reduceEq, Option.isSome_some, implies_true, false_implies, Prod.mk.injEq, ne_eq, not_false_eq_true, not_true_eq_false, ge_iff_le, gt_iff_lt, Int.toNat_natCast, Int.reduceToNat, Int.cast_ofNat_Int, Int.natCast_nonneg, hm1, hm2, n0, g1, g2, i1, i2, u1, k1, Try.f94, Try.results94]
      exact ⟨[], by simp, by simp, by simp [renV, renVs, renSegs, renSg, renBlk, doubG, h1, h2]⟩
    · have g2 : ¬ (y : Int) < N := by omega
      have i2 : ((y - N : Nat) : Int) < 10 := by omega
      have u1 : 0 + (y - N) * 10 + x * 1 < 100 := by omega
      have k1 := sq_colget ht (y - N) x
      have j1 := hs.cl_lt (show y - N < N by omega) h1
      have w1 : IntKind.u8.wrap ((N : Int) + cl t (y - N) x) = ((N + cl t (y - N) x : Nat) : Int) := by rw [← Int.natCast_add]; exact wrap_u8n (by omega)
      rw [if_neg h2] at hm2
      simp only [absE, absL, absF, reduceCtorEq, ↓reduceIte, Nat.reduceEqDiff, Nat.reduceAdd, Nat.reduceLT, Nat.reduceMul, Nat.reduceSub, Nat.reduceLeDiff, Int.reduceLT, Int.reduceLE, Int.reduceEq, Option.isSome_some, implies_true, false_implies, Prod.mk.injEq, ne_eq, not_false_eq_true, not_true_eq_false, ge_iff_le, gt_iff_lt, Int.toNat_natCast, Int.reduceToNat, Int.cast_ofNat_Int, Int.natCast_nonneg, hm1, hm2, n0, g1, g2, i1, i2, u1, k1, w1, Try.f94, Try.results94]
      exact ⟨[], by simp, by simp, by simp [renV, renVs, renSegs, renSg, renBlk, doubG, h1, h2]⟩
  · have g1 : ¬ (x : Int) < N := by omega
    have i1 : ((x - N : Nat) : Int) < 10 := by omega
    rw [if_neg h1] at hm1
    by_cases h2 : y < N
    · have g2 : (y : Int) < N := by omega
      have j0 := invN_lt hs h2
      have i2 : (invN N t y : Int) < 10 := by omega
      have u1 : 0 + (x - N) * 10 + invN N t y * 1 < 100 := by omega
      have k1 := sq_colget ht (x - N) (invN N t y)
      have j1 := hs.cl_lt (show x - N < N by omega) j0
      have w1 : IntKind.u8.wrap ((N : Int) + cl t (x - N) (invN N t y)) = ((N + cl t (x - N) (invN N t y) : Nat) : Int) := by rw [← Int.natCast_add]; exact wrap_u8n (by omega)
      rw [if_pos h2] at hm2
      simp only [absE, absL, absF, reduceCtorEq, ↓reduceIte, Nat.reduceEqDiff, Nat.reduceAdd, Nat.reduceLT, Nat.reduceMul, Nat.reduceSub, Nat.reduceLeDiff, Int.reduceLT, Int.reduceLE, Int.reduceEq, Option.isSome_some, implies_true, false_implies, Prod.mk.injEq, ne_eq, not_false_eq_true, not_true_eq_false, ge_iff_le, gt_iff_lt, Int.toNat_natCast, Int.reduceToNat, Int.cast_ofNat_Int, Int.natCast_nonneg, hm1, hm2, n0, g1, g2, Try.f94]
      refine CallsX.none (show ACalls Try.prog 95 [.agg (sqS N t), .i .u8 0, .i .u8 y] [] _ from implRight_ok N t 0 y ht hs (by omega) h2) ?_
      have e : fnd (fun i => cl t i y) 0 N = invN N t y := rfl
      simp only [absE, absL, absF, reduceCtorEq, ↓reduceIte, Nat.reduceEqDiff, Nat.reduceAdd, Nat.reduceLT, Nat.reduceMul, Nat.reduceSub, Nat.reduceLeDiff, Int.reduceLT, Int.reduceLE, Int.reduceEq, Option.isSome_some, implies_true, false_implies, Prod.mk.injEq, ne_eq, not_false_eq_true, not_true_eq_false, ge_iff_le, gt_iff_lt, Int.toNat_natCast, Int.reduceToNat, Int.cast_ofNat_Int, Int.natCast_nonneg, e, i1, i2, u1, k1, w1, Try.results94]
      exact ⟨[], by simp, by simp, by simp [renV, renVs, renSegs, renSg, renBlk, doubG, h1, h2]⟩
    · have g2 : ¬ (y : Int) < N := by omega
      have j0 := invN_lt hs (show y - N < N by omega)
      have i2 : (invN N t (y - N) : Int) < 10 := by omega
      have u1 : 0 + invN N t (y - N) * 10 + (x - N) * 1 < 100 := by omega
      have k1 := sq_colget ht (invN N t (y - N)) (x - N)
      have j1 := hs.cl_lt j0 (show x - N < N by omega)
      rw [if_neg h2] at hm2
      simp only [absE, absL, absF, reduceCtorEq, ↓reduceIte, Nat.reduceEqDiff, Nat.reduceAdd, Nat.reduceLT, Nat.reduceMul, Nat.reduceSub, Nat.reduceLeDiff, Int.reduceLT, Int.reduceLE, Int.reduceEq, Option.isSome_some, implies_true, false_implies, Prod.mk.injEq, ne_eq, not_false_eq_true, not_true_eq_false, ge_iff_le, gt_iff_lt, Int.toNat_natCast, Int.reduceToNat, Int.cast_ofNat_Int, Int.natCast_nonneg, hm1, hm2, n0, g1, g2, Try.f94]
      refine CallsVia.none (implRight_ok N t 0 (y - N) ht hs (by omega) (by omega)) ?_
      rintro _ _ _ ⟨rfl, rfl, rfl⟩
      have e : fnd (fun i => cl t i (y - N)) 0 N = invN N t (y - N) := rfl
      simp only [absE, absL, absF, reduceCtorEq, ↓reduceIte, Nat.reduceEqDiff, Nat.reduceAdd, Nat.reduceLT, Nat.reduceMul, Nat.reduceSub, Nat.reduceLeDiff, Int.reduceLT, Int.reduceLE, Int.reduceEq, Option.isSome_some, implies_true, false_implies, Prod.mk.injEq, ne_eq, not_false_eq_true, not_true_eq_false, ge_iff_le, gt_iff_lt, Int.toNat_natCast, Int.reduceToNat, Int.cast_ofNat_Int, Int.natCast_nonneg, e, i1, i2, u1, k1, Try.results94]
      exact ⟨[], by simp, by simp, by simp [renV, renVs, renSegs, renSg, renBlk, doubG, h1, h2]⟩
noncomputable def dcode (n : Int) (t : List Int) : Int := if gcode n t = 0 then (if n > 5 then 3 else 0) else gcode n t
noncomputable def doubAV (n : Int) (t : List Int) : AV := resSq (dcode n t) (2 * n) (mkT (doubG n.toNat t) (2 * n.toNat) (2 * n.toNat))
theorem doub_form (n : Int) (t : List Int) (ht : Bytes 100 t) : ∃ k s e, s.length = 100 ∧ doubAV n t = .tup [.agg (sqS k s), .i .i64 e] := resSq_form _ _ mkT_len
theorem implDouble_ok (n : Int) (t : List Int) (ht : Bytes 100 t) :
    ACalls Try.prog 47 [.agg (sqS n t)] [] (fun v ms ns => v = doubAV n t ∧ ms = [] ∧ ns = []) := by
  unfold doubAV
  refine acalls_of_body mix Try.func47 rfl fok47 (Nat.le_of_ble_eq_true rfl) ?_
  unfold abody
  simp only [absE, absL, absF, reduceCtorEq, ↓reduceIte, Nat.reduceEqDiff, Nat.reduceAdd, Nat.reduceLT, Nat.reduceMul, Nat.reduceSub, Nat.reduceLeDiff, Int.reduceLT, Int.reduceLE, Int.reduceEq, Option.isSome_some, implies_true, false_implies, Prod.mk.injEq, ne_eq, not_false_eq_true, not_true_eq_false, ge_iff_le, gt_iff_lt, Int.toNat_natCast, Int.reduceToNat, Int.cast_ofNat_Int, Int.natCast_nonneg, Try.f47]
  refine CallsVia.none (groupCodeOf_ok n t ht) ?_
  rintro _ _ _ ⟨rfl, rfl, rfl⟩
  by_cases h : gcode n t = 0
  · obtain ⟨hs, _, _⟩ := gcode_zero h
    obtain ⟨N, rfl⟩ : ∃ N : Nat, n = N := ⟨n.toNat, by have := hs.1; omega⟩
    by_cases h5 : 5 < (N : Int)
    · have hd : dcode N t = 3 := by simp only [dcode, h, if_true, gt_iff_lt, h5]
      simp only [absE, absL, absF, reduceCtorEq, ↓reduceIte, Nat.reduceEqDiff, Nat.reduceAdd, Nat.reduceLT, Nat.reduceMul, Nat.reduceSub, Nat.reduceLeDiff, Int.reduceLT, Int.reduceLE, Int.reduceEq, Option.isSome_some, implies_true, false_implies, Prod.mk.injEq, ne_eq, not_false_eq_true, not_true_eq_false, ge_iff_le, gt_iff_lt, Int.toNat_natCast, Int.reduceToNat, Int.cast_ofNat_Int, Int.natCast_nonneg, h, h5, Try.results47]
      exact ⟨[], by simp, by simp, by simp [renV, renVs, renSegs, renSg, resSq, hd]⟩
    · have hd : dcode N t = 0 := by simp only [dcode, h, if_true, gt_iff_lt, h5, if_false]
      have w1 : IntKind.i64.wrap (2 * (N : Int)) = ((2 * N : Nat) : Int) := by rw [wrap_i64 (by omega) (by omega)]; omega
      have w2 := wrap_u8n (show N < 256 by omega)
      simp only [absE, absL, absF, reduceCtorEq, ↓reduceIte, Nat.reduceEqDiff, Nat.reduceAdd, Nat.reduceLT, Nat.reduceMul, Nat.reduceSub, Nat.reduceLeDiff, Int.reduceLT, Int.reduceLE, Int.reduceEq, Option.isSome_some, implies_true, false_implies, Prod.mk.injEq, ne_eq, not_false_eq_true, not_true_eq_false, ge_iff_le, gt_iff_lt, Int.toNat_natCast, Int.reduceToNat, Int.cast_ofNat_Int, Int.natCast_nonneg, h, h5, w1, w2]
      refine CallsVia.args [(15, 0), (1, 0)] (made2_ok (2 * N) (by omega) 94 (doubG N t) [(0, .ints .u8 1 [(N : Int)])] (sqS N t) (fun ρ => by simp [renSegs, renSg]) (fun ρ => by simp [renSegs, renSg]) (fun x y hx hy => double1_ok N t x y ht hs (by omega) hx hy)) (by simp) (by simp [Mem.get, assoc]) rfl rfl ?_
      rintro _ _ _ ⟨rfl, rfl, rfl⟩
      simp only [absE, absL, absF, reduceCtorEq, ↓reduceIte, Nat.reduceEqDiff, Nat.reduceAdd, Nat.reduceLT, Nat.reduceMul, Nat.reduceSub, Nat.reduceLeDiff, Int.reduceLT, Int.reduceLE, Int.reduceEq, Option.isSome_some, implies_true, false_implies, Prod.mk.injEq, ne_eq, not_false_eq_true, not_true_eq_false, ge_iff_le, gt_iff_lt, Int.toNat_natCast, Int.reduceToNat, Int.cast_ofNat_Int, Int.natCast_nonneg, Try.results47]
      exact ⟨[], by simp, by simp, by simp [renV, renVs, renSegs, renSg, resSq0 hd]⟩
  · have hd : dcode n t = gcode n t := by simp only [dcode, h, if_false]
    have hd' : ¬dcode n t = 0 := by rw [hd]; exact h
    simp only [absE, absL, absF, reduceCtorEq, ↓reduceIte, Nat.reduceEqDiff, Nat.reduceAdd, Nat.reduceLT, Nat.reduceMul, Nat.reduceSub, Nat.reduceLeDiff, Int.reduceLT, Int.reduceLE, Int.reduceEq, Option.isSome_some, implies_true, false_implies, Prod.mk.injEq, ne_eq, not_false_eq_true, not_true_eq_false, ge_iff_le, gt_iff_lt, Int.toNat_natCast, Int.reduceToNat, Int.cast_ofNat_Int, Int.natCast_nonneg, h, Try.results47]
    exact ⟨[], by simp, by simp, by simp [renV, renVs, renSegs, renSg, resSq, hd, h]⟩
theorem l08Inverse_ok (N : Nat) (t : List Int) (b : Nat) (ht : Bytes 100 t) (hs : SqP N t) (hb : b < N) :
    ACalls Try.prog 91 [.agg (sqS N t), .i .u8 b] [] (fun v ms ns => v = .i .u8 (invN N t b) ∧ ms = [] ∧ ns = []) := by
  refine acalls_of_body mix Try.func91 rfl fok91 (Nat.le_of_ble_eq_true rfl) ?_
  unfold abody
  simp only [absE, absL, absF, reduceCtorEq, ↓reduceIte, Nat.reduceEqDiff, Nat.reduceAdd, Nat.reduceLT, Nat.reduceMul, Nat.reduceSub, Nat.reduceLeDiff, Int.reduceLT, Int.reduceLE, Int.reduceEq, Option.isSome_some, implies_true, false_implies, Prod.mk.injEq, ne_eq, not_false_eq_true, not_true_eq_false, ge_iff_le, gt_iff_lt, Int.toNat_natCast, Int.reduceToNat, Int.cast_ofNat_Int, Int.natCast_nonneg, Try.f91]
  refine CallsVia.none (specRight_ok N t 0 b ht hs hs.pos hb) ?_
  rintro _ _ _ ⟨rfl, rfl, rfl⟩
  simp only [absE, absL, absF, reduceCtorEq, ↓reduceIte, Nat.reduceEqDiff, Nat.reduceAdd, Nat.reduceLT, Nat.reduceMul, Nat.reduceSub, Nat.reduceLeDiff, Int.reduceLT, Int.reduceLE, Int.reduceEq, Option.isSome_some, implies_true, false_implies, Prod.mk.injEq, ne_eq, not_false_eq_true, not_true_eq_false, ge_iff_le, gt_iff_lt, Int.toNat_natCast, Int.reduceToNat, Int.cast_ofNat_Int, Int.natCast_nonneg, Try.results91]
  exact ⟨[], by simp, by simp, by simp [renV, renVs, renSegs, renSg, invN]⟩
/-- Below x in one of the two halves. -/
def half (N a x : Nat) : Prop := a < x ∨ (N ≤ a ∧ a < N + x)
instance (N a x : Nat) : Decidable (half N a x) := by unfold half; infer_instance
def DoubAt (N : Nat) (t : List Int) (x y : Nat) (T : List Int) : Prop := T.length = 100 ∧ ∀ a b, a < 10 → b < 10 →
  T.getD (a * 10 + b) 0 = if (half N a x ∧ b < 2 * N) ∨ ((a = x ∨ a = N + x) ∧ half N b y) then (doubG N t a b : Int) else 0
theorem DoubAt.next {N : Nat} {t T : List Int} {x y : Nat} (hx : x < N) (hy : y < N) (h5 : N ≤ 5) (h : DoubAt N t x y T) :
    DoubAt N t x (y + 1) ((((T.set (0 + x * 10 + y * 1) (doubG N t x y)).set (0 + x * 10 + (N + y) * 1) (doubG N t x (N + y))).set (0 + (N + x) * 10 + y * 1) (doubG N t (N + x) y)).set (0 + (N + x) * 10 + (N + y) * 1) (doubG N t (N + x) (N + y))) := by
  obtain ⟨hl, hp⟩ := h
  refine ⟨by simp [hl], fun a b ha hb => ?_⟩
  rw [getD_set_int (by simp only [List.length_set, hl]; omega), getD_set_int (by simp only [List.length_set, hl]; omega), getD_set_int (by simp only [List.length_set, hl]; omega), getD_set_int (by rw [hl]; omega), hp a b ha hb]
  by_cases c4 : 0 + (N + x) * 10 + (N + y) * 1 = a * 10 + b
  · have e1 : a = N + x := by omega
    have e2 : b = N + y := by omega
    subst e1; subst e2
    rw [if_pos c4, if_pos (by unfold half; omega)]
  · rw [if_neg c4]
    by_cases c3 : 0 + (N + x) * 10 + y * 1 = a * 10 + b
    · have e1 : a = N + x := by omega
      have e2 : b = y := by omega
      subst e1; subst e2
      rw [if_pos c3, if_pos (by unfold half; omega)]
    · rw [if_neg c3]
      by_cases c2 : 0 + x * 10 + (N + y) * 1 = a * 10 + b
      · have e1 : a = x := by omega
        have e2 : b = N + y := by omega
        subst e1; subst e2
        rw [if_pos c2, if_pos (by unfold half; omega)]
      · rw [if_neg c2]
        by_cases c1 : 0 + x * 10 + y * 1 = a * 10 + b
        · have e1 : a = x := by omega
          have e2 : b = y := by omega
          subst e1; subst e2
          rw [if_pos c1, if_pos (by unfold half; omega)]
        · rw [if_neg c1]
          by_cases c : (half N a x ∧ b < 2 * N) ∨ ((a = x ∨ a = N + x) ∧ half N b y)
          · rw [if_pos c, if_pos (by unfold half at c ⊢; omega)]
          · rw [if_neg c, if_neg (by unfold half at c ⊢; omega)]
theorem DoubAt.row {N : Nat} {t T : List Int} {x : Nat} (hx : x < N) (h : DoubAt N t x N T) : DoubAt N t (x + 1) 0 T := by
  refine ⟨h.1, fun a b ha hb => ?_⟩
  rw [h.2 a b ha hb]
  by_cases c : (half N a x ∧ b < 2 * N) ∨ ((a = x ∨ a = N + x) ∧ half N b N)
  · rw [if_pos c, if_pos (by unfold half at c ⊢; omega)]
  · rw [if_neg c, if_neg (by unfold half at c ⊢; omega)]
theorem DoubAt.zero {N : Nat} {t : List Int} : DoubAt N t 0 0 (List.replicate 100 0) :=
  ⟨by simp, fun a b ha hb => by rw [getD_rep0, if_neg (by unfold half; omega)]⟩
theorem DoubAt.all {N : Nat} {t T : List Int} (h5 : N ≤ 5) (h : DoubAt N t N 0 T) : T = mkT (doubG N t) (2 * N) (2 * N) :=
  table_ext h.1 mkT_len fun a b ha hb => by
    rw [h.2 a b ha hb, mkT_get (by omega) hb (by omega)]
    by_cases c : a < 2 * N ∧ b < 2 * N
    · rw [if_pos c, if_pos (by unfold half; omega)]
    · rw [if_neg c, if_neg (by unfold half; omega)]
theorem doubG_1 {N : Nat} {t : List Int} {x y : Nat} (hx : x < N) (hy : y < N) : doubG N t x y = cl t x y := by unfold doubG; rw [if_pos hx, if_pos hy]
theorem doubG_2 {N : Nat} {t : List Int} {x y : Nat} (hx : x < N) (hy : y < N) : doubG N t x (N + y) = N + cl t y x := by unfold doubG; rw [if_pos hx, if_neg (by omega), Nat.add_sub_cancel_left]
theorem doubG_3 {N : Nat} {t : List Int} {x y : Nat} (hx : x < N) (hy : y < N) : doubG N t (N + x) y = N + cl t x (invN N t y) := by unfold doubG; rw [if_neg (by omega), if_pos hy, Nat.add_sub_cancel_left]
theorem doubG_4 {N : Nat} {t : List Int} {x y : Nat} (hx : x < N) (hy : y < N) : doubG N t (N + x) (N + y) = cl t (invN N t y) x := by unfold doubG; rw [if_neg (by omega), if_neg (by omega), Nat.add_sub_cancel_left, Nat.add_sub_cancel_left]
theorem specDouble_ok (n : Int) (t : List Int) (ht : Bytes 100 t) :
    ACalls Try.prog 46 [.agg (sqS n t)] [] (fun v ms ns => v = doubAV n t ∧ ms = [] ∧ ns = []) := by
  unfold doubAV
  refine acalls_of_body mix Try.func46 rfl fok46 (Nat.le_of_ble_eq_true rfl) ?_
  unfold abody
  simp only [absE, absL, absF, reduceCtorEq, ↓reduceIte, Nat.reduceEqDiff, Nat.reduceAdd, Nat.reduceLT, Nat.reduceMul, Nat.reduceSub, Nat.reduceLeDiff, Int.reduceLT, Int.reduceLE, Int.reduceEq, Option.isSome_some, implies_true, false_implies, Prod.mk.injEq, ne_eq, not_false_eq_true, not_true_eq_false, ge_iff_le, gt_iff_lt, Int.toNat_natCast, Int.reduceToNat, Int.cast_ofNat_Int, Int.natCast_nonneg, Try.f46]
  refine CallsVia.none (l01Is_ok n t ht) ?_
  rintro _ _ _ ⟨rfl, rfl, rfl⟩
  cases h1 : sqB n t
  · have hd : dcode n t = 1 := by simp [dcode, gcode, h1]
    simp only [absE, absL, absF, reduceCtorEq, ↓reduceIte, Nat.reduceEqDiff, Nat.reduceAdd, Nat.reduceLT, Nat.reduceMul, Nat.reduceSub, Nat.reduceLeDiff, Int.reduceLT, Int.reduceLE, Int.reduceEq, Option.isSome_some, implies_true, false_implies, Prod.mk.injEq, ne_eq, not_false_eq_true, not_true_eq_false, ge_iff_le, gt_iff_lt, Int.toNat_natCast, Int.reduceToNat, Int.cast_ofNat_Int, Int.natCast_nonneg, Try.results46]
    exact ⟨[], by simp, by simp, by simp [renV, renVs, renSegs, renSg, resSq, hd]⟩
  · have hs := sqB_iff.1 h1
    obtain ⟨N, rfl⟩ : ∃ N : Nat, n = N := ⟨n.toNat, by have := hs.1; omega⟩
    have hp := hs.pos
    simp only [absE, absL, absF, reduceCtorEq, ↓reduceIte, Nat.reduceEqDiff, Nat.reduceAdd, Nat.reduceLT, Nat.reduceMul, Nat.reduceSub, Nat.reduceLeDiff, Int.reduceLT, Int.reduceLE, Int.reduceEq, Option.isSome_some, implies_true, false_implies, Prod.mk.injEq, ne_eq, not_false_eq_true, not_true_eq_false, ge_iff_le, gt_iff_lt, Int.toNat_natCast, Int.reduceToNat, Int.cast_ofNat_Int, Int.natCast_nonneg]
    refine CallsVia.none (l01Loop_ok N t ht) ?_
    rintro _ _ _ ⟨rfl, rfl, rfl⟩
    cases h2 : loopB N t
    · have hd : dcode N t = 5 := by simp [dcode, gcode, h1, groupB, h2]
      simp only [absE, absL, absF, reduceCtorEq, ↓reduceIte, Nat.reduceEqDiff, Nat.reduceAdd, Nat.reduceLT, Nat.reduceMul, Nat.reduceSub, Nat.reduceLeDiff, Int.reduceLT, Int.reduceLE, Int.reduceEq, Option.isSome_some, implies_true, false_implies, Prod.mk.injEq, ne_eq, not_false_eq_true, not_true_eq_false, ge_iff_le, gt_iff_lt, Int.toNat_natCast, Int.reduceToNat, Int.cast_ofNat_Int, Int.natCast_nonneg, Try.results46]
      exact ⟨[], by simp, by simp, by simp [renV, renVs, renSegs, renSg, resSq, hd]⟩
    · simp only [absE, absL, absF, reduceCtorEq, ↓reduceIte, Nat.reduceEqDiff, Nat.reduceAdd, Nat.reduceLT, Nat.reduceMul, Nat.reduceSub, Nat.reduceLeDiff, Int.reduceLT, Int.reduceLE, Int.reduceEq, Option.isSome_some, implies_true, false_implies, Prod.mk.injEq, ne_eq, not_false_eq_true, not_true_eq_false, ge_iff_le, gt_iff_lt, Int.toNat_natCast, Int.reduceToNat, Int.cast_ofNat_Int, Int.natCast_nonneg]
      refine CallsVia.none (l01Group_ok N t ht hs) ?_
      rintro _ _ _ ⟨rfl, rfl, rfl⟩
      cases h3 : assocB N t
      · have hd : dcode N t = 5 := by simp [dcode, gcode, h1, groupB, h2, h3]
        simp only [absE, absL, absF, reduceCtorEq, ↓reduceIte, Nat.reduceEqDiff, Nat.reduceAdd, Nat.reduceLT, Nat.reduceMul, Nat.reduceSub, Nat.reduceLeDiff, Int.reduceLT, Int.reduceLE, Int.reduceEq, Option.isSome_some, implies_true, false_implies, Prod.mk.injEq, ne_eq, not_false_eq_true, not_true_eq_false, ge_iff_le, gt_iff_lt, Int.toNat_natCast, Int.reduceToNat, Int.cast_ofNat_Int, Int.natCast_nonneg, Try.results46]
        exact ⟨[], by simp, by simp, by simp [renV, renVs, renSegs, renSg, resSq, hd]⟩
      · have hg : gcode N t = 0 := by simp [gcode, h1, groupB, h2, h3]
        by_cases h5 : 5 < (N : Int)
        · have hd : dcode N t = 3 := by simp only [dcode, hg, if_true, gt_iff_lt, h5]
          simp only [absE, absL, absF, reduceCtorEq, ↓reduceIte, Nat.reduceEqDiff, Nat.reduceAdd, Nat.reduceLT, Nat.reduceMul, Nat.reduceSub, Nat.reduceLeDiff, Int.reduceLT, Int.reduceLE, Int.reduceEq, Option.isSome_some, implies_true, false_implies, Prod.mk.injEq, ne_eq, not_false_eq_true, not_true_eq_false, ge_iff_le, gt_iff_lt, Int.toNat_natCast, Int.reduceToNat, Int.cast_ofNat_Int, Int.natCast_nonneg, h5, Try.results46]
          exact ⟨[], by simp, by simp, by simp [renV, renVs, renSegs, renSg, resSq, hd]⟩
        · have hd : dcode N t = 0 := by simp only [dcode, hg, if_true, gt_iff_lt, h5, if_false]
          have w1 : IntKind.i64.wrap (2 * (N : Int)) = ((2 * N : Nat) : Int) := by rw [wrap_i64 (by omega) (by omega)]; omega
          have w2 := wrap_u8n (show N < 256 by omega)
          simp only [absE, absL, absF, reduceCtorEq, ↓reduceIte, Nat.reduceEqDiff, Nat.reduceAdd, Nat.reduceLT, Nat.reduceMul, Nat.reduceSub, Nat.reduceLeDiff, Int.reduceLT, Int.reduceLE, Int.reduceEq, Option.isSome_some, implies_true, false_implies, Prod.mk.injEq, ne_eq, not_false_eq_true, not_true_eq_false, ge_iff_le, gt_iff_lt, Int.toNat_natCast, Int.reduceToNat, Int.cast_ofNat_Int, Int.natCast_nonneg, h5, w1, w2]
          repeat refine ⟨by decide +kernel, ?_⟩
          refine awpLoop.intro (fun a : Nat × List Int => [(1, .ref (.ptr 1 0 0 0)), (2, .ref (.ptr 2 0 0 0)), (4, .i .u8 N), (5, .ref (.ptr 28 0 0 0)), (6, .i .u8 a.1)]) (fun a => ⟨[], [((1, 0), .lv true (sqS N t)), ((2, 0), .lv true (sqS 0 (List.replicate 100 0))), ((28, 0), .lv true (sqS (2 * N : Nat) a.2))], 32⟩)
            (fun a => a.1 ≤ N ∧ DoubAt N t a.1 0 a.2) (fun a => N - a.1) (0, List.replicate 100 0) ⟨by simp, DoubAt.zero⟩ ⟨[((1,0),(1,0)), ((2,0),(2,0)), ((28,0),(28,0))], rfl, ?_, ?_⟩ ?_
          · simp [wkEnv, lk, renV, renAt, renTo]
          · simp [wkMem, wkLoc, Mem.get, assoc, renBlk, renSegs, renSg, renTo]
          · rintro ⟨x, T⟩ ⟨hx, hT⟩
            simp only at hx hT
            by_cases h : (x : Int) < N
            · have w := wrap_u8s (show x < 255 by omega)
              simp only [absE, absL, absF, reduceCtorEq, ↓reduceIte, Nat.reduceEqDiff, Nat.reduceAdd, Nat.reduceLT, Nat.reduceMul, Nat.reduceSub, Nat.reduceLeDiff, Int.reduceLT, Int.reduceLE, Int.reduceEq, Option.isSome_some, implies_true, false_implies, Prod.mk.injEq, ne_eq, not_false_eq_true, not_true_eq_false, ge_iff_le, gt_iff_lt, Int.toNat_natCast, Int.reduceToNat, Int.cast_ofNat_Int, Int.natCast_nonneg, h]
              refine awpLoop.intro (fun a : Nat × List Int => [(1, .ref (.ptr 1 0 0 0)), (2, .ref (.ptr 2 0 0 0)), (4, .i .u8 N), (5, .ref (.ptr 28 0 0 0)), (6, .i .u8 x), (7, .i .u8 a.1)]) (fun a => ⟨[], [((1, 0), .lv true (sqS N t)), ((2, 0), .lv true (sqS 0 (List.replicate 100 0))), ((28, 0), .lv true (sqS (2 * N : Nat) a.2))], 36⟩)
                (fun a => a.1 ≤ N ∧ DoubAt N t x a.1 a.2) (fun a => N - a.1) (0, T) ⟨by simp, hT⟩ ⟨[((1,0),(1,0)), ((2,0),(2,0)), ((28,0),(28,0))], rfl, ?_, ?_⟩ ?_
              · simp [wkEnv, lk, renV, renAt, renTo]
              · simp [wkMem, wkLoc, Mem.get, assoc, renBlk, renSegs, renSg, renTo]
              · rintro ⟨y, T⟩ ⟨hy, hT⟩
                simp only at hy hT
                by_cases h' : (y : Int) < N
                · have w' := wrap_u8s (show y < 255 by omega)
                  have j0 := invN_lt hs (show y < N by omega)
                  have j1 := hs.cl_lt (show y < N by omega) (show x < N by omega)
                  have j2 := hs.cl_lt (show x < N by omega) j0
                  have a1 : IntKind.u8.wrap ((N : Int) + y) = ((N + y : Nat) : Int) := by rw [← Int.natCast_add]; exact wrap_u8n (by omega)
                  have a2 : IntKind.u8.wrap ((N : Int) + x) = ((N + x : Nat) : Int) := by rw [← Int.natCast_add]; exact wrap_u8n (by omega)
                  have a3 : IntKind.u8.wrap ((N : Int) + cl t y x) = ((N + cl t y x : Nat) : Int) := by rw [← Int.natCast_add]; exact wrap_u8n (by omega)
                  have a4 : IntKind.u8.wrap ((N : Int) + cl t x (invN N t y)) = ((N + cl t x (invN N t y) : Nat) : Int) := by rw [← Int.natCast_add]; exact wrap_u8n (by omega)
                  have i1 : (x : Int) < 10 := by omega
                  have i2 : (y : Int) < 10 := by omega
                  have i3 : (invN N t y : Int) < 10 := by omega
                  have i4 : ((N + x : Nat) : Int) < 10 := by omega
                  have i5 : ((N + y : Nat) : Int) < 10 := by omega
                  have u1 : 0 + x * 10 + y * 1 < 100 := by omega
                  have u2 : 0 + y * 10 + x * 1 < 100 := by omega
                  have u3 : 0 + x * 10 + invN N t y * 1 < 100 := by omega
                  have u4 : 0 + invN N t y * 10 + x * 1 < 100 := by omega
                  have k1 := sq_colget ht x y
                  have k2 := sq_colget ht y x
                  have k3 := sq_colget ht x (invN N t y)
                  have k4 := sq_colget ht (invN N t y) x
                  have s1 : 0 + x * 10 + y * 1 + 1 ≤ 100 := by omega
                  have s2 : 0 + x * 10 + (N + y) * 1 + 1 ≤ 100 := by omega
                  have s3 : 0 + (N + x) * 10 + y * 1 + 1 ≤ 100 := by omega
                  have s4 : 0 + (N + x) * 10 + (N + y) * 1 + 1 ≤ 100 := by omega
                  have hnext := DoubAt.next (show x < N by omega) (show y < N by omega) (show N ≤ 5 by omega) hT
                  rw [doubG_1 (by omega) (by omega), doubG_2 (by omega) (by omega), doubG_3 (by omega) (by omega), doubG_4 (by omega) (by omega)] at hnext
                  simp only [absE, absL, absF, reduceCtorEq, ↓reduceIte, Nat.reduceEqDiff, Nat.reduceAdd, Nat.reduceLT, Nat.reduceMul, Nat.reduceSub, Nat.reduceLeDiff, Int.reduceLT, Int.reduceLE, Int.reduceEq, Option.isSome_some, implies_true, false_implies, Prod.mk.injEq, ne_eq, not_false_eq_true, not_true_eq_false, ge_iff_le, gt_iff_lt, Int.toNat_natCast, Int.reduceToNat, Int.cast_ofNat_Int, Int.natCast_nonneg, h']
                  refine CallsVia.none (l08Inverse_ok N t y ht hs (by omega)) ?_
                  rintro _ _ _ ⟨rfl, rfl, rfl⟩
                  simp only [absE, absL, absF, reduceCtorEq, ↓reduceIte, Nat.reduceEqDiff, Nat.reduceAdd, Nat.reduceLT, Nat.reduceMul, Nat.reduceSub, Nat.reduceLeDiff, Int.reduceLT, Int.reduceLE, Int.reduceEq, Option.isSome_some, implies_true, false_implies, Prod.mk.injEq, ne_eq, not_false_eq_true, not_true_eq_false, ge_iff_le, gt_iff_lt, Int.toNat_natCast, Int.reduceToNat, Int.cast_ofNat_Int, Int.natCast_nonneg, a1, a2, a3, a4, i1, i2, i3, i4, i5, u1, u2, u3, u4, k1, k2, k3, k4, s1, s2, s3, s4]
                  repeat refine ⟨by decide +kernel, ?_⟩
                  refine LoopNext.intro (y + 1, _) ⟨by simp only; omega, hnext⟩ (by simp only; omega) ⟨[((1,0),(1,0)), ((2,0),(2,0)), ((28,0),(28,0))], rfl, ?_, ?_⟩
                  · simp [wkEnv, lk, renV, renAt, renTo, w']
                  · simp [wkMem, wkLoc, Mem.get, assoc, renBlk, renSegs, renSg, renTo, w']
                · have hyN : y = N := by omega
                  subst hyN
                  simp only [absE, absL, absF, reduceCtorEq, ↓reduceIte, Nat.reduceEqDiff, Nat.reduceAdd, Nat.reduceLT, Nat.reduceMul, Nat.reduceSub, Nat.reduceLeDiff, Int.reduceLT, Int.reduceLE, Int.reduceEq, Option.isSome_some, implies_true, false_implies, Prod.mk.injEq, ne_eq, not_false_eq_true, not_true_eq_false, ge_iff_le, gt_iff_lt, Int.toNat_natCast, Int.reduceToNat, Int.cast_ofNat_Int, Int.natCast_nonneg, h', w]
                  refine LoopNext.intro (x + 1, T) ⟨by simp only; omega, DoubAt.row (by omega) hT⟩ (by simp only; omega) ⟨[((1,0),(1,0)), ((2,0),(2,0)), ((28,0),(28,0))], rfl, ?_, ?_⟩
                  · simp [wkEnv, lk, renV, renAt, renTo]
                  · simp [wkMem, wkLoc, Mem.get, assoc, renBlk, renSegs, renSg, renTo]
            · have hxN : x = N := by omega
              subst hxN
              have hall := DoubAt.all (by omega) hT
              simp only [absE, absL, absF, reduceCtorEq, ↓reduceIte, Nat.reduceEqDiff, Nat.reduceAdd, Nat.reduceLT, Nat.reduceMul, Nat.reduceSub, Nat.reduceLeDiff, Int.reduceLT, Int.reduceLE, Int.reduceEq, Option.isSome_some, implies_true, false_implies, Prod.mk.injEq, ne_eq, not_false_eq_true, not_true_eq_false, ge_iff_le, gt_iff_lt, Int.toNat_natCast, Int.reduceToNat, Int.cast_ofNat_Int, Int.natCast_nonneg, h, Try.results46]
              exact ⟨[], by simp, by simp, by simp [renV, renVs, renSegs, renSg, resSq0 hd, hall]⟩

end Go.Proofs.Ytopkdpgbjpjgjaa
