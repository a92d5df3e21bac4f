/-
Contracts of functions of the given program, by the abstract walk.
-/
import Derived.Test.YtoccbgffekhcaaaAbsY
import Derived.Test.YtoccbgffekhcaaaVe
import Derived.Test.YtoccbgffekhcaaaCc
namespace Go.Proofs.Ytoccbgffekhcaaa
open Go Go.Abs
set_option linter.unusedVariables false
set_option linter.unusedSectionVars false
set_option linter.unusedSimpArgs false
set_option maxRecDepth 100000
set_option maxHeartbeats 1000000 in
theorem lawCountHolds_ok (n0 : Int) (t0 : List Int) (A B : Atom) (ms : List Blk) (xs ys : List Int) (j0 j1 : Nat) (ht0 : Bytes 100 t0) (hst : StMs ms) (hlv : ∀ b ∈ ms, b ≠ .dead) (h0 : SlAtB j0 A xs ms) (h1 : SlAtB j1 B ys ms) (hmx : xs.length ≤ maxLen) (hmy : ys.length ≤ maxLen) :
    ACalls Try.prog 11 [.agg (sqS n0 t0), idA A B] ms (fun v ms' ns => v = .b true ∧ ms' = ms ∧ ns = []) := by
  have hfin : ms.map (renBlk (renFin [])) = ms := hst _ fun k _ => renFin_zero k
  have hS := idA_st h0 h1
  have hS2 := idA_st2 (z := 1048576) h0 h1
  have hsz := szIdentity_ok hst h0 h1 hmx hmy
  unfold idA at hS hS2 hsz
  refine acalls_of_body mix Try.func11 rfl fok11 (Nat.le_of_ble_eq_true rfl) ?_
  unfold abody
  simp only [absE, absL, absF, reduceCtorEq, ↓reduceIte, Nat.reduceEqDiff, Nat.reduceAdd, Nat.reduceLT, Nat.reduceMul, Nat.reduceSub, Nat.reduceLeDiff, Int.reduceLT, Int.reduceLE, Int.reduceEq, Option.isSome_some, implies_true, false_implies, Prod.mk.injEq, ne_eq, not_false_eq_true, not_true_eq_false, ge_iff_le, gt_iff_lt, Int.toNat_natCast, Int.reduceToNat, Int.cast_ofNat_Int, Int.natCast_nonneg, idA, Try.f11]
  refine CallsVia.all (R := fun v ns => (∃ r : Int, v = .i .i64 r ∧ (0 ≤ r → xs.length ≤ 2 ^ 20 ∧ ys.length ≤ 2 ^ 20)) ∧ ns = []) hlv hst hS2 (hsz.mono fun v ms ns ⟨a, b, c⟩ => ⟨⟨a, c⟩, b⟩) ?_
  rintro _ _ ups rd ⟨⟨r, rfl, hr⟩, rfl⟩ hu
  simp only [newUps, List.append_nil, renV, hu]
  by_cases hneg : r < 0
  · simp only [absE, absL, absF, reduceCtorEq, ↓reduceIte, Nat.reduceEqDiff, Nat.reduceAdd, Nat.reduceLT, Nat.reduceMul, Nat.reduceSub, Nat.reduceLeDiff, Int.reduceLT, Int.reduceLE, Int.reduceEq, Option.isSome_some, implies_true, false_implies, Prod.mk.injEq, ne_eq, not_false_eq_true, not_true_eq_false, ge_iff_le, gt_iff_lt, Int.toNat_natCast, Int.reduceToNat, Int.cast_ofNat_Int, Int.natCast_nonneg, hneg, Try.results11]
    exact ⟨[], by simp, by simp, by simp [renV], hfin, by simp⟩
  obtain ⟨hx, hy⟩ := hr (by omega)
  have hid := toIdentity_ok hst h0 h1 hx hy
  have hspec := specCountR_ok n0 t0 xs ys xs.length ys.length ht0 hx hy
  have himpl := implCountR_ok n0 t0 xs ys xs.length ys.length ht0 hx hy
  obtain ⟨b, e, hE⟩ := cnt_form n0 t0 xs ys xs.length ys.length
  rw [hE] at hspec himpl
  have heq := eqIdentity_ok xs ys (by omega) (by omega)
  unfold idA at hid
  unfold idV at hspec himpl heq
  unfold bk at hid hspec himpl heq
  simp only [absE, absL, absF, reduceCtorEq, ↓reduceIte, Nat.reduceEqDiff, Nat.reduceAdd, Nat.reduceLT, Nat.reduceMul, Nat.reduceSub, Nat.reduceLeDiff, Int.reduceLT, Int.reduceLE, Int.reduceEq, Option.isSome_some, implies_true, false_implies, Prod.mk.injEq, ne_eq, not_false_eq_true, not_true_eq_false, ge_iff_le, gt_iff_lt, Int.toNat_natCast, Int.reduceToNat, Int.cast_ofNat_Int, Int.natCast_nonneg, hneg]
  repeat first | refine And.intro (by decide +kernel) ?_ | refine And.intro (by omega) ?_
  refine CallsX.none (toSquare_ok n0 t0 ht0.len) ?_
  simp only [absE, absL, absF, reduceCtorEq, ↓reduceIte, Nat.reduceEqDiff, Nat.reduceAdd, Nat.reduceLT, Nat.reduceMul, Nat.reduceSub, Nat.reduceLeDiff, Int.reduceLT, Int.reduceLE, Int.reduceEq, Option.isSome_some, implies_true, false_implies, Prod.mk.injEq, ne_eq, not_false_eq_true, not_true_eq_false, ge_iff_le, gt_iff_lt, Int.toNat_natCast, Int.reduceToNat, Int.cast_ofNat_Int, Int.natCast_nonneg]
  repeat first | refine And.intro (by decide +kernel) ?_ | refine And.intro (by omega) ?_
  refine CallsX.allN hlv hst hS hid ?_
  intro ups1 rd1 hu1 _ _
  simp only [newUps_id] at hu1
  simp only [renV_id, hu1]
  refine And.intro (chk_y rfl (by decide +kernel)) ?_
  simp only [absE, absL, absF, reduceCtorEq, ↓reduceIte, Nat.reduceEqDiff, Nat.reduceAdd, Nat.reduceLT, Nat.reduceMul, Nat.reduceSub, Nat.reduceLeDiff, Int.reduceLT, Int.reduceLE, Int.reduceEq, Option.isSome_some, implies_true, false_implies, Prod.mk.injEq, ne_eq, not_false_eq_true, not_true_eq_false, ge_iff_le, gt_iff_lt, Int.toNat_natCast, Int.reduceToNat, Int.cast_ofNat_Int, Int.natCast_nonneg]
  refine CallsX.args [(14, 0), (14, 1)] hspec (by simp) (by simp [Mem.get, assoc]) rfl rfl ?_
  simp only [absE, absL, absF, reduceCtorEq, ↓reduceIte, Nat.reduceEqDiff, Nat.reduceAdd, Nat.reduceLT, Nat.reduceMul, Nat.reduceSub, Nat.reduceLeDiff, Int.reduceLT, Int.reduceLE, Int.reduceEq, Option.isSome_some, implies_true, false_implies, Prod.mk.injEq, ne_eq, not_false_eq_true, not_true_eq_false, ge_iff_le, gt_iff_lt, Int.toNat_natCast, Int.reduceToNat, Int.cast_ofNat_Int, Int.natCast_nonneg]
  repeat first | refine And.intro (chk_y (l := (List.range 1).reverse) rfl (by decide +kernel)) ?_ | refine And.intro (chk_y (l := (List.range 2).reverse) rfl (by decide +kernel)) ?_ | refine And.intro (chk_y (l := (List.range 3).reverse) rfl (by decide +kernel)) ?_ | refine And.intro (chk_y (l := (List.range 4).reverse) rfl (by decide +kernel)) ?_ | refine And.intro (chk_y (l := (List.range 5).reverse) rfl (by decide +kernel)) ?_ | refine And.intro (chk_y (l := (List.range 6).reverse) rfl (by decide +kernel)) ?_ | refine And.intro (chk_y (l := (List.range 7).reverse) rfl (by decide +kernel)) ?_ | refine And.intro (by omega) ?_
  simp only [absE, absL, absF, reduceCtorEq, ↓reduceIte, Nat.reduceEqDiff, Nat.reduceAdd, Nat.reduceLT, Nat.reduceMul, Nat.reduceSub, Nat.reduceLeDiff, Int.reduceLT, Int.reduceLE, Int.reduceEq, Option.isSome_some, implies_true, false_implies, Prod.mk.injEq, ne_eq, not_false_eq_true, not_true_eq_false, ge_iff_le, gt_iff_lt, Int.toNat_natCast, Int.reduceToNat, Int.cast_ofNat_Int, Int.natCast_nonneg]
  refine CallsVia.allN hlv hst hS hid ?_
  intro ups2 rd2 hu2
  simp only [newUps_id] at hu2
  simp only [renV_id, hu2]
  simp only [absE, absL, absF, reduceCtorEq, ↓reduceIte, Nat.reduceEqDiff, Nat.reduceAdd, Nat.reduceLT, Nat.reduceMul, Nat.reduceSub, Nat.reduceLeDiff, Int.reduceLT, Int.reduceLE, Int.reduceEq, Option.isSome_some, implies_true, false_implies, Prod.mk.injEq, ne_eq, not_false_eq_true, not_true_eq_false, ge_iff_le, gt_iff_lt, Int.toNat_natCast, Int.reduceToNat, Int.cast_ofNat_Int, Int.natCast_nonneg]
  repeat first | refine And.intro (chk_y (l := (List.range 1).reverse) rfl (by decide +kernel)) ?_ | refine And.intro (chk_y (l := (List.range 2).reverse) rfl (by decide +kernel)) ?_ | refine And.intro (chk_y (l := (List.range 3).reverse) rfl (by decide +kernel)) ?_ | refine And.intro (chk_y (l := (List.range 4).reverse) rfl (by decide +kernel)) ?_ | refine And.intro (chk_y (l := (List.range 5).reverse) rfl (by decide +kernel)) ?_ | refine And.intro (chk_y (l := (List.range 6).reverse) rfl (by decide +kernel)) ?_ | refine And.intro (chk_y (l := (List.range 7).reverse) rfl (by decide +kernel)) ?_ | refine And.intro (by omega) ?_
  refine CallsX.none (toSquare_ok n0 t0 ht0.len) ?_
  simp only [absE, absL, absF, reduceCtorEq, ↓reduceIte, Nat.reduceEqDiff, Nat.reduceAdd, Nat.reduceLT, Nat.reduceMul, Nat.reduceSub, Nat.reduceLeDiff, Int.reduceLT, Int.reduceLE, Int.reduceEq, Option.isSome_some, implies_true, false_implies, Prod.mk.injEq, ne_eq, not_false_eq_true, not_true_eq_false, ge_iff_le, gt_iff_lt, Int.toNat_natCast, Int.reduceToNat, Int.cast_ofNat_Int, Int.natCast_nonneg]
  repeat first | refine And.intro (chk_y (l := (List.range 1).reverse) rfl (by decide +kernel)) ?_ | refine And.intro (chk_y (l := (List.range 2).reverse) rfl (by decide +kernel)) ?_ | refine And.intro (chk_y (l := (List.range 3).reverse) rfl (by decide +kernel)) ?_ | refine And.intro (chk_y (l := (List.range 4).reverse) rfl (by decide +kernel)) ?_ | refine And.intro (chk_y (l := (List.range 5).reverse) rfl (by decide +kernel)) ?_ | refine And.intro (chk_y (l := (List.range 6).reverse) rfl (by decide +kernel)) ?_ | refine And.intro (chk_y (l := (List.range 7).reverse) rfl (by decide +kernel)) ?_ | refine And.intro (by omega) ?_
  refine CallsX.args [(22, 0), (22, 1)] himpl (by simp) (by simp [Mem.get, assoc]) rfl rfl ?_
  simp only [absE, absL, absF, reduceCtorEq, ↓reduceIte, Nat.reduceEqDiff, Nat.reduceAdd, Nat.reduceLT, Nat.reduceMul, Nat.reduceSub, Nat.reduceLeDiff, Int.reduceLT, Int.reduceLE, Int.reduceEq, Option.isSome_some, implies_true, false_implies, Prod.mk.injEq, ne_eq, not_false_eq_true, not_true_eq_false, ge_iff_le, gt_iff_lt, Int.toNat_natCast, Int.reduceToNat, Int.cast_ofNat_Int, Int.natCast_nonneg]
  repeat first | refine And.intro (chk_y (l := (List.range 1).reverse) rfl (by decide +kernel)) ?_ | refine And.intro (chk_y (l := (List.range 2).reverse) rfl (by decide +kernel)) ?_ | refine And.intro (chk_y (l := (List.range 3).reverse) rfl (by decide +kernel)) ?_ | refine And.intro (chk_y (l := (List.range 4).reverse) rfl (by decide +kernel)) ?_ | refine And.intro (chk_y (l := (List.range 5).reverse) rfl (by decide +kernel)) ?_ | refine And.intro (chk_y (l := (List.range 6).reverse) rfl (by decide +kernel)) ?_ | refine And.intro (chk_y (l := (List.range 7).reverse) rfl (by decide +kernel)) ?_ | refine And.intro (by omega) ?_
  try simp only [absE, absL, absF, reduceCtorEq, ↓reduceIte, Nat.reduceEqDiff, Nat.reduceAdd, Nat.reduceLT, Nat.reduceMul, Nat.reduceSub, Nat.reduceLeDiff, Int.reduceLT, Int.reduceLE, Int.reduceEq, Option.isSome_some, implies_true, false_implies, Prod.mk.injEq, ne_eq, not_false_eq_true, not_true_eq_false, ge_iff_le, gt_iff_lt, Int.toNat_natCast, Int.reduceToNat, Int.cast_ofNat_Int, Int.natCast_nonneg, and_self, eq_self, beq_self_eq_true]
  refine CallsX.allN hlv hst hS hid ?_
  intro ups3 rd3 hu3 hw3 hr3
  simp only [newUps_id] at hu3
  simp only [renV_id, hu3]
  repeat first | refine And.intro (chk_y (l := (List.range 1).reverse) rfl (by decide +kernel)) ?_ | refine And.intro (chk_y (l := (List.range 2).reverse) rfl (by decide +kernel)) ?_ | refine And.intro (chk_y (l := (List.range 3).reverse) rfl (by decide +kernel)) ?_ | refine And.intro (chk_y (l := (List.range 4).reverse) rfl (by decide +kernel)) ?_ | refine And.intro (chk_y (l := (List.range 5).reverse) rfl (by decide +kernel)) ?_ | refine And.intro (chk_y (l := (List.range 6).reverse) rfl (by decide +kernel)) ?_ | refine And.intro (chk_y (l := (List.range 7).reverse) rfl (by decide +kernel)) ?_ | refine And.intro (by omega) ?_
  simp only [absE, absL, absF, reduceCtorEq, ↓reduceIte, Nat.reduceEqDiff, Nat.reduceAdd, Nat.reduceLT, Nat.reduceMul, Nat.reduceSub, Nat.reduceLeDiff, Int.reduceLT, Int.reduceLE, Int.reduceEq, Option.isSome_some, implies_true, false_implies, Prod.mk.injEq, ne_eq, not_false_eq_true, not_true_eq_false, ge_iff_le, gt_iff_lt, Int.toNat_natCast, Int.reduceToNat, Int.cast_ofNat_Int, Int.natCast_nonneg]
  have d1 := disj_new (l := [(23, 0)]) rfl hw3
  have d2 := disj_new (l := [(23, 0)]) rfl hr3
  refine And.intro ⟨?_, ?_, trivial⟩ ?_
  · rw [Bool.or_eq_true]; exact .inr (by decide +kernel)
  · rw [d1.1]; rfl
  refine CallsX.args [(22, 0), (22, 1), (44, 0), (44, 1)] heq (by simp) (by simp [Mem.get, assoc]) rfl rfl ?_
  simp only [absE, absL, absF, reduceCtorEq, ↓reduceIte, Nat.reduceEqDiff, Nat.reduceAdd, Nat.reduceLT, Nat.reduceMul, Nat.reduceSub, Nat.reduceLeDiff, Int.reduceLT, Int.reduceLE, Int.reduceEq, Option.isSome_some, implies_true, false_implies, Prod.mk.injEq, ne_eq, not_false_eq_true, not_true_eq_false, ge_iff_le, gt_iff_lt, Int.toNat_natCast, Int.reduceToNat, Int.cast_ofNat_Int, Int.natCast_nonneg]
  repeat first | refine And.intro (chk_y (l := (List.range 1).reverse) rfl (by decide +kernel)) ?_ | refine And.intro (chk_y (l := (List.range 2).reverse) rfl (by decide +kernel)) ?_ | refine And.intro (chk_y (l := (List.range 3).reverse) rfl (by decide +kernel)) ?_ | refine And.intro (chk_y (l := (List.range 4).reverse) rfl (by decide +kernel)) ?_ | refine And.intro (chk_y (l := (List.range 5).reverse) rfl (by decide +kernel)) ?_ | refine And.intro (chk_y (l := (List.range 6).reverse) rfl (by decide +kernel)) ?_ | refine And.intro (chk_y (l := (List.range 7).reverse) rfl (by decide +kernel)) ?_ | refine And.intro (by omega) ?_
  simp only [absE, absL, absF, reduceCtorEq, ↓reduceIte, Nat.reduceEqDiff, Nat.reduceAdd, Nat.reduceLT, Nat.reduceMul, Nat.reduceSub, Nat.reduceLeDiff, Int.reduceLT, Int.reduceLE, Int.reduceEq, Option.isSome_some, implies_true, false_implies, Prod.mk.injEq, ne_eq, not_false_eq_true, not_true_eq_false, ge_iff_le, gt_iff_lt, Int.toNat_natCast, Int.reduceToNat, Int.cast_ofNat_Int, Int.natCast_nonneg, Try.results11]
  exact ⟨[], by simp, by simp, by simp [renV], hfin, by simp⟩

end Go.Proofs.Ytoccbgffekhcaaa
