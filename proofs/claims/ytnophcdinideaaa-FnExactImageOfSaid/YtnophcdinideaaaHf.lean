/-
Contracts of functions of the given program, by the abstract walk.
-/
import Derived.Test.YtnophcdinideaaaAbsW
import Derived.Test.YtnophcdinideaaaHe
import Derived.Test.YtnophcdinideaaaHc
import Derived.Test.YtnophcdinideaaaGb
import Derived.Test.YtnophcdinideaaaDp
namespace Go.Proofs.Ytnophcdinideaaa
open Go Go.Abs
set_option linter.unusedVariables false
set_option linter.unusedSectionVars false
set_option linter.unusedSimpArgs false
set_option maxRecDepth 100000
/-! homomorphisms -/
def ImgP (M : Nat) (xs : List Int) (k : Nat) : Prop := ∀ i, i < k → 0 ≤ xs.getD (0 + i * 1) 0 ∧ xs.getD (0 + i * 1) 0 ≤ (M : Int) - 1
open Classical in
noncomputable def imgB (N M : Nat) (xs : List Int) (k : Nat) : Bool := decide (ImgP M xs k ∧ k = N)
theorem imgB_true {N M : Nat} {xs : List Int} {k : Nat} (h : ImgP M xs k ∧ k = N) : imgB N M xs k = true := by unfold imgB; exact @decide_eq_true _ (_) h
theorem imgB_false {N M : Nat} {xs : List Int} {k : Nat} (h : ¬(ImgP M xs k ∧ k = N)) : imgB N M xs k = false := by unfold imgB; exact @decide_eq_false _ (_) h
theorem imgB_iff {N M : Nat} {xs : List Int} {k : Nat} : imgB N M xs k = true ↔ ImgP M xs k ∧ k = N := by unfold imgB; exact @decide_eq_true_iff _ (_)
theorem ImgP.el_eq {M : Nat} {xs : List Int} {k i : Nat} (h : ImgP M xs k) (hi : i < k) : xs.getD (0 + i * 1) 0 = ((el xs i : Nat) : Int) ∧ el xs i < M := by
  have h1 := h i hi
  unfold el
  rw [Nat.zero_add, Nat.mul_one] at h1 ⊢
  omega
def hm (t t' xs : List Int) (x y : Nat) : Bool := decide (cl t' (el xs x) (el xs y) = el xs (cl t x y))
theorem areImages_ok (N M : Nat) (t t' xs : List Int) (k : Nat) (hM : M ≤ 10) (hx : xs.length = k) (hk : k ≤ 2 ^ 20) :
    ACalls Try.prog 112 [.agg (sqS N t), .agg (sqS M t'), .ref (.sl 0 0 0 0 k 1)] [.lv true [(0, .ints .i64 k xs)]] (fun v ms ns => v = .b (imgB N M xs k) ∧ ms = [.lv true [(0, .ints .i64 k xs)]] ∧ ns = []) := by
  have wn : IntKind.i64.wrap ((M : Int) - 1) = (M : Int) - 1 := wrap_i64 (by omega) (by omega)
  refine acalls_of_body mix Try.func112 rfl fok112 (Nat.le_of_ble_eq_true rfl) ?_
  unfold abody
  simp only [absE, absL, absF, reduceCtorEq, ↓reduceIte, Nat.reduceEqDiff, Nat.reduceAdd, Nat.reduceLT, Nat.reduceMul, Nat.reduceSub, Nat.reduceLeDiff, Int.reduceLT, Int.reduceLE, Int.reduceEq, Option.isSome_some, implies_true, false_implies, Prod.mk.injEq, ne_eq, not_false_eq_true, not_true_eq_false, ge_iff_le, gt_iff_lt, Int.toNat_natCast, Int.reduceToNat, Int.cast_ofNat_Int, Int.natCast_nonneg, Try.f112]
  refine awpLoop.intro (fun i : Nat => [(2, .ref (.sl 0 0 0 0 k 1)), (3, .ref (.ptr 1 0 0 0)), (4, .ref (.ptr 2 0 0 0)), (9, .ref (.sl 0 0 0 0 k 1)), (10, .i .i64 k), (11, .i .i64 i)]) (fun i => ⟨[.lv true [(0, .ints .i64 k xs)]], [((1, 0), .lv true (sqS N t)), ((2, 0), .lv true (sqS M t'))], 7⟩)
    (fun i => i ≤ k ∧ ImgP M xs i) (fun i => k - i) 0 ⟨by omega, fun j hj => absurd hj (by omega)⟩ ⟨[((1,0),(1,0)), ((2,0),(2,0))], rfl, ?_, ?_⟩ ?_
  · simp [wkEnv, lk, renV, renAt, renTo]
  · simp [wkMem, wkLoc, Mem.get, assoc, renBlk, renSegs, renSg, renTo]
  · rintro i ⟨hi, hp⟩
    by_cases h : (i : Int) < k
    · have w := wrap_i64s (show i < 2 ^ 62 by omega)
      have v1 : 0 + i * 1 < k := by omega
      simp only [absE, absL, absF, reduceCtorEq, ↓reduceIte, Nat.reduceEqDiff, Nat.reduceAdd, Nat.reduceLT, Nat.reduceMul, Nat.reduceSub, Nat.reduceLeDiff, Int.reduceLT, Int.reduceLE, Int.reduceEq, Option.isSome_some, implies_true, false_implies, Prod.mk.injEq, ne_eq, not_false_eq_true, not_true_eq_false, ge_iff_le, gt_iff_lt, Int.toNat_natCast, Int.reduceToNat, Int.cast_ofNat_Int, Int.natCast_nonneg, h, v1, wn]
      refine CallsVia.none (within_ok (xs.getD (0 + i * 1) 0) 0 ((M : Int) - 1)) ?_
      rintro _ _ _ ⟨rfl, rfl, rfl⟩
      by_cases hw : 0 ≤ xs.getD (0 + i * 1) 0 ∧ xs.getD (0 + i * 1) 0 ≤ (M : Int) - 1
      · simp only [absE, absL, absF, reduceCtorEq, ↓reduceIte, Nat.reduceEqDiff, Nat.reduceAdd, Nat.reduceLT, Nat.reduceMul, Nat.reduceSub, Nat.reduceLeDiff, Int.reduceLT, Int.reduceLE, Int.reduceEq, Option.isSome_some, implies_true, false_implies, Prod.mk.injEq, ne_eq, not_false_eq_true, not_true_eq_false, ge_iff_le, gt_iff_lt, Int.toNat_natCast, Int.reduceToNat, Int.cast_ofNat_Int, Int.natCast_nonneg, hw, and_self]
        refine LoopNext.intro (i + 1) ⟨by omega, fun j hj => ?_⟩ (by omega) ⟨[((1,0),(1,0)), ((2,0),(2,0))], rfl, ?_, ?_⟩
        · by_cases ej : j = i
          · subst ej; exact hw
          · exact hp j (by omega)
        · simp [wkEnv, lk, renV, renAt, renTo, w]
        · simp [wkMem, wkLoc, Mem.get, assoc, renBlk, renSegs, renSg, renTo, w]
      · simp only [absE, absL, absF, reduceCtorEq, ↓reduceIte, Nat.reduceEqDiff, Nat.reduceAdd, Nat.reduceLT, Nat.reduceMul, Nat.reduceSub, Nat.reduceLeDiff, Int.reduceLT, Int.reduceLE, Int.reduceEq, Option.isSome_some, implies_true, false_implies, Prod.mk.injEq, ne_eq, not_false_eq_true, not_true_eq_false, ge_iff_le, gt_iff_lt, Int.toNat_natCast, Int.reduceToNat, Int.cast_ofNat_Int, Int.natCast_nonneg, hw, Try.results112]
        have hf : imgB N M xs k = false := imgB_false fun hu => hw (hu.1 i (by omega))
        exact ⟨[], by simp, by simp, by simp [renV, renBlk, renSegs, renSg, hf]⟩
    · obtain rfl : i = k := by omega
      by_cases hkN : i = N
      · subst hkN
        simp only [absE, absL, absF, reduceCtorEq, ↓reduceIte, Nat.reduceEqDiff, Nat.reduceAdd, Nat.reduceLT, Nat.reduceMul, Nat.reduceSub, Nat.reduceLeDiff, Int.reduceLT, Int.reduceLE, Int.reduceEq, Option.isSome_some, implies_true, false_implies, Prod.mk.injEq, ne_eq, not_false_eq_true, not_true_eq_false, ge_iff_le, gt_iff_lt, Int.toNat_natCast, Int.reduceToNat, Int.cast_ofNat_Int, Int.natCast_nonneg, h, eq_self, Try.results112]
        have hf : imgB i M xs i = true := imgB_true ⟨hp, rfl⟩
        exact ⟨[], by simp, by simp, by simp [renV, renBlk, renSegs, renSg, hf]⟩
      · have g : ¬(i : Int) = N := by omega
        simp only [absE, absL, absF, reduceCtorEq, ↓reduceIte, Nat.reduceEqDiff, Nat.reduceAdd, Nat.reduceLT, Nat.reduceMul, Nat.reduceSub, Nat.reduceLeDiff, Int.reduceLT, Int.reduceLE, Int.reduceEq, Option.isSome_some, implies_true, false_implies, Prod.mk.injEq, ne_eq, not_false_eq_true, not_true_eq_false, ge_iff_le, gt_iff_lt, Int.toNat_natCast, Int.reduceToNat, Int.cast_ofNat_Int, Int.natCast_nonneg, h, g, Try.results112]
        have hf : imgB N M xs i = false := imgB_false fun hu => hkN hu.2
        exact ⟨[], by simp, by simp, by simp [renV, renBlk, renSegs, renSg, hf, hkN]⟩
theorem isHom1_ok (N M : Nat) (t t' xs : List Int) (k : Nat) (ht : Bytes 100 t) (hs : SqP N t) (ht' : Bytes 100 t') (hs' : SqP M t') (hk : k = N) (hx : xs.length = k) (hI : ImgP M xs k) (x y : Nat) (hxN : x < N) (hyN : y < N) :
    ACalls Try.prog 123 [.i .u8 x, .i .u8 y, .ref (.ptr 0 0 0 0), .ref (.ptr 0 1 0 0), .ref (.ptr 0 2 0 0)] [.lv true (sqS M t'), .lv true [(0, .cells 1 [.sl 0 3 0 0 k 1])], .lv true (sqS N t), .lv true [(0, .ints .i64 k xs)]]
      (fun v ms ns => v = .b (hm t t' xs x y) ∧ ms = [.lv true (sqS M t'), .lv true [(0, .cells 1 [.sl 0 3 0 0 k 1])], .lv true (sqS N t), .lv true [(0, .ints .i64 k xs)]] ∧ ns = []) := by
  have hN := hs.le
  have hM := hs'.le
  obtain ⟨a1, a2⟩ := hI.el_eq (show x < k by omega)
  obtain ⟨b1, b2⟩ := hI.el_eq (show y < k by omega)
  have j1 := hs.cl_lt hxN hyN
  obtain ⟨c1, c2⟩ := hI.el_eq (show cl t x y < k by omega)
  have i1 : (x : Int) < 10 := by omega
  have i2 : (y : Int) < 10 := by omega
  have i3 : ((el xs x : Nat) : Int) < 10 := by omega
  have i4 : ((el xs y : Nat) : Int) < 10 := by omega
  have l1 : (x : Int) < k := by omega
  have l2 : (y : Int) < k := by omega
  have l3 : ((cl t x y : Nat) : Int) < k := by omega
  have v1 : 0 + x * 1 < k := by omega
  have v2 : 0 + y * 1 < k := by omega
  have v3 : 0 + cl t x y * 1 < k := by omega
  have u1 : 0 + x * 10 + y * 1 < 100 := by omega
  have u2 : 0 + el xs x * 10 + el xs y * 1 < 100 := by omega
  have k1 := sq_colget ht x y
  have k2 := sq_colget ht' (el xs x) (el xs y)
  have w2 : IntKind.i64.wrap ((cl t' (el xs x) (el xs y) : Nat) : Int) = ((cl t' (el xs x) (el xs y) : Nat) : Int) := wrap_i64 (by have := hs'.cl_lt a2 b2; omega) (by have := hs'.cl_lt a2 b2; omega)
  refine acalls_of_body mix Try.func123 rfl fok123 (Nat.le_of_ble_eq_true rfl) ?_
  unfold abody
  by_cases hc : cl t' (el xs x) (el xs y) = el xs (cl t x y)
  · have g : (cl t' (el xs x) (el xs y) : Int) = el xs (cl t x y) := by omega
    have w3 := w2
    rw [g] at w3
    simp only [w3, absE, absL, absF, reduceCtorEq, ↓reduceIte, Nat.reduceEqDiff, Nat.reduceAdd, Nat.reduceLT, Nat.reduceMul, Nat.reduceSub, Nat.reduceLeDiff, Int.reduceLT, Int.reduceLE, Int.reduceEq, Option.isSome_some, implies_true, false_implies, Prod.mk.injEq, ne_eq, not_false_eq_true, not_true_eq_false, ge_iff_le, gt_iff_lt, Int.toNat_natCast, Int.reduceToNat, Int.cast_ofNat_Int, Int.natCast_nonneg, i1, i2, i3, i4, l1, l2, l3, v1, v2, v3, u1, u2, k1, k2, a1, b1, c1, w2, g, Try.f123, Try.results123]
    exact ⟨[], by simp, by simp, by simp [renV, renVs, renSegs, renSg, renBlk, renAt, renTo, renFin, idx, hm, hc]⟩
  · have g : ¬(cl t' (el xs x) (el xs y) : Int) = el xs (cl t x y) := by omega
    simp only [absE, absL, absF, reduceCtorEq, ↓reduceIte, Nat.reduceEqDiff, Nat.reduceAdd, Nat.reduceLT, Nat.reduceMul, Nat.reduceSub, Nat.reduceLeDiff, Int.reduceLT, Int.reduceLE, Int.reduceEq, Option.isSome_some, implies_true, false_implies, Prod.mk.injEq, ne_eq, not_false_eq_true, not_true_eq_false, ge_iff_le, gt_iff_lt, Int.toNat_natCast, Int.reduceToNat, Int.cast_ofNat_Int, Int.natCast_nonneg, i1, i2, i3, i4, l1, l2, l3, v1, v2, v3, u1, u2, k1, k2, a1, b1, c1, w2, g, Try.f123, Try.results123]
    exact ⟨[], by simp, by simp, by simp [renV, renVs, renSegs, renSg, renBlk, renAt, renTo, renFin, idx, hm, hc]⟩
theorem isHom_ok (N M : Nat) (t t' xs : List Int) (k : Nat) (ht : Bytes 100 t) (hs : SqP N t) (ht' : Bytes 100 t') (hs' : SqP M t') (hk : k = N) (hx : xs.length = k) (hI : ImgP M xs k) :
    ACalls Try.prog 113 [.agg (sqS N t), .agg (sqS M t'), .ref (.sl 0 0 0 0 k 1)] [.lv true [(0, .ints .i64 k xs)]] (fun v ms ns => v = .b (pairsB N (hm t t' xs)) ∧ ms = [.lv true [(0, .ints .i64 k xs)]] ∧ ns = []) := by
  refine acalls_of_body mix Try.func113 rfl fok113 (Nat.le_of_ble_eq_true rfl) ?_
  unfold abody
  simp only [absE, absL, absF, reduceCtorEq, ↓reduceIte, Nat.reduceEqDiff, Nat.reduceAdd, Nat.reduceLT, Nat.reduceMul, Nat.reduceSub, Nat.reduceLeDiff, Int.reduceLT, Int.reduceLE, Int.reduceEq, Option.isSome_some, implies_true, false_implies, Prod.mk.injEq, ne_eq, not_false_eq_true, not_true_eq_false, ge_iff_le, gt_iff_lt, Int.toNat_natCast, Int.reduceToNat, Int.cast_ofNat_Int, Int.natCast_nonneg, Try.f113]
  refine CallsVia.args [(2, 0), (3, 0), (1, 0), (0, 0)] (forPairsC_ok N t hs.le 123 (hm t t' xs) k xs (sqS M t') (sqS N t) (fun ρ => by simp [renSegs, renSg]) (fun ρ => by simp [renSegs, renSg]) (fun x y hxN hyN => isHom1_ok N M t t' xs k ht hs ht' hs' hk hx hI x y hxN hyN)) (by simp) (by simp [Mem.get, assoc]) rfl rfl ?_
  rintro _ _ _ ⟨rfl, rfl, rfl⟩
  simp only [absE, absL, absF, reduceCtorEq, ↓reduceIte, Nat.reduceEqDiff, Nat.reduceAdd, Nat.reduceLT, Nat.reduceMul, Nat.reduceSub, Nat.reduceLeDiff, Int.reduceLT, Int.reduceLE, Int.reduceEq, Option.isSome_some, implies_true, false_implies, Prod.mk.injEq, ne_eq, not_false_eq_true, not_true_eq_false, ge_iff_le, gt_iff_lt, Int.toNat_natCast, Int.reduceToNat, Int.cast_ofNat_Int, Int.natCast_nonneg, Try.results113]
  exact ⟨[], by simp, by simp, by simp [renV, renVs, renSegs, renSg, renBlk]⟩

end Go.Proofs.Ytnophcdinideaaa
