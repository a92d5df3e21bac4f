/-
Contracts of functions of the given program, by the abstract walk.
-/
import Derived.Test.YtoccbgffekhcaaaAbsY
import Derived.Test.YtoccbgffekhcaaaDh
import Derived.Test.YtoccbgffekhcaaaDi
namespace Go.Proofs.Ytoccbgffekhcaaa
open Go Go.Abs
set_option linter.unusedVariables false
set_option linter.unusedSectionVars false
set_option linter.unusedSimpArgs false
set_option maxRecDepth 100000
def paraG (N : Nat) (t : List Int) (k : Int) (x y : Nat) : Nat :=
  if k = 0 then cl t x y else if k = 1 then cl t y x else if k = 2 then fnd (cl t x) y N else if k = 3 then fnd (fun i => cl t i y) x N else if k = 4 then fnd (cl t y) x N else fnd (fun i => cl t i x) y N
theorem para_cases {k : Int} (h : 0 ≤ k ∧ k ≤ 5) : k = 0 ∨ k = 1 ∨ k = 2 ∨ k = 3 ∨ k = 4 ∨ k = 5 := by omega
theorem paraG_lt {N : Nat} {t : List Int} (hs : SqP N t) {k : Int} {x y : Nat} (hx : x < N) (hy : y < N) : paraG N t k x y < N := by
  unfold paraG
  split
  · exact hs.cl_lt hx hy
  · split
    · exact hs.cl_lt hy hx
    · split
      · exact PermF.fnd_lt (hs.rowP hx) hs.le hy
      · split
        · exact PermF.fnd_lt (hs.colP hy) hs.le hx
        · split
          · exact PermF.fnd_lt (hs.rowP hy) hs.le hx
          · exact PermF.fnd_lt (hs.colP hx) hs.le hy
theorem paraG_bytes {N : Nat} {t : List Int} (hs : SqP N t) {k : Int} : Bytes 100 (mkT (paraG N t k) N N) :=
  mkT_bytes hs.le fun x y hx hy => by have := paraG_lt (k := k) hs hx hy; have := hs.le; omega

def applyN (N : Nat) (t : List Int) (op : Int) (a b : Nat) : Nat := if op = 42 then cl t a b else if op = 47 then fnd (fun i => cl t i b) a N else fnd (cl t a) b N
theorem applyN_lt {N : Nat} {t : List Int} (hs : SqP N t) {k : Int} {x y : Nat} (hx : x < N) (hy : y < N) : applyN N t k x y < N := by
  unfold applyN
  split
  · exact hs.cl_lt hx hy
  · split
    · exact PermF.fnd_lt (hs.colP hy) hs.le hx
    · exact PermF.fnd_lt (hs.rowP hx) hs.le hy
theorem l03Apply_ok (N : Nat) (t : List Int) (op : Int) (a b : Nat) (ht : Bytes 100 t) (hs : SqP N t) (ha : a < N) (hb : b < N) :
    ACalls Try.prog 143 [.agg (sqS N t), .i .u8 op, .i .u8 a, .i .u8 b] [] (fun v ms ns => v = .i .u8 (applyN N t op a b) ∧ ms = [] ∧ ns = []) := by
  have hN := hs.le
  have i1 : (a : Int) < 10 := by omega
  have i2 : (b : Int) < 10 := by omega
  have u1 : 0 + a * 10 + b * 1 < 100 := by omega
  have k1 := sq_colget ht a b
  refine acalls_of_body mix Try.func143 rfl fok143 (Nat.le_of_ble_eq_true rfl) ?_
  unfold abody
  by_cases h1 : op = 42
  · simp only [absE, absL, absF, reduceCtorEq, ↓reduceIte, Nat.reduceEqDiff, Nat.reduceAdd, Nat.reduceLT, Nat.reduceMul, Nat.reduceSub, Nat.reduceLeDiff, Int.reduceLT, Int.reduceLE, Int.reduceEq, Option.isSome_some, implies_true, false_implies, Prod.mk.injEq, ne_eq, not_false_eq_true, not_true_eq_false, ge_iff_le, gt_iff_lt, Int.toNat_natCast, Int.reduceToNat, Int.cast_ofNat_Int, Int.natCast_nonneg, h1, i1, i2, u1, k1, Try.f143, Try.results143]
    exact ⟨[], by simp, by simp, by simp [renV, renVs, renSegs, renSg, applyN, h1]⟩
  · by_cases h2 : op = 47
    · subst h2
      simp only [absE, absL, absF, reduceCtorEq, ↓reduceIte, Nat.reduceEqDiff, Nat.reduceAdd, Nat.reduceLT, Nat.reduceMul, Nat.reduceSub, Nat.reduceLeDiff, Int.reduceLT, Int.reduceLE, Int.reduceEq, Option.isSome_some, implies_true, false_implies, Prod.mk.injEq, ne_eq, not_false_eq_true, not_true_eq_false, ge_iff_le, gt_iff_lt, Int.toNat_natCast, Int.reduceToNat, Int.cast_ofNat_Int, Int.natCast_nonneg, Try.f143]
      refine CallsVia.none (specRight_ok N t a b ht hs ha hb) ?_
      rintro _ _ _ ⟨rfl, rfl, rfl⟩
      simp only [absE, absL, absF, reduceCtorEq, ↓reduceIte, Nat.reduceEqDiff, Nat.reduceAdd, Nat.reduceLT, Nat.reduceMul, Nat.reduceSub, Nat.reduceLeDiff, Int.reduceLT, Int.reduceLE, Int.reduceEq, Option.isSome_some, implies_true, false_implies, Prod.mk.injEq, ne_eq, not_false_eq_true, not_true_eq_false, ge_iff_le, gt_iff_lt, Int.toNat_natCast, Int.reduceToNat, Int.cast_ofNat_Int, Int.natCast_nonneg, Try.results143]
      exact ⟨[], by simp, by simp, by simp [renV, renVs, renSegs, renSg, applyN]⟩
    · simp only [absE, absL, absF, reduceCtorEq, ↓reduceIte, Nat.reduceEqDiff, Nat.reduceAdd, Nat.reduceLT, Nat.reduceMul, Nat.reduceSub, Nat.reduceLeDiff, Int.reduceLT, Int.reduceLE, Int.reduceEq, Option.isSome_some, implies_true, false_implies, Prod.mk.injEq, ne_eq, not_false_eq_true, not_true_eq_false, ge_iff_le, gt_iff_lt, Int.toNat_natCast, Int.reduceToNat, Int.cast_ofNat_Int, Int.natCast_nonneg, h1, h2, Try.f143]
      refine CallsVia.none (specLeft_ok N t a b ht hs ha hb) ?_
      rintro _ _ _ ⟨rfl, rfl, rfl⟩
      simp only [absE, absL, absF, reduceCtorEq, ↓reduceIte, Nat.reduceEqDiff, Nat.reduceAdd, Nat.reduceLT, Nat.reduceMul, Nat.reduceSub, Nat.reduceLeDiff, Int.reduceLT, Int.reduceLE, Int.reduceEq, Option.isSome_some, implies_true, false_implies, Prod.mk.injEq, ne_eq, not_false_eq_true, not_true_eq_false, ge_iff_le, gt_iff_lt, Int.toNat_natCast, Int.reduceToNat, Int.cast_ofNat_Int, Int.natCast_nonneg, Try.results143]
      exact ⟨[], by simp, by simp, by simp [renV, renVs, renSegs, renSg, applyN, h1, h2]⟩

noncomputable def pcode (n : Int) (t : List Int) (k : Int) : Int := if sqB n t then (if 0 ≤ k ∧ k ≤ 5 then 0 else 2) else 1
noncomputable def paraAV (n : Int) (t : List Int) (k : Int) : AV := resSq (pcode n t k) n (mkT (paraG n.toNat t k) n.toNat n.toNat)
theorem para_form (n : Int) (t : List Int) (k : Int) (ht : Bytes 100 t) (hk : -2 ^ 63 ≤ k ∧ k < 2 ^ 63) : ∃ m s e, s.length = 100 ∧ paraAV n t k = .tup [.agg (sqS m s), .i .i64 e] := resSq_form _ _ mkT_len
end Go.Proofs.Ytoccbgffekhcaaa
