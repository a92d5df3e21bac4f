/-
Contracts of functions of the given program, by the abstract walk.
-/
import Derived.Test.YtoccbgffekhcaaaAbsY
import Derived.Test.YtoccbgffekhcaaaHc
import Derived.Test.YtoccbgffekhcaaaDp
namespace Go.Proofs.Ytoccbgffekhcaaa
open Go Go.Abs
set_option linter.unusedVariables false
set_option linter.unusedSectionVars false
set_option linter.unusedSimpArgs false
set_option maxRecDepth 100000
def comN (N : Nat) (t : List Int) (x y : Nat) : Nat := fnd (cl t (cl t y x)) (cl t x y) N
def ascN (N : Nat) (t : List Int) (x y z : Nat) : Nat := fnd (cl t (cl t x (cl t y z))) (cl t (cl t x y) z) N
theorem comN_lt {N : Nat} {t : List Int} {x y : Nat} (hs : SqP N t) (hx : x < N) (hy : y < N) : comN N t x y < N := (hs.rowP (hs.cl_lt hy hx)).fnd_lt hs.le (hs.cl_lt hx hy)
theorem ascN_lt {N : Nat} {t : List Int} {x y z : Nat} (hs : SqP N t) (hx : x < N) (hy : y < N) (hz : z < N) : ascN N t x y z < N := (hs.rowP (hs.cl_lt hx (hs.cl_lt hy hz))).fnd_lt hs.le (hs.cl_lt (hs.cl_lt hx hy) hz)
theorem implCom_ok (N : Nat) (t : List Int) (x y : Nat) (ht : Bytes 100 t) (hs : SqP N t) (hx : x < N) (hy : y < N) :
    ACalls Try.prog 125 [.agg (sqS N t), .i .u8 x, .i .u8 y] [] (fun v ms ns => v = .i .u8 (comN N t x y) ∧ ms = [] ∧ ns = []) := by
  have hN := hs.le
  have i1 : (x : Int) < 10 := by omega
  have i2 : (y : Int) < 10 := by omega
  have u1 : 0 + x * 10 + y * 1 < 100 := by omega
  have u2 : 0 + y * 10 + x * 1 < 100 := by omega
  have k1 := sq_colget ht x y
  have k2 := sq_colget ht y x
  refine acalls_of_body mix Try.func125 rfl fok125 (Nat.le_of_ble_eq_true rfl) ?_
  unfold abody
  simp only [absE, absL, absF, reduceCtorEq, ↓reduceIte, Nat.reduceEqDiff, Nat.reduceAdd, Nat.reduceLT, Nat.reduceMul, Nat.reduceSub, Nat.reduceLeDiff, Int.reduceLT, Int.reduceLE, Int.reduceEq, Option.isSome_some, implies_true, false_implies, Prod.mk.injEq, ne_eq, not_false_eq_true, not_true_eq_false, ge_iff_le, gt_iff_lt, Int.toNat_natCast, Int.reduceToNat, Int.cast_ofNat_Int, Int.natCast_nonneg, i1, i2, u1, u2, k1, k2, Try.f125]
  repeat refine And.intro (by decide +kernel) ?_
  refine CallsX.none (implLeft_ok N t (cl t y x) (cl t x y) ht hs (hs.cl_lt hy hx) (hs.cl_lt hx hy)) ?_
  simp only [absE, absL, absF, reduceCtorEq, ↓reduceIte, Nat.reduceEqDiff, Nat.reduceAdd, Nat.reduceLT, Nat.reduceMul, Nat.reduceSub, Nat.reduceLeDiff, Int.reduceLT, Int.reduceLE, Int.reduceEq, Option.isSome_some, implies_true, false_implies, Prod.mk.injEq, ne_eq, not_false_eq_true, not_true_eq_false, ge_iff_le, gt_iff_lt, Int.toNat_natCast, Int.reduceToNat, Int.cast_ofNat_Int, Int.natCast_nonneg, Try.results125]
  repeat refine And.intro (by decide +kernel) ?_
  exact ⟨[], by simp, by simp, by simp [renV, renVs, renSegs, renSg, comN]⟩
theorem implAsc_ok (N : Nat) (t : List Int) (x y z : Nat) (ht : Bytes 100 t) (hs : SqP N t) (hx : x < N) (hy : y < N) (hz : z < N) :
    ACalls Try.prog 122 [.agg (sqS N t), .i .u8 x, .i .u8 y, .i .u8 z] [] (fun v ms ns => v = .i .u8 (ascN N t x y z) ∧ ms = [] ∧ ns = []) := by
  have hN := hs.le
  have j1 := hs.cl_lt hx hy
  have j2 := hs.cl_lt hy hz
  have i1 : (x : Int) < 10 := by omega
  have i2 : (y : Int) < 10 := by omega
  have i3 : (z : Int) < 10 := by omega
  have i4 : (cl t x y : Int) < 10 := by omega
  have i5 : (cl t y z : Int) < 10 := by omega
  have u1 : 0 + x * 10 + y * 1 < 100 := by omega
  have u2 : 0 + y * 10 + z * 1 < 100 := by omega
  have u3 : 0 + cl t x y * 10 + z * 1 < 100 := by omega
  have u4 : 0 + x * 10 + cl t y z * 1 < 100 := by omega
  have k1 := sq_colget ht x y
  have k2 := sq_colget ht y z
  have k3 := sq_colget ht (cl t x y) z
  have k4 := sq_colget ht x (cl t y z)
  refine acalls_of_body mix Try.func122 rfl fok122 (Nat.le_of_ble_eq_true rfl) ?_
  unfold abody
  simp only [absE, absL, absF, reduceCtorEq, ↓reduceIte, Nat.reduceEqDiff, Nat.reduceAdd, Nat.reduceLT, Nat.reduceMul, Nat.reduceSub, Nat.reduceLeDiff, Int.reduceLT, Int.reduceLE, Int.reduceEq, Option.isSome_some, implies_true, false_implies, Prod.mk.injEq, ne_eq, not_false_eq_true, not_true_eq_false, ge_iff_le, gt_iff_lt, Int.toNat_natCast, Int.reduceToNat, Int.cast_ofNat_Int, Int.natCast_nonneg, i1, i2, i3, i4, i5, u1, u2, u3, u4, k1, k2, k3, k4, Try.f122]
  repeat refine And.intro (by decide +kernel) ?_
  refine CallsX.none (implLeft_ok N t (cl t x (cl t y z)) (cl t (cl t x y) z) ht hs (hs.cl_lt hx j2) (hs.cl_lt j1 hz)) ?_
  simp only [absE, absL, absF, reduceCtorEq, ↓reduceIte, Nat.reduceEqDiff, Nat.reduceAdd, Nat.reduceLT, Nat.reduceMul, Nat.reduceSub, Nat.reduceLeDiff, Int.reduceLT, Int.reduceLE, Int.reduceEq, Option.isSome_some, implies_true, false_implies, Prod.mk.injEq, ne_eq, not_false_eq_true, not_true_eq_false, ge_iff_le, gt_iff_lt, Int.toNat_natCast, Int.reduceToNat, Int.cast_ofNat_Int, Int.natCast_nonneg, Try.results122]
  repeat refine And.intro (by decide +kernel) ?_
  exact ⟨[], by simp, by simp, by simp [renV, renVs, renSegs, renSg, ascN]⟩
def upG (N : Nat) (t : List Int) (p : Nat → Bool) (a x y : Nat) : Bool := p (comN N t a x) && p (ascN N t a x y) && p (ascN N t x a y) && p (ascN N t x y a)
noncomputable def upB (N : Nat) (t : List Int) (p : Nat → Bool) (a : Nat) : Bool := pairsB N (upG N t p a)
end Go.Proofs.Ytoccbgffekhcaaa
