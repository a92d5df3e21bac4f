/-
Contracts of functions of the given program, by the abstract walk.
-/
import Derived.Test.YtcaadjjgggjefaaAbsY
import Derived.Test.YtcaadjjgggjefaaDo
import Derived.Test.YtcaadjjgggjefaaDc
namespace Go.Proofs.Ytcaadjjgggjefaa
open Go Go.Abs
set_option linter.unusedVariables false
set_option linter.unusedSectionVars false
set_option linter.unusedSimpArgs false
set_option maxRecDepth 100000
def assoc3 (t : List Int) (x y z : Nat) : Bool := decide (cl t (cl t x y) z = cl t x (cl t y z))
theorem assoc3_true {t : List Int} {x y z : Nat} (h : cl t (cl t x y) z = cl t x (cl t y z)) : assoc3 t x y z = true := decide_eq_true h
theorem assoc3_false {t : List Int} {x y z : Nat} (h : ¬cl t (cl t x y) z = cl t x (cl t y z)) : assoc3 t x y z = false := decide_eq_false h
theorem associates_ok (N : Nat) (t : List Int) (x y z : Nat) (ht : Bytes 100 t) (hs : SqP N t) (hx : x < N) (hy : y < N) (hz : z < N) :
    ACalls Try.prog 97 [.agg (sqS N t), .i .u8 x, .i .u8 y, .i .u8 z] [] (fun v ms ns => v = .b (assoc3 t x y z) ∧ ms = [] ∧ ns = []) := by
  have hN := hs.le
  have j1 := hs.cl_lt hx hy
  have j2 := hs.cl_lt hy hz
  have i1 : (x : Int) < 10 := by omega
  have i2 : (y : Int) < 10 := by omega
  have i3 : (z : Int) < 10 := by omega
  have i4 : (cl t x y : Int) < 10 := by omega
  have i5 : (cl t y z : Int) < 10 := by omega
  have u1 : 0 + x * 10 + y * 1 < 100 := by omega
  have u2 : 0 + y * 10 + z * 1 < 100 := by omega
  have u3 : 0 + cl t x y * 10 + z * 1 < 100 := by omega
  have u4 : 0 + x * 10 + cl t y z * 1 < 100 := by omega
  have k1 := sq_colget ht x y
  have k2 := sq_colget ht y z
  have k3 := sq_colget ht (cl t x y) z
  have k4 := sq_colget ht x (cl t y z)
  refine acalls_of_body mix Try.func97 rfl fok97 (Nat.le_of_ble_eq_true rfl) ?_
  unfold abody
  by_cases hc : cl t (cl t x y) z = cl t x (cl t y z)
  · have g : (cl t (cl t x y) z : Int) = cl t x (cl t y z) := by omega
    simp only [absE, absL, absF, reduceCtorEq, ↓reduceIte, Nat.reduceEqDiff, Nat.reduceAdd, Nat.reduceLT, Nat.reduceMul, Nat.reduceSub, Nat.reduceLeDiff, Int.reduceLT, Int.reduceLE, Int.reduceEq, Option.isSome_some, implies_true, false_implies, Prod.mk.injEq, ne_eq, not_false_eq_true, not_true_eq_false, ge_iff_le, gt_iff_lt, Int.toNat_natCast, Int.reduceToNat, Int.cast_ofNat_Int, Int.natCast_nonneg, i1, i2, i3, i4, i5, u1, u2, u3, u4, k1, k2, k3, k4, g, Try.f97, Try.results97]
    exact fin_true (assoc3_true hc)
  · have g : ¬(cl t (cl t x y) z : Int) = cl t x (cl t y z) := by omega
    simp only [absE, absL, absF, reduceCtorEq, ↓reduceIte, Nat.reduceEqDiff, Nat.reduceAdd, Nat.reduceLT, Nat.reduceMul, Nat.reduceSub, Nat.reduceLeDiff, Int.reduceLT, Int.reduceLE, Int.reduceEq, Option.isSome_some, implies_true, false_implies, Prod.mk.injEq, ne_eq, not_false_eq_true, not_true_eq_false, ge_iff_le, gt_iff_lt, Int.toNat_natCast, Int.reduceToNat, Int.cast_ofNat_Int, Int.natCast_nonneg, i1, i2, i3, i4, i5, u1, u2, u3, u4, k1, k2, k3, k4, g, Try.f97, Try.results97]
    exact fin_false (assoc3_false hc)
def nucG (side : Int) (t : List Int) (a x y : Nat) : Bool := if side = 0 then assoc3 t a x y else if side = 1 then assoc3 t x a y else assoc3 t x y a
noncomputable def nucB (side : Int) (N : Nat) (t : List Int) (a : Nat) : Bool := pairsB N (nucG side t a)
theorem setM_list {p : Nat → Bool} {N : Nat} (hN : N ≤ 10) : memL (setM p N).testBit 10 = memL p N := by
  rw [memL_more (n := N) hN fun i hi => by rw [setM_bit, decide_eq_false (by omega), Bool.false_and]]
  exact memL_congr fun i hi => by rw [setM_bit, decide_eq_true hi, Bool.true_and]
theorem setM_small {p : Nat → Bool} {N : Nat} (hN : N ≤ 10) : setM p N < 2 ^ 62 := by
  have h := setM_lt (p := p) (k := N)
  have h2 : (2 : Nat) ^ N ≤ 2 ^ 10 := Nat.pow_le_pow_right (by decide) (by omega)
  omega
/-- What a list of elements looks like when it is handed back. -/
def listV (l : List Int) : AV := .tup [.ref (.sl 1 0 0 0 l.length 1), .i .i64 0]
def listN (l : List Int) : List Blk := [.lv true [(0, .ints .i64 l.length l)]]
theorem nucB_iff {side : Int} {N : Nat} {t : List Int} {a : Nat} : nucB side N t a = true ↔ ∀ x, x < N → ∀ y, y < N → nucG side t a x y = true := pairsB_iff
theorem nucList_len {n : Int} {t : List Int} (h : loopB n t = true) {p : Nat → Bool} : (memL p n.toNat).length < 2 ^ 40 := by
  simp only [loopB, Bool.and_eq_true] at h
  have := (sqB_iff.1 h.1).2.1
  have := memL_len (p := p) (k := n.toNat)
  omega

end Go.Proofs.Ytcaadjjgggjefaa
