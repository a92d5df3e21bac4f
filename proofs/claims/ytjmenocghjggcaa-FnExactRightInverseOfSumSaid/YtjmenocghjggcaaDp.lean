/-
Contracts of functions of the given program, by the abstract walk.
-/
import Derived.Test.YtjmenocghjggcaaAbsY
import Derived.Test.YtjmenocghjggcaaDo
import Derived.Test.YtjmenocghjggcaaDc
namespace Go.Proofs.Ytjmenocghjggcaa
open Go Go.Abs
set_option linter.unusedVariables false
set_option linter.unusedSectionVars false
set_option linter.unusedSimpArgs false
set_option maxRecDepth 100000
def assoc3 (t : List Int) (x y z : Nat) : Bool := decide (cl t (cl t x y) z = cl t x (cl t y z))
theorem assoc3_true {t : List Int} {x y z : Nat} (h : cl t (cl t x y) z = cl t x (cl t y z)) : assoc3 t x y z = true := decide_eq_true h
theorem assoc3_false {t : List Int} {x y z : Nat} (h : ¬cl t (cl t x y) z = cl t x (cl t y z)) : assoc3 t x y z = false := decide_eq_false h
def nucG (side : Int) (t : List Int) (a x y : Nat) : Bool := if side = 0 then assoc3 t a x y else if side = 1 then assoc3 t x a y else assoc3 t x y a
noncomputable def nucB (side : Int) (N : Nat) (t : List Int) (a : Nat) : Bool := pairsB N (nucG side t a)
theorem setM_list {p : Nat → Bool} {N : Nat} (hN : N ≤ 10) : memL (setM p N).testBit 10 = memL p N := by
  rw [memL_more (n := N) hN fun i hi => by rw [setM_bit, decide_eq_false (by omega), Bool.false_and]]
  exact memL_congr fun i hi => by rw [setM_bit, decide_eq_true hi, Bool.true_and]
theorem setM_small {p : Nat → Bool} {N : Nat} (hN : N ≤ 10) : setM p N < 2 ^ 62 := by
  have h := setM_lt (p := p) (k := N)
  have h2 : (2 : Nat) ^ N ≤ 2 ^ 10 := Nat.pow_le_pow_right (by decide) (by omega)
  omega
/-- What a list of elements looks like when it is handed back. -/
def listV (l : List Int) : AV := .tup [.ref (.sl 1 0 0 0 l.length 1), .i .i64 0]
def listN (l : List Int) : List Blk := [.lv true [(0, .ints .i64 l.length l)]]
theorem nucB_iff {side : Int} {N : Nat} {t : List Int} {a : Nat} : nucB side N t a = true ↔ ∀ x, x < N → ∀ y, y < N → nucG side t a x y = true := pairsB_iff
theorem nucList_len {n : Int} {t : List Int} (h : loopB n t = true) {p : Nat → Bool} : (memL p n.toNat).length < 2 ^ 40 := by
  simp only [loopB, Bool.and_eq_true] at h
  have := (sqB_iff.1 h.1).2.1
  have := memL_len (p := p) (k := n.toNat)
  omega

end Go.Proofs.Ytjmenocghjggcaa
