/-
Contracts of functions of the given program, by the abstract walk.
-/
import Derived.Test.YtoccbgffekhcaaaAbsY
import Derived.Test.YtoccbgffekhcaaaDc
import Derived.Test.YtoccbgffekhcaaaFa
namespace Go.Proofs.Ytoccbgffekhcaaa
open Go Go.Abs
set_option linter.unusedVariables false
set_option linter.unusedSectionVars false
set_option linter.unusedSimpArgs false
set_option maxRecDepth 100000
/-! sums of a square modulo a prime -/
def PrP (p : Int) : Prop := p = 2 ∨ p = 3 ∨ p = 5 ∨ p = 7
instance (p : Int) : Decidable (PrP p) := by unfold PrP; infer_instance
def prB (p : Int) : Bool := decide (PrP p)
theorem PrP.le {p : Int} (h : PrP p) : 2 ≤ p ∧ p ≤ 7 := by unfold PrP at h; omega
def SumP (p : Int) (N : Nat) (xs : List Int) (k : Nat) : Prop := (∀ i, i < k → 0 ≤ xs.getD i 0 ∧ xs.getD i 0 ≤ p - 1) ∧ k = N
open Classical in
noncomputable def sumB (p : Int) (N : Nat) (xs : List Int) (k : Nat) : Bool := decide (SumP p N xs k)
theorem sumB_true {p : Int} {N : Nat} {xs : List Int} {k : Nat} (h : SumP p N xs k) : sumB p N xs k = true := by unfold sumB; exact @decide_eq_true _ (_) h
theorem sumB_false {p : Int} {N : Nat} {xs : List Int} {k : Nat} (h : ¬SumP p N xs k) : sumB p N xs k = false := by unfold sumB; exact @decide_eq_false _ (_) h
theorem sumB_iff {p : Int} {N : Nat} {xs : List Int} {k : Nat} : sumB p N xs k = true ↔ SumP p N xs k := by unfold sumB; exact @decide_eq_true_iff _ (_)
noncomputable def rcd1 (n : Int) (t : List Int) (p : Int) (xs : List Int) (k : Nat) : Int := if loopB n t then (if prB p && sumB p n.toNat xs k then 0 else 2) else 1
end Go.Proofs.Ytoccbgffekhcaaa
