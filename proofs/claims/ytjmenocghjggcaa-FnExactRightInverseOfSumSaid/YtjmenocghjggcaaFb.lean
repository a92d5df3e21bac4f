/-
Contracts of functions of the given program, by the abstract walk.
-/
import Derived.Test.YtjmenocghjggcaaAbsY
import Derived.Test.YtjmenocghjggcaaFa
import Derived.Test.YtjmenocghjggcaaCc
namespace Go.Proofs.Ytjmenocghjggcaa
open Go Go.Abs
set_option linter.unusedVariables false
set_option linter.unusedSectionVars false
set_option linter.unusedSimpArgs false
set_option maxRecDepth 100000
/-! ascending lists of elements -/
def okAt (N : Nat) (xs : List Int) (off i : Nat) : Prop := (0 ≤ xs.getD (off + i * 1) 0 ∧ xs.getD (off + i * 1) 0 ≤ (N : Int) - 1) ∧ (0 < i → xs.getD (off + (i - 1) * 1) 0 < xs.getD (off + i * 1) 0)
def ListP (N : Nat) (xs : List Int) (off k : Nat) : Prop := ∀ i, i < k → okAt N xs off i
open Classical in
noncomputable def listB (N : Nat) (xs : List Int) (off k : Nat) : Bool := decide (ListP N xs off k)
theorem listB_true {N : Nat} {xs : List Int} {off k : Nat} (h : ListP N xs off k) : listB N xs off k = true := by unfold listB; exact @decide_eq_true _ (_) h
theorem listB_false {N : Nat} {xs : List Int} {off k : Nat} (h : ¬ListP N xs off k) : listB N xs off k = false := by unfold listB; exact @decide_eq_false _ (_) h
theorem listB_iff {N : Nat} {xs : List Int} {off k : Nat} : listB N xs off k = true ↔ ListP N xs off k := by unfold listB; exact @decide_eq_true_iff _ (_)
end Go.Proofs.Ytjmenocghjggcaa
